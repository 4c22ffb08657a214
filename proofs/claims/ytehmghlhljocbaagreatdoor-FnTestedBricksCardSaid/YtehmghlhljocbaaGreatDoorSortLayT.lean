/-
  slices.Sort at this program's numbers: what lay-plain wrote.
-/
import Derived.Shelf.SlGeneric
import Derived.Ground.SlgnProg
import Derived.Shelf.SortG.Plain
import Derived.Shelf.SortG.SortNone
import Derived.Test.YtehmghlhljocbaaGreatDoorProg
namespace Go.Proofs
open Go.Shelf
def Tryz.sortI_ren : Go.Shelf.Ren := ⟨fun | 53 => 52 | 64 => 77 | 63 => 76 | 78 => 97 | 79 => 98 | 70 => 88 | 71 => 89 | 72 => 90 | 73 => 91 | 74 => 92 | 75 => 93 | 59 => 94 | 76 => 95 | 77 => 96 | 88 => 107 | 89 => 108 | 90 => 109 | 91 => 110 | 92 => 111 | 68 => 112 | 96 => 126 | n => n, fun | 22 => 70 | 23 => 2 | 3 => 3 | 51 => 97 | 0 => 0 | 67 => 121 | 69 => 85 | 4 => 4 | 61 => 113 | 60 => 112 | 44 => 118 | 5 => 5 | 9 => 9 | 75 => 129 | 79 => 133 | 83 => 148 | 84 => 149 | n => n, fun | n => n⟩
theorem Tryz.sortI : Go.Proofs.SlLaysN.n53 Tryz.prog Tryz.sortI_ren := {
  mixed := by kernel_rfl
  f53 := ⟨Tryz.f52.name, by decide, Tryz.func52.trans (congrArg some (by kernel_rfl))⟩
  f59 := ⟨Tryz.f94.name, by decide, Tryz.func94.trans (congrArg some (by kernel_rfl))⟩
  f63 := ⟨Tryz.f76.name, by decide, Tryz.func76.trans (congrArg some (by kernel_rfl))⟩
  f64 := Tryz.func77.trans (congrArg some (by kernel_rfl))
  f68 := ⟨Tryz.f112.name, by decide, Tryz.func112.trans (congrArg some (by kernel_rfl))⟩
  f70 := ⟨Tryz.f88.name, by decide, Tryz.func88.trans (congrArg some (by kernel_rfl))⟩
  f71 := ⟨Tryz.f89.name, by decide, Tryz.func89.trans (congrArg some (by kernel_rfl))⟩
  f72 := ⟨Tryz.f90.name, by decide, Tryz.func90.trans (congrArg some (by kernel_rfl))⟩
  f73 := ⟨Tryz.f91.name, by decide, Tryz.func91.trans (congrArg some (by kernel_rfl))⟩
  f74 := ⟨Tryz.f92.name, by decide, Tryz.func92.trans (congrArg some (by kernel_rfl))⟩
  f75 := ⟨Tryz.f93.name, by decide, Tryz.func93.trans (congrArg some (by kernel_rfl))⟩
  f76 := ⟨Tryz.f95.name, by decide, Tryz.func95.trans (congrArg some (by kernel_rfl))⟩
  f77 := ⟨Tryz.f96.name, by decide, Tryz.func96.trans (congrArg some (by kernel_rfl))⟩
  f78 := Tryz.func97.trans (congrArg some (by kernel_rfl))
  f79 := Tryz.func98.trans (congrArg some (by kernel_rfl))
  f88 := ⟨Tryz.f107.name, by decide, Tryz.func107.trans (congrArg some (by kernel_rfl))⟩
  f89 := Tryz.func108.trans (congrArg some (by kernel_rfl))
  f90 := Tryz.func109.trans (congrArg some (by kernel_rfl))
  f91 := ⟨Tryz.f110.name, by decide, Tryz.func110.trans (congrArg some (by kernel_rfl))⟩
  f92 := ⟨Tryz.f111.name, by decide, Tryz.func111.trans (congrArg some (by kernel_rfl))⟩
  f96 := ⟨Tryz.f126.name, by decide, Tryz.func126.trans (congrArg some (by kernel_rfl))⟩
  t0 := Tryz.underlying0
  a0 := Tryz.isAgg0
  z0 := Tryz.sizeOf0
  v0 := Tryz.zeroValue0
  t3 := Tryz.underlying3
  a3 := Tryz.isAgg3
  z3 := Tryz.sizeOf3
  v3 := Tryz.zeroValue3
  t4 := Tryz.underlying4
  a4 := Tryz.isAgg4
  z4 := Tryz.sizeOf4
  v4 := Tryz.zeroValue4
  t5 := Tryz.underlying5
  a5 := Tryz.isAgg5
  z5 := Tryz.sizeOf5
  v5 := Tryz.zeroValue5
  t9 := Tryz.underlying9
  a9 := Tryz.isAgg9
  z9 := Tryz.sizeOf9
  v9 := Tryz.zeroValue9
  t22 := Tryz.underlying70
  a22 := Tryz.isAgg70
  z22 := Tryz.sizeOf70
  v22 := Tryz.zeroValue70
  t23 := Tryz.underlying2
  a23 := Tryz.isAgg2
  z23 := Tryz.sizeOf2
  v23 := Tryz.zeroValue2
  t44 := Tryz.underlying118
  a44 := Tryz.isAgg118
  z44 := Tryz.sizeOf118
  v44 := Tryz.zeroValue118
  t51 := Tryz.underlying97
  a51 := Tryz.isAgg97
  z51 := Tryz.sizeOf97
  v51 := Tryz.zeroValue97
  t60 := Tryz.underlying112
  a60 := Tryz.isAgg112
  z60 := Tryz.sizeOf112
  v60 := Tryz.zeroValue112
  t61 := Tryz.underlying113
  a61 := Tryz.isAgg113
  z61 := Tryz.sizeOf113
  v61 := Tryz.zeroValue113
  t67 := Tryz.underlying121
  a67 := Tryz.isAgg121
  z67 := Tryz.sizeOf121
  v67 := Tryz.zeroValue121
  t69 := Tryz.underlying85
  a69 := Tryz.isAgg85
  z69 := Tryz.sizeOf85
  v69 := Tryz.zeroValue85
  t75 := Tryz.underlying129
  a75 := Tryz.isAgg129
  z75 := Tryz.sizeOf129
  v75 := Tryz.zeroValue129
  t79 := Tryz.underlying133
  a79 := Tryz.isAgg133
  z79 := Tryz.sizeOf133
  v79 := Tryz.zeroValue133
  t83 := Tryz.underlying148
  a83 := Tryz.isAgg148
  z83 := Tryz.sizeOf148
  v83 := Tryz.zeroValue148
  t84 := Tryz.underlying149
  a84 := Tryz.isAgg149
  z84 := Tryz.sizeOf149
  v84 := Tryz.zeroValue149 }
end Go.Proofs
