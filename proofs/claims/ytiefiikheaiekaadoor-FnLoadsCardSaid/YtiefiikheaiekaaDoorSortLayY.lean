/-
  slices.Sort at this program's numbers: what lay-plain wrote.
-/
import Derived.Shelf.SlGeneric
import Derived.Ground.SlgnProg
import Derived.Shelf.SortG.Plain
import Derived.Shelf.SortG.SortNone
import Derived.Test.YtiefiikheaiekaaDoorProg
namespace Go.Proofs
open Go.Shelf
def Tryd.sortI_ren : Go.Shelf.Ren := ⟨fun | 53 => 66 | 64 => 76 | 63 => 75 | 78 => 90 | 79 => 91 | 70 => 81 | 71 => 82 | 72 => 83 | 73 => 84 | 74 => 85 | 75 => 86 | 59 => 87 | 76 => 88 | 77 => 89 | 88 => 95 | 89 => 96 | 90 => 97 | 91 => 98 | 92 => 99 | 68 => 100 | 96 => 104 | n => n, fun | 22 => 23 | 23 => 2 | 3 => 3 | 51 => 93 | 0 => 0 | 67 => 116 | 69 => 79 | 4 => 4 | 61 => 108 | 60 => 107 | 44 => 113 | 5 => 5 | 9 => 9 | 75 => 120 | 79 => 124 | 83 => 129 | 84 => 63 | n => n, fun | n => n⟩
theorem Tryd.sortI : Go.Proofs.SlLaysN.n53 Tryd.prog Tryd.sortI_ren := {
  mixed := by kernel_rfl
  f53 := ⟨Tryd.f66.name, by decide, Tryd.func66.trans (congrArg some (by kernel_rfl))⟩
  f59 := ⟨Tryd.f87.name, by decide, Tryd.func87.trans (congrArg some (by kernel_rfl))⟩
  f63 := ⟨Tryd.f75.name, by decide, Tryd.func75.trans (congrArg some (by kernel_rfl))⟩
  f64 := Tryd.func76.trans (congrArg some (by kernel_rfl))
  f68 := ⟨Tryd.f100.name, by decide, Tryd.func100.trans (congrArg some (by kernel_rfl))⟩
  f70 := ⟨Tryd.f81.name, by decide, Tryd.func81.trans (congrArg some (by kernel_rfl))⟩
  f71 := ⟨Tryd.f82.name, by decide, Tryd.func82.trans (congrArg some (by kernel_rfl))⟩
  f72 := ⟨Tryd.f83.name, by decide, Tryd.func83.trans (congrArg some (by kernel_rfl))⟩
  f73 := ⟨Tryd.f84.name, by decide, Tryd.func84.trans (congrArg some (by kernel_rfl))⟩
  f74 := ⟨Tryd.f85.name, by decide, Tryd.func85.trans (congrArg some (by kernel_rfl))⟩
  f75 := ⟨Tryd.f86.name, by decide, Tryd.func86.trans (congrArg some (by kernel_rfl))⟩
  f76 := ⟨Tryd.f88.name, by decide, Tryd.func88.trans (congrArg some (by kernel_rfl))⟩
  f77 := ⟨Tryd.f89.name, by decide, Tryd.func89.trans (congrArg some (by kernel_rfl))⟩
  f78 := Tryd.func90.trans (congrArg some (by kernel_rfl))
  f79 := Tryd.func91.trans (congrArg some (by kernel_rfl))
  f88 := ⟨Tryd.f95.name, by decide, Tryd.func95.trans (congrArg some (by kernel_rfl))⟩
  f89 := Tryd.func96.trans (congrArg some (by kernel_rfl))
  f90 := Tryd.func97.trans (congrArg some (by kernel_rfl))
  f91 := ⟨Tryd.f98.name, by decide, Tryd.func98.trans (congrArg some (by kernel_rfl))⟩
  f92 := ⟨Tryd.f99.name, by decide, Tryd.func99.trans (congrArg some (by kernel_rfl))⟩
  f96 := ⟨Tryd.f104.name, by decide, Tryd.func104.trans (congrArg some (by kernel_rfl))⟩
  t0 := Tryd.underlying0
  a0 := Tryd.isAgg0
  z0 := Tryd.sizeOf0
  v0 := Tryd.zeroValue0
  t3 := Tryd.underlying3
  a3 := Tryd.isAgg3
  z3 := Tryd.sizeOf3
  v3 := Tryd.zeroValue3
  t4 := Tryd.underlying4
  a4 := Tryd.isAgg4
  z4 := Tryd.sizeOf4
  v4 := Tryd.zeroValue4
  t5 := Tryd.underlying5
  a5 := Tryd.isAgg5
  z5 := Tryd.sizeOf5
  v5 := Tryd.zeroValue5
  t9 := Tryd.underlying9
  a9 := Tryd.isAgg9
  z9 := Tryd.sizeOf9
  v9 := Tryd.zeroValue9
  t22 := Tryd.underlying23
  a22 := Tryd.isAgg23
  z22 := Tryd.sizeOf23
  v22 := Tryd.zeroValue23
  t23 := Tryd.underlying2
  a23 := Tryd.isAgg2
  z23 := Tryd.sizeOf2
  v23 := Tryd.zeroValue2
  t44 := Tryd.underlying113
  a44 := Tryd.isAgg113
  z44 := Tryd.sizeOf113
  v44 := Tryd.zeroValue113
  t51 := Tryd.underlying93
  a51 := Tryd.isAgg93
  z51 := Tryd.sizeOf93
  v51 := Tryd.zeroValue93
  t60 := Tryd.underlying107
  a60 := Tryd.isAgg107
  z60 := Tryd.sizeOf107
  v60 := Tryd.zeroValue107
  t61 := Tryd.underlying108
  a61 := Tryd.isAgg108
  z61 := Tryd.sizeOf108
  v61 := Tryd.zeroValue108
  t67 := Tryd.underlying116
  a67 := Tryd.isAgg116
  z67 := Tryd.sizeOf116
  v67 := Tryd.zeroValue116
  t69 := Tryd.underlying79
  a69 := Tryd.isAgg79
  z69 := Tryd.sizeOf79
  v69 := Tryd.zeroValue79
  t75 := Tryd.underlying120
  a75 := Tryd.isAgg120
  z75 := Tryd.sizeOf120
  v75 := Tryd.zeroValue120
  t79 := Tryd.underlying124
  a79 := Tryd.isAgg124
  z79 := Tryd.sizeOf124
  v79 := Tryd.zeroValue124
  t83 := Tryd.underlying129
  a83 := Tryd.isAgg129
  z83 := Tryd.sizeOf129
  v83 := Tryd.zeroValue129
  t84 := Tryd.underlying63
  a84 := Tryd.isAgg63
  z84 := Tryd.sizeOf63
  v84 := Tryd.zeroValue63 }
end Go.Proofs
