/-
  slices.Sort at this program's numbers: what lay-plain wrote.
-/
import Derived.Shelf.SlGeneric
import Derived.Ground.SlgnProg
import Derived.Shelf.SortG.Plain
import Derived.Shelf.SortG.SortNone
import Derived.Test.YtjgpppcjhneibaaGreatDoorProg
namespace Go.Proofs
open Go.Shelf
def Tryz.sortI_ren : Go.Shelf.Ren := ⟨fun | 53 => 48 | 64 => 64 | 63 => 63 | 78 => 88 | 79 => 89 | 70 => 79 | 71 => 80 | 72 => 81 | 73 => 82 | 74 => 83 | 75 => 84 | 59 => 85 | 76 => 86 | 77 => 87 | 88 => 102 | 89 => 103 | 90 => 104 | 91 => 105 | 92 => 106 | 68 => 107 | 96 => 119 | n => n, fun | 22 => 32 | 23 => 2 | 3 => 3 | 51 => 87 | 0 => 0 | 67 => 112 | 69 => 74 | 4 => 4 | 61 => 104 | 60 => 103 | 44 => 109 | 5 => 5 | 9 => 9 | 75 => 124 | 79 => 128 | 83 => 147 | 84 => 148 | n => n, fun | n => n⟩
theorem Tryz.sortI : Go.Proofs.SlLaysN.n53 Tryz.prog Tryz.sortI_ren := {
  mixed := by kernel_rfl
  f53 := ⟨Tryz.f48.name, by decide, Tryz.func48.trans (congrArg some (by kernel_rfl))⟩
  f59 := ⟨Tryz.f85.name, by decide, Tryz.func85.trans (congrArg some (by kernel_rfl))⟩
  f63 := ⟨Tryz.f63.name, by decide, Tryz.func63.trans (congrArg some (by kernel_rfl))⟩
  f64 := Tryz.func64.trans (congrArg some (by kernel_rfl))
  f68 := ⟨Tryz.f107.name, by decide, Tryz.func107.trans (congrArg some (by kernel_rfl))⟩
  f70 := ⟨Tryz.f79.name, by decide, Tryz.func79.trans (congrArg some (by kernel_rfl))⟩
  f71 := ⟨Tryz.f80.name, by decide, Tryz.func80.trans (congrArg some (by kernel_rfl))⟩
  f72 := ⟨Tryz.f81.name, by decide, Tryz.func81.trans (congrArg some (by kernel_rfl))⟩
  f73 := ⟨Tryz.f82.name, by decide, Tryz.func82.trans (congrArg some (by kernel_rfl))⟩
  f74 := ⟨Tryz.f83.name, by decide, Tryz.func83.trans (congrArg some (by kernel_rfl))⟩
  f75 := ⟨Tryz.f84.name, by decide, Tryz.func84.trans (congrArg some (by kernel_rfl))⟩
  f76 := ⟨Tryz.f86.name, by decide, Tryz.func86.trans (congrArg some (by kernel_rfl))⟩
  f77 := ⟨Tryz.f87.name, by decide, Tryz.func87.trans (congrArg some (by kernel_rfl))⟩
  f78 := Tryz.func88.trans (congrArg some (by kernel_rfl))
  f79 := Tryz.func89.trans (congrArg some (by kernel_rfl))
  f88 := ⟨Tryz.f102.name, by decide, Tryz.func102.trans (congrArg some (by kernel_rfl))⟩
  f89 := Tryz.func103.trans (congrArg some (by kernel_rfl))
  f90 := Tryz.func104.trans (congrArg some (by kernel_rfl))
  f91 := ⟨Tryz.f105.name, by decide, Tryz.func105.trans (congrArg some (by kernel_rfl))⟩
  f92 := ⟨Tryz.f106.name, by decide, Tryz.func106.trans (congrArg some (by kernel_rfl))⟩
  f96 := ⟨Tryz.f119.name, by decide, Tryz.func119.trans (congrArg some (by kernel_rfl))⟩
  t0 := Tryz.underlying0
  a0 := Tryz.isAgg0
  z0 := Tryz.sizeOf0
  v0 := Tryz.zeroValue0
  t3 := Tryz.underlying3
  a3 := Tryz.isAgg3
  z3 := Tryz.sizeOf3
  v3 := Tryz.zeroValue3
  t4 := Tryz.underlying4
  a4 := Tryz.isAgg4
  z4 := Tryz.sizeOf4
  v4 := Tryz.zeroValue4
  t5 := Tryz.underlying5
  a5 := Tryz.isAgg5
  z5 := Tryz.sizeOf5
  v5 := Tryz.zeroValue5
  t9 := Tryz.underlying9
  a9 := Tryz.isAgg9
  z9 := Tryz.sizeOf9
  v9 := Tryz.zeroValue9
  t22 := Tryz.underlying32
  a22 := Tryz.isAgg32
  z22 := Tryz.sizeOf32
  v22 := Tryz.zeroValue32
  t23 := Tryz.underlying2
  a23 := Tryz.isAgg2
  z23 := Tryz.sizeOf2
  v23 := Tryz.zeroValue2
  t44 := Tryz.underlying109
  a44 := Tryz.isAgg109
  z44 := Tryz.sizeOf109
  v44 := Tryz.zeroValue109
  t51 := Tryz.underlying87
  a51 := Tryz.isAgg87
  z51 := Tryz.sizeOf87
  v51 := Tryz.zeroValue87
  t60 := Tryz.underlying103
  a60 := Tryz.isAgg103
  z60 := Tryz.sizeOf103
  v60 := Tryz.zeroValue103
  t61 := Tryz.underlying104
  a61 := Tryz.isAgg104
  z61 := Tryz.sizeOf104
  v61 := Tryz.zeroValue104
  t67 := Tryz.underlying112
  a67 := Tryz.isAgg112
  z67 := Tryz.sizeOf112
  v67 := Tryz.zeroValue112
  t69 := Tryz.underlying74
  a69 := Tryz.isAgg74
  z69 := Tryz.sizeOf74
  v69 := Tryz.zeroValue74
  t75 := Tryz.underlying124
  a75 := Tryz.isAgg124
  z75 := Tryz.sizeOf124
  v75 := Tryz.zeroValue124
  t79 := Tryz.underlying128
  a79 := Tryz.isAgg128
  z79 := Tryz.sizeOf128
  v79 := Tryz.zeroValue128
  t83 := Tryz.underlying147
  a83 := Tryz.isAgg147
  z83 := Tryz.sizeOf147
  v83 := Tryz.zeroValue147
  t84 := Tryz.underlying148
  a84 := Tryz.isAgg148
  z84 := Tryz.sizeOf148
  v84 := Tryz.zeroValue148 }
end Go.Proofs
