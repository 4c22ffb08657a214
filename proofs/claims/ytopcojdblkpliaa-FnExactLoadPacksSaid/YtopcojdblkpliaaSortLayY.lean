/-
  slices.Sort at this program's numbers: what lay-plain wrote.
-/
import Derived.Shelf.SlGeneric
import Derived.Ground.SlgnProg
import Derived.Shelf.SortG.Plain
import Derived.Shelf.SortG.SortNone
import Derived.Test.YtopcojdblkpliaaProg
namespace Go.Proofs
open Go.Shelf
def Try.sortI_ren : Go.Shelf.Ren := ⟨fun | 53 => 47 | 64 => 69 | 63 => 68 | 78 => 84 | 79 => 85 | 70 => 75 | 71 => 76 | 72 => 77 | 73 => 78 | 74 => 79 | 75 => 80 | 59 => 81 | 76 => 82 | 77 => 83 | 88 => 86 | 89 => 87 | 90 => 88 | 91 => 89 | 92 => 90 | 68 => 91 | 96 => 92 | n => n, fun | 22 => 30 | 23 => 2 | 3 => 3 | 51 => 74 | 0 => 0 | 67 => 86 | 69 => 88 | 4 => 4 | 61 => 78 | 60 => 77 | 44 => 83 | 5 => 5 | 9 => 9 | 75 => 89 | 79 => 93 | 83 => 95 | 84 => 58 | n => n, fun | n => n⟩
theorem Try.sortI : Go.Proofs.SlLaysN.n53 Try.prog Try.sortI_ren := {
  mixed := by kernel_rfl
  f53 := ⟨Try.f47.name, by decide, Try.func47.trans (congrArg some (by kernel_rfl))⟩
  f59 := ⟨Try.f81.name, by decide, Try.func81.trans (congrArg some (by kernel_rfl))⟩
  f63 := ⟨Try.f68.name, by decide, Try.func68.trans (congrArg some (by kernel_rfl))⟩
  f64 := Try.func69.trans (congrArg some (by kernel_rfl))
  f68 := ⟨Try.f91.name, by decide, Try.func91.trans (congrArg some (by kernel_rfl))⟩
  f70 := ⟨Try.f75.name, by decide, Try.func75.trans (congrArg some (by kernel_rfl))⟩
  f71 := ⟨Try.f76.name, by decide, Try.func76.trans (congrArg some (by kernel_rfl))⟩
  f72 := ⟨Try.f77.name, by decide, Try.func77.trans (congrArg some (by kernel_rfl))⟩
  f73 := ⟨Try.f78.name, by decide, Try.func78.trans (congrArg some (by kernel_rfl))⟩
  f74 := ⟨Try.f79.name, by decide, Try.func79.trans (congrArg some (by kernel_rfl))⟩
  f75 := ⟨Try.f80.name, by decide, Try.func80.trans (congrArg some (by kernel_rfl))⟩
  f76 := ⟨Try.f82.name, by decide, Try.func82.trans (congrArg some (by kernel_rfl))⟩
  f77 := ⟨Try.f83.name, by decide, Try.func83.trans (congrArg some (by kernel_rfl))⟩
  f78 := Try.func84.trans (congrArg some (by kernel_rfl))
  f79 := Try.func85.trans (congrArg some (by kernel_rfl))
  f88 := ⟨Try.f86.name, by decide, Try.func86.trans (congrArg some (by kernel_rfl))⟩
  f89 := Try.func87.trans (congrArg some (by kernel_rfl))
  f90 := Try.func88.trans (congrArg some (by kernel_rfl))
  f91 := ⟨Try.f89.name, by decide, Try.func89.trans (congrArg some (by kernel_rfl))⟩
  f92 := ⟨Try.f90.name, by decide, Try.func90.trans (congrArg some (by kernel_rfl))⟩
  f96 := ⟨Try.f92.name, by decide, Try.func92.trans (congrArg some (by kernel_rfl))⟩
  t0 := Try.underlying0
  a0 := Try.isAgg0
  z0 := Try.sizeOf0
  v0 := Try.zeroValue0
  t3 := Try.underlying3
  a3 := Try.isAgg3
  z3 := Try.sizeOf3
  v3 := Try.zeroValue3
  t4 := Try.underlying4
  a4 := Try.isAgg4
  z4 := Try.sizeOf4
  v4 := Try.zeroValue4
  t5 := Try.underlying5
  a5 := Try.isAgg5
  z5 := Try.sizeOf5
  v5 := Try.zeroValue5
  t9 := Try.underlying9
  a9 := Try.isAgg9
  z9 := Try.sizeOf9
  v9 := Try.zeroValue9
  t22 := Try.underlying30
  a22 := Try.isAgg30
  z22 := Try.sizeOf30
  v22 := Try.zeroValue30
  t23 := Try.underlying2
  a23 := Try.isAgg2
  z23 := Try.sizeOf2
  v23 := Try.zeroValue2
  t44 := Try.underlying83
  a44 := Try.isAgg83
  z44 := Try.sizeOf83
  v44 := Try.zeroValue83
  t51 := Try.underlying74
  a51 := Try.isAgg74
  z51 := Try.sizeOf74
  v51 := Try.zeroValue74
  t60 := Try.underlying77
  a60 := Try.isAgg77
  z60 := Try.sizeOf77
  v60 := Try.zeroValue77
  t61 := Try.underlying78
  a61 := Try.isAgg78
  z61 := Try.sizeOf78
  v61 := Try.zeroValue78
  t67 := Try.underlying86
  a67 := Try.isAgg86
  z67 := Try.sizeOf86
  v67 := Try.zeroValue86
  t69 := Try.underlying88
  a69 := Try.isAgg88
  z69 := Try.sizeOf88
  v69 := Try.zeroValue88
  t75 := Try.underlying89
  a75 := Try.isAgg89
  z75 := Try.sizeOf89
  v75 := Try.zeroValue89
  t79 := Try.underlying93
  a79 := Try.isAgg93
  z79 := Try.sizeOf93
  v79 := Try.zeroValue93
  t83 := Try.underlying95
  a83 := Try.isAgg95
  z83 := Try.sizeOf95
  v83 := Try.zeroValue95
  t84 := Try.underlying58
  a84 := Try.isAgg58
  z84 := Try.sizeOf58
  v84 := Try.zeroValue58 }
end Go.Proofs
