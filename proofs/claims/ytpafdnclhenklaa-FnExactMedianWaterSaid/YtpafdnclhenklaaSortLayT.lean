/-
  slices.Sort at this program's numbers: what lay-plain wrote.
-/
import Derived.Shelf.SlGeneric
import Derived.Ground.SlgnProg
import Derived.Shelf.SortG.Plain
import Derived.Shelf.SortG.SortNone
import Derived.Test.YtpafdnclhenklaaProg
namespace Go.Proofs
open Go.Shelf
def Try.sortI_ren : Go.Shelf.Ren := ⟨fun | 53 => 60 | 64 => 77 | 63 => 76 | 78 => 94 | 79 => 95 | 70 => 85 | 71 => 86 | 72 => 87 | 73 => 88 | 74 => 89 | 75 => 90 | 59 => 91 | 76 => 92 | 77 => 93 | 88 => 96 | 89 => 97 | 90 => 98 | 91 => 99 | 92 => 100 | 68 => 101 | 96 => 102 | n => n, fun | 22 => 67 | 23 => 2 | 3 => 3 | 51 => 98 | 0 => 0 | 67 => 111 | 69 => 86 | 4 => 4 | 61 => 104 | 60 => 103 | 44 => 108 | 5 => 5 | 9 => 9 | 75 => 113 | 79 => 117 | 83 => 119 | 84 => 120 | n => n, fun | n => n⟩
theorem Try.sortI : Go.Proofs.SlLaysN.n53 Try.prog Try.sortI_ren := {
  mixed := by kernel_rfl
  f53 := ⟨Try.f60.name, by decide, Try.func60.trans (congrArg some (by kernel_rfl))⟩
  f59 := ⟨Try.f91.name, by decide, Try.func91.trans (congrArg some (by kernel_rfl))⟩
  f63 := ⟨Try.f76.name, by decide, Try.func76.trans (congrArg some (by kernel_rfl))⟩
  f64 := Try.func77.trans (congrArg some (by kernel_rfl))
  f68 := ⟨Try.f101.name, by decide, Try.func101.trans (congrArg some (by kernel_rfl))⟩
  f70 := ⟨Try.f85.name, by decide, Try.func85.trans (congrArg some (by kernel_rfl))⟩
  f71 := ⟨Try.f86.name, by decide, Try.func86.trans (congrArg some (by kernel_rfl))⟩
  f72 := ⟨Try.f87.name, by decide, Try.func87.trans (congrArg some (by kernel_rfl))⟩
  f73 := ⟨Try.f88.name, by decide, Try.func88.trans (congrArg some (by kernel_rfl))⟩
  f74 := ⟨Try.f89.name, by decide, Try.func89.trans (congrArg some (by kernel_rfl))⟩
  f75 := ⟨Try.f90.name, by decide, Try.func90.trans (congrArg some (by kernel_rfl))⟩
  f76 := ⟨Try.f92.name, by decide, Try.func92.trans (congrArg some (by kernel_rfl))⟩
  f77 := ⟨Try.f93.name, by decide, Try.func93.trans (congrArg some (by kernel_rfl))⟩
  f78 := Try.func94.trans (congrArg some (by kernel_rfl))
  f79 := Try.func95.trans (congrArg some (by kernel_rfl))
  f88 := ⟨Try.f96.name, by decide, Try.func96.trans (congrArg some (by kernel_rfl))⟩
  f89 := Try.func97.trans (congrArg some (by kernel_rfl))
  f90 := Try.func98.trans (congrArg some (by kernel_rfl))
  f91 := ⟨Try.f99.name, by decide, Try.func99.trans (congrArg some (by kernel_rfl))⟩
  f92 := ⟨Try.f100.name, by decide, Try.func100.trans (congrArg some (by kernel_rfl))⟩
  f96 := ⟨Try.f102.name, by decide, Try.func102.trans (congrArg some (by kernel_rfl))⟩
  t0 := Try.underlying0
  a0 := Try.isAgg0
  z0 := Try.sizeOf0
  v0 := Try.zeroValue0
  t3 := Try.underlying3
  a3 := Try.isAgg3
  z3 := Try.sizeOf3
  v3 := Try.zeroValue3
  t4 := Try.underlying4
  a4 := Try.isAgg4
  z4 := Try.sizeOf4
  v4 := Try.zeroValue4
  t5 := Try.underlying5
  a5 := Try.isAgg5
  z5 := Try.sizeOf5
  v5 := Try.zeroValue5
  t9 := Try.underlying9
  a9 := Try.isAgg9
  z9 := Try.sizeOf9
  v9 := Try.zeroValue9
  t22 := Try.underlying67
  a22 := Try.isAgg67
  z22 := Try.sizeOf67
  v22 := Try.zeroValue67
  t23 := Try.underlying2
  a23 := Try.isAgg2
  z23 := Try.sizeOf2
  v23 := Try.zeroValue2
  t44 := Try.underlying108
  a44 := Try.isAgg108
  z44 := Try.sizeOf108
  v44 := Try.zeroValue108
  t51 := Try.underlying98
  a51 := Try.isAgg98
  z51 := Try.sizeOf98
  v51 := Try.zeroValue98
  t60 := Try.underlying103
  a60 := Try.isAgg103
  z60 := Try.sizeOf103
  v60 := Try.zeroValue103
  t61 := Try.underlying104
  a61 := Try.isAgg104
  z61 := Try.sizeOf104
  v61 := Try.zeroValue104
  t67 := Try.underlying111
  a67 := Try.isAgg111
  z67 := Try.sizeOf111
  v67 := Try.zeroValue111
  t69 := Try.underlying86
  a69 := Try.isAgg86
  z69 := Try.sizeOf86
  v69 := Try.zeroValue86
  t75 := Try.underlying113
  a75 := Try.isAgg113
  z75 := Try.sizeOf113
  v75 := Try.zeroValue113
  t79 := Try.underlying117
  a79 := Try.isAgg117
  z79 := Try.sizeOf117
  v79 := Try.zeroValue117
  t83 := Try.underlying119
  a83 := Try.isAgg119
  z83 := Try.sizeOf119
  v83 := Try.zeroValue119
  t84 := Try.underlying120
  a84 := Try.isAgg120
  z84 := Try.sizeOf120
  v84 := Try.zeroValue120 }
end Go.Proofs
