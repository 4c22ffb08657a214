/-
  The library's table of powers of ten: it lies there, and stays.
-/
import Derived.Test.YtjgpppcjhneibaaGreatDoorDecZ
import Derived.Lib.SmallJoins
import Derived.Lib.LaidTab
import Derived.Stop.LaidErr
namespace Go.Proofs.YtjgpppcjhneibaaGreatDoor
open Go.ChangeShapes Go.WideShapes Go.RowKit

theorem tab_below {w w' : World} (h : TabW w) {B : Nat} (hb : Below B w w') (hB : w.heap.size ≤ B) : TabW w' := Go.Joins.tab_stays (g := 5) (by kernel_rfl) h hb hB
theorem tab_al {w : World} (h : TabW w) (o : Obj) : TabW (w.alloc o) := tab_below h ((Below.refl _ w).alloc (Nat.le_refl _) o) (Nat.le_refl _)
theorem tab_drew {w : World} (h : TabW w) : TabW w.drew := h
end Go.Proofs.YtjgpppcjhneibaaGreatDoor
