/-
  The library's table of powers of ten: it lies there, and stays.
-/
import Derived.Test.YtiefiikheaiekaaDoorDecZ
import Derived.Lib.SmallJoins
import Derived.Lib.LaidTab
import Derived.Stop.LaidErr
namespace Go.Proofs.YtiefiikheaiekaaDoor
open Go.ChangeShapes Go.WideShapes Go.RowKit

theorem tab_below {w w' : World} (h : TabW w) {B : Nat} (hb : Below B w w') (hB : w.heap.size ≤ B) : TabW w' := Go.Joins.tab_stays (g := 1) (by kernel_rfl) h hb hB
theorem tab_of {W : World} (h : laidMet Tryd.prog Rows.fnExactFewestMovesRow.laid W) : TabW W := by
  have h2 : laidMet Tryd.prog [(powN, Lib.tabData .u64 Lib.pow10Tab)] W := laidMet.tail (laidMet.tail h)
  exact Lib.tabIs_of_head (g := 1) (t := 138) (e := 79) (n := 20) (by kernel_rfl) (by kernel_rfl) Tryd.underlying138 Tryd.underlying79 (by kernel_rfl) (by kernel_rfl) h2
theorem tab_al {w : World} (h : TabW w) (o : Obj) : TabW (w.alloc o) := tab_below h ((Below.refl _ w).alloc (Nat.le_refl _) o) (Nat.le_refl _)
theorem tab_drew {w : World} (h : TabW w) : TabW w.drew := h
end Go.Proofs.YtiefiikheaiekaaDoor
