/-
  What the library's readers want of the world, out of what the row lists.
-/
import Derived.Test.YtjgpppcjhneibaaGreatDoorRdB
import Derived.Lib.LaidTab
import Derived.Stop.LaidErr
import Derived.LaidLaws
namespace Go.Proofs.YtjgpppcjhneibaaGreatDoor
open Go.ChangeShapes Go.WideShapes Go.RowKit

theorem star_err : "*" ++ "errors.errorString" = "*errors.errorString" := by decide
theorem err_row (u : TypeId) (h : Tryz.prog.typeName? 3 u = some "*errors.errorString") : u = 150 :=
  typeName_ptr_named (nm := "errors.errorString") (by rw [star_err]; kernel_rfl) (by kernel_rfl) (by decide) u (by rw [star_err]; exact h)
theorem err_of {n : String} {g : Nat} {text : List UInt8} {r : List (String × DataW Unit)} {W : World} (hg : Tryz.prog.globalNamed n = some g) (ht : (Tryz.prog.globals[g]?).map (·.type) = some 80)
    (h : laidMet Tryz.prog ((n, .iface "*errors.errorString" (.ptr (.agg [.lit (.string text)]))) :: r) W) : ErrV W g := by
  obtain ⟨a, s, hv, _, _, _⟩ := laid_sentinel h hg ht Tryz.underlying80 err_row Tryz.underlying150 Tryz.underlying152 rfl rfl Tryz.underlying9 (by kernel_rfl) (by kernel_rfl)
  have h0 := World.var?_cell hg hv 0
  exact ⟨_, by simpa using h0, .inr ⟨_, _, rfl⟩⟩
theorem lib_of {W : World} (h : laidMet Tryz.prog Rows.fnExactReadYardRow.laid W) : LibW W := by
  have h2 := laidMet.tail (laidMet.tail h)
  have h4 := laidMet.tail (laidMet.tail h2)
  have h5 := laidMet.tail h4
  have h2' : laidMet Tryz.prog ((powN, Lib.tabData .u64 Lib.pow10Tab) :: _) W := h2
  exact ⟨Lib.tabIs_of_head (g := 5) (t := 154) (e := 74) (n := 20) (by kernel_rfl) (by kernel_rfl) Tryz.underlying154 Tryz.underlying74 (by kernel_rfl) (by kernel_rfl) h2', err_of (by kernel_rfl) (by kernel_rfl) h5, err_of (by kernel_rfl) (by kernel_rfl) h4⟩
theorem lib_ofY {W : World} (h : laidMet Tryz.prog Rows.fnYardsRow.laid W) : LibW W := by
  have h2 := laidMet.tail (laidMet.tail h)
  have h4 := laidMet.tail (laidMet.tail h2)
  have h5 := laidMet.tail h4
  have h2' : laidMet Tryz.prog ((powN, Lib.tabData .u64 Lib.pow10Tab) :: _) W := h2
  exact ⟨Lib.tabIs_of_head (g := 5) (t := 154) (e := 74) (n := 20) (by kernel_rfl) (by kernel_rfl) Tryz.underlying154 Tryz.underlying74 (by kernel_rfl) (by kernel_rfl) h2', err_of (by kernel_rfl) (by kernel_rfl) h5, err_of (by kernel_rfl) (by kernel_rfl) h4⟩
end Go.Proofs.YtjgpppcjhneibaaGreatDoor
