/-
  What the laws of the sixth file ask beside the functions: the size of the argument, lists of numbers that are equal.
-/
import Derived.Test.YtamhkiakplmlmaaDoorNum
import Derived.Test.YtamhkiakplmlmaaDoorSteps
namespace Go.Proofs.YtamhkiakplmlmaaDoor
open Go.ChangeShapes Go.WideShapes Go.RowKit

theorem f6big_any (A : Option Addr) (c n : Nat) (w : World) (hn : n ≤ 9223372036854775807) : Calls Tryd.prog 4 #[.slice A n c] w fun e w' => e = .returned (.bool (decide (4096 < n))) ∧ w = w' := by
  by_cases h : 4096 < n
  · have hd : decide (4096 < n) = true := by simpa using h
    have h2 : (4096 : Int) < n := by omega
    rw [hd]
    go_enter Tryd.func4, Tryd.ntmps4
    go_wp2_with fail
    go_ret
    exact ⟨ret_bool (by first | (simp; done) | (simp; omega)), rfl⟩
  · have hd : decide (4096 < n) = false := by simpa using h
    have h2 : (n : Int) ≤ 4096 := by omega
    rw [hd]
    go_enter Tryd.func4, Tryd.ntmps4
    go_wp2_with fail
    go_ret
    exact ⟨ret_bool (by simp; omega), rfl⟩
/-- two slices that read as the same list -/
theorem f6ints_any (A A2 : Option Addr) (c c2 : Nat) (xs : List Int) (B : Nat) (w : World) (hr : Rd LI w B A c xs) (hr2 : Rd LI w B A2 c2 xs) :
    Calls Tryd.prog 18 #[.slice A xs.length c, .slice A2 xs.length c2] w fun e w' => e = .returned (.bool true) ∧ Dr w w' := by
  have h := f6ints_quiet A A2 c c2 xs xs B w hr hr2
  rw [eqB_self] at h
  exact h
end Go.Proofs.YtamhkiakplmlmaaDoor
