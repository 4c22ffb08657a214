/-
  What the laws of the sixth file ask beside the functions: the size of the argument, lists of numbers that are equal.
-/
import Derived.Test.YtehmghlhljocbaaGreatDoorNum
import Derived.Test.YtehmghlhljocbaaGreatDoorSteps
namespace Go.Proofs.YtehmghlhljocbaaGreatDoor
open Go.ChangeShapes Go.WideShapes Go.RowKit

theorem f6big_any (A : Option Addr) (c n : Nat) (w : World) (hn : n ≤ 9223372036854775807) : Calls Tryz.prog 4 #[.slice A n c] w fun e w' => e = .returned (.bool (decide (4096 < n))) ∧ w = w' := by
  by_cases h : 4096 < n
  · have hd : decide (4096 < n) = true := by simpa using h
    have h2 : (4096 : Int) < n := by omega
    rw [hd]
    go_enter Tryz.func4, Tryz.ntmps4
    go_wp2_with fail
    go_ret
    exact ⟨ret_bool (by first | (simp; done) | (simp; omega)), rfl⟩
  · have hd : decide (4096 < n) = false := by simpa using h
    have h2 : (n : Int) ≤ 4096 := by omega
    rw [hd]
    go_enter Tryz.func4, Tryz.ntmps4
    go_wp2_with fail
    go_ret
    exact ⟨ret_bool (by simp; omega), rfl⟩
end Go.Proofs.YtehmghlhljocbaaGreatDoor
