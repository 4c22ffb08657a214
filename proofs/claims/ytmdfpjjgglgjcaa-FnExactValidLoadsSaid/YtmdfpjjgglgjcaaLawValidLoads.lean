/-
  FnExactValidLoads returns true for every argument: the walk.
-/
import Derived.Test.YtmdfpjjgglgjcaaLoads
import Derived.Test.YtmdfpjjgglgjcaaOpen
namespace Go.Proofs.Ytmdfpjjgglgjcaa
open Go.ChangeShapes Go.WideShapes Go.RowKit

theorem lawValidLoads_any (A : Option Addr) (c : Nat) (xs : List Int) (most : Int) (w : World) (hr : Rd LI w w.heap.size A c xs) (_hi : ∀ n ∈ xs, I64 n) (_hm : I64 most) :
    Calls Try.prog 3 #[.slice A xs.length c, .int .i64 most] w fun e w' => e = .returned (.bool true) ∧ Below w.heap.size w w' := by
  have hlen := hr.len63
  by_cases hn : xs.length ≤ 1048576
  · go_enter Try.func3, Try.ntmps3
    go_wp2_with fail
    refine (toInt64S_any A c xs _ hr (by omega)).mono ?_
    rintro e w1 ⟨A1, c1, rfl, ho1, hb1⟩
    go_wp2_with fail
    refine (specValidLoads_any A1 c1 xs most _ ho1.rd).mono ?_
    rintro e w2 ⟨rfl, hb2⟩
    have hb2' := bthen hb1 (Nat.le_refl _) hb2
    go_wp2_with fail
    refine (toInt64S_any A c xs _ ((hr.below hb2').more hb2'.size) (by omega)).mono ?_
    rintro e w3 ⟨A3, c3, rfl, ho3, hb3⟩
    have hb3' := bthen hb2' (Nat.le_refl _) hb3
    go_wp2_with fail
    refine (implValidLoads_any A3 c3 xs most _ ho3.rd).mono ?_
    rintro e w4 ⟨rfl, hb4⟩
    have hb4' := bthen hb3' (Nat.le_refl _) hb4
    have ho4 := ho3.below hb4
    go_wp2_with fail
    refine (toInt64S_any A c xs _ ((hr.below hb4').more hb4'.size) (by omega)).mono ?_
    rintro e w5 ⟨A5, c5, rfl, ho5, hb5⟩
    have hb5' := bthen hb4' (Nat.le_refl _) hb5
    go_wp2_with fail
    refine (eqInt64S_any A3 A5 c3 c5 xs xs _ _ (Nat.le_refl _) (ho4.below hb5).rd ho5.rd).mono ?_
    rintro e w6 ⟨rfl, hb6⟩
    have hb6' := bthen hb5' (Nat.le_refl _) hb6
    rw [eqB_self]
    go_wp2_with fail
    go_ret
    exact ⟨rfl, hb6'⟩
  · go_enter Try.func3, Try.ntmps3
    go_wp2_with fail
    go_ret
    exact ⟨rfl, Below.refl _ _⟩
end Go.Proofs.Ytmdfpjjgglgjcaa
