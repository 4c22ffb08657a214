/-
  Draws of hands and what pairs are worth (under way): the layers of up to a thousand hands.
-/
import Derived.Test.YtofcmljnckdknaaPayG
import Derived.Test.YtofcmljnckdknaaGangsB
namespace Go.Proofs.Ytofcmljnckdknaa
open Go.ChangeShapes Go.WideShapes Go.RowKit

set_option maxHeartbeats 800000 in
theorem l23LayersW_any (A : Option Addr) (c : Nat) (xs : List HandD) (b : Bool) (B : Nat) (w : World) (hB : B ≤ w.heap.size) (hr : Rd LHand w B A c xs) (hn : xs.length ≤ 1000) :
    Calls Try.prog 52 #[.slice A xs.length c, .bool b] w fun e w' => ∃ A1 c1, e = .returned (.slice A1 (layT xs b xs.length).length c1) ∧
      Own LI 2 w' w.heap.size A1 c1 (layT xs b xs.length) ∧ Below w.heap.size w w' := by
  have hlen := hr.len63
  go_enter Try.func52, Try.ntmps52
  go_wp2_with fail
  have hb2 : Below w.heap.size w (w.alloc (.cells #[] 2)) := (Below.refl _ w).alloc (Nat.le_refl _) _
  go_loopw [5, 6] (fun a i wr => ∃ (k : Nat) (A1 : Option Addr) (c1 : Nat), k ≤ xs.length ∧ i = .int .i64 k ∧ a = .slice A1 (layT xs b k).length c1 ∧
      Own LI 2 wr w.heap.size A1 c1 (layT xs b k) ∧ Below w.heap.size w wr) (fun _ i _ => xs.length - (intOf i).toNat)
  case atStart => exact ⟨0, _, _, by omega, rfl, rfl, Own.lit0 w (Nat.le_refl _) rfl, hb2⟩
  case round =>
    obtain ⟨k, A1, c1, hk, rfl, rfl, ho1, hbel⟩ := hrel
    have hsz := hbel.size
    by_cases hlt : k < xs.length
    · obtain ⟨ad, rfl, hab, hc0, hc1, hc2⟩ := rdHand (hr.below (hbel.mono hB)) hlt
      have HT := Lib.hid (layT_succ xs b hlt)
      have l1 := layT_len xs b k
      cases hx : (xs[k].2.2 == b)
      · have E1 : Hid (layT xs b (k + 1) = layT xs b k) := Lib.hid (by rw [HT.out, hx]; rfl)
        clear HT
        generalize layT xs b k = L1 at *
        go_wp2_with fail
        go_roundw
        case rel => exact ⟨k + 1, A1, c1, by omega, by go_num, by rw [E1.out], by rw [E1.out]; exact ho1, hbel⟩
        case measure => simp [intOf]; omega
      · have E1 : Hid (layT xs b (k + 1) = layT xs b k ++ [(k : Int)]) := Lib.hid (by rw [HT.out, hx]; rfl)
        clear HT
        generalize layT xs b k = L1 at *
        go_wp2_with (at_builtin; go_loud (refine wpL_app1 (L := LI) rowI rfl rfl _ _ rfl rfl ho1 (k : Int) _ rfl rfl (by simp) (by unfold maxLen; omega) (by omega) (by omega) ?_); intro A4 c4 w4 ho4 hg4)
        go_roundw
        case rel =>
          refine ⟨k + 1, A4, c4, by omega, by go_num, by rw [E1.out]; simp, by rw [E1.out]; exact ho4, Grew.below hbel hg4 hsz fun g' hg' => ?_⟩
          exact (ho1.blk_lt g' hg').1
        case measure => simp [intOf]; omega
    · have hkk : k = xs.length := by omega
      subst hkk
      go_wp2_with fail
      go_ret
      exact ⟨A1, c1, rfl, ho1, hbel⟩
end Go.Proofs.Ytofcmljnckdknaa
