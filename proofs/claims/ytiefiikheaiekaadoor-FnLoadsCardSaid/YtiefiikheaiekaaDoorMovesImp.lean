/-
  FewestMoves and BestMoves of the program.
-/
import Derived.Test.YtiefiikheaiekaaDoorMovesBest
import Derived.Test.YtiefiikheaiekaaDoorMovesRefB
namespace Go.Proofs.YtiefiikheaiekaaDoor
open Go.ChangeShapes Go.WideShapes Go.RowKit

set_option maxRecDepth 100000 in
set_option maxHeartbeats 3200000 in
theorem implFewestMoves_any (A : Option Addr) (c : Nat) (rs : List (Row Int)) (Ao : Option Addr) (co : Nat) (o : List Int) (w : World) (hr : RdR LI w w.heap.size A c rs) (ho : Rd LI w w.heap.size Ao co o) (hn : tlL (dat rs) ≤ 1048576) (_hnil : ∀ r ∈ rs, r.1 = none → r.2.1 = 0) (ht : TabW w) :
    Calls Tryd.prog 10 #[.slice A rs.length c, .slice Ao o.length co] w fun e w' => e = .returned (.tuple #[.int .i64 (fmP (dat rs) o).1, .int .i64 (fmP (dat rs) o).2]) ∧ Below w.heap.size w w' := by
  have hc := orderCode_any A c rs Ao co o w hr hn ho
  have hlen := hr.len63
  have hleno := ho.len63
  have HRR := Lib.hid hr
  have HRO := Lib.hid ho
  obtain ⟨F, hF⟩ : ∃ F, F = fmP (dat rs) o := ⟨_, rfl⟩
  rw [← hF]
  by_cases h0 : ocP (dat rs) o = 0
  rotate_left
  · have HR : Hid (F = (0, ocP (dat rs) o)) := Lib.hid (by rw [hF, (bm_bad rfl h0).2])
    have hz : (ocP (dat rs) o != 0) = true := by rw [bne_iff_ne]; exact h0
    generalize ocP (dat rs) o = k at *
    clear h0 hr ho hn ht hF
    go_enter Tryd.func10, Tryd.ntmps10
    go_wp2_with fail
    refine hc.mono ?_
    rintro e w1 ⟨rfl, hb1⟩
    go_wp2_with fail
    go_ret2
    exact ⟨(by rw [HR.out]; first | done | rfl), hb1⟩
  · have hm := fun W h1 h2 h3 => bestMoves_any A c rs Ao co o W h1 h2 (inv_of h0) h3
    have HM := Lib.hid hm
    have HT := Lib.hid ht
    rw [h0] at hc
    have HE : Hid ((∃ L n, bestP (dat rs) o = some (L, n) ∧ F = ((n : Int), 0)) ∨ (bestP (dat rs) o = none ∧ F = (0, 3))) := Lib.hid (by
      rw [hF]
      unfold fmP
      rw [if_pos h0]
      cases hb : bestP (dat rs) o with
      | none => exact .inr ⟨rfl, rfl⟩
      | some p => exact .inl ⟨p.1, p.2, rfl, rfl⟩)
    clear h0 hr ho hn ht hF hm
    go_enter Tryd.func10, Tryd.ntmps10
    go_wp2_with fail
    refine hc.mono ?_
    rintro e w1 ⟨rfl, hb1⟩
    have hbm := HM.out w1 ((HRR.out.below hb1).more hb1.size) ((HRO.out.below hb1).more hb1.size) (tab_below HT.out hb1 (Nat.le_refl _))
    have HB1 := Lib.hid hb1
    clear hb1 hc
    go_wp2_with fail
    refine hbm.mono ?_
    intro e w2 hr2
    unfold BmR at hr2
    rcases hr2 with ⟨A1, c1, L, n, hb, rfl, ho2, hb2⟩ | ⟨hb, rfl, hb2⟩
    · have HR : Hid (F = ((n : Int), 0)) := Lib.hid (by
        rcases HE.out with ⟨L2, n2, h1, h2⟩ | ⟨h1, _⟩
        · rw [hb] at h1; cases h1; exact h2
        · rw [hb] at h1; cases h1)
      have HB2 := Lib.hid (bthen HB1.out (Nat.le_refl _) hb2)
      clear hbm hb ho2 hb2
      go_wp2_with fail
      go_ret2
      exact ⟨(by rw [HR.out]; first | done | rfl), HB2.out⟩
    · have HR : Hid (F = (0, 3)) := Lib.hid (by
        rcases HE.out with ⟨L2, n2, h1, h2⟩ | ⟨_, h2⟩
        · rw [hb] at h1; cases h1
        · exact h2)
      have HB2 := Lib.hid (bthen HB1.out (Nat.le_refl _) hb2)
      clear hbm hb hb2
      go_wp2_with fail
      go_ret2
      exact ⟨(by rw [HR.out]; first | done | rfl), HB2.out⟩
set_option maxRecDepth 100000 in
set_option maxHeartbeats 3200000 in
theorem implBestMoves_any (A : Option Addr) (c : Nat) (rs : List (Row Int)) (Ao : Option Addr) (co : Nat) (o : List Int) (w : World) (hr : RdR LI w w.heap.size A c rs) (ho : Rd LI w w.heap.size Ao co o) (hn : tlL (dat rs) ≤ 1048576) (_hnil : ∀ r ∈ rs, r.1 = none → r.2.1 = 0) (ht : TabW w) :
    Calls Tryd.prog 14 #[.slice A rs.length c, .slice Ao o.length co] w fun e w' => ∃ B d, e = .returned (.tuple #[.slice B (bmP (dat rs) o).1.length d, .int .i64 (bmP (dat rs) o).2]) ∧ Own LMove 45 w' w.heap.size B d (bmP (dat rs) o).1 ∧ Below w.heap.size w w' := by
  have hc := orderCode_any A c rs Ao co o w hr hn ho
  have hlen := hr.len63
  have hleno := ho.len63
  have HRR := Lib.hid hr
  have HRO := Lib.hid ho
  obtain ⟨F, hF⟩ : ∃ F, F = bmP (dat rs) o := ⟨_, rfl⟩
  rw [← hF]
  by_cases h0 : ocP (dat rs) o = 0
  rotate_left
  · have HR : Hid (F = ([], ocP (dat rs) o)) := Lib.hid (by rw [hF, (bm_bad rfl h0).1])
    have hz : (ocP (dat rs) o != 0) = true := by rw [bne_iff_ne]; exact h0
    generalize ocP (dat rs) o = k at *
    clear h0 hr ho hn ht hF
    go_enter Tryd.func14, Tryd.ntmps14
    go_wp2_with fail
    refine hc.mono ?_
    rintro e w1 ⟨rfl, hb1⟩
    go_wp2_with fail
    go_ret2
    exact ⟨none, 0, by rw [HR.out]; rfl, by rw [HR.out]; exact Own.none_, hb1⟩
  · have hm := fun W h1 h2 h3 => bestMoves_any A c rs Ao co o W h1 h2 (inv_of h0) h3
    have HM := Lib.hid hm
    have HT := Lib.hid ht
    rw [h0] at hc
    have HE : Hid ((∃ L n, bestP (dat rs) o = some (L, n) ∧ F = (L, 0)) ∨ (bestP (dat rs) o = none ∧ F = ([], 3))) := Lib.hid (by
      rw [hF]
      unfold bmP
      rw [if_pos h0]
      cases hb : bestP (dat rs) o with
      | none => exact .inr ⟨rfl, rfl⟩
      | some p => exact .inl ⟨p.1, p.2, rfl, rfl⟩)
    clear h0 hr ho hn ht hF hm
    go_enter Tryd.func14, Tryd.ntmps14
    go_wp2_with fail
    refine hc.mono ?_
    rintro e w1 ⟨rfl, hb1⟩
    have hbm := HM.out w1 ((HRR.out.below hb1).more hb1.size) ((HRO.out.below hb1).more hb1.size) (tab_below HT.out hb1 (Nat.le_refl _))
    have HB1 := Lib.hid hb1
    clear hb1 hc
    go_wp2_with fail
    refine hbm.mono ?_
    intro e w2 hr2
    unfold BmR at hr2
    rcases hr2 with ⟨A1, c1, L, n, hb, rfl, ho2, hb2⟩ | ⟨hb, rfl, hb2⟩
    · have HR : Hid (F = (L, 0)) := Lib.hid (by
        rcases HE.out with ⟨L2, n2, h1, h2⟩ | ⟨h1, _⟩
        · rw [hb] at h1; cases h1; exact h2
        · rw [hb] at h1; cases h1)
      have HB2 := Lib.hid (bthen HB1.out (Nat.le_refl _) hb2)
      have HO2 := Lib.hid (ho2.lower HB1.out.size)
      clear hbm hb ho2 hb2
      go_wp2_with fail
      go_ret2
      exact ⟨A1, c1, (by rw [HR.out]; first | done | rfl), by rw [HR.out]; exact HO2.out, HB2.out⟩
    · have HR : Hid (F = ([], 3)) := Lib.hid (by
        rcases HE.out with ⟨L2, n2, h1, h2⟩ | ⟨_, h2⟩
        · rw [hb] at h1; cases h1
        · exact h2)
      have HB2 := Lib.hid (bthen HB1.out (Nat.le_refl _) hb2)
      clear hbm hb hb2
      go_wp2_with fail
      go_ret2
      exact ⟨none, 0, by rw [HR.out]; rfl, by rw [HR.out]; exact Own.none_, HB2.out⟩
end Go.Proofs.YtiefiikheaiekaaDoor
