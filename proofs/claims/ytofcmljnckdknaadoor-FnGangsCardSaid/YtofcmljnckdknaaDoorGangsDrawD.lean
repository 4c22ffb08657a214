/-
  Draws of two gangs that are mostly alike.
-/
import Derived.Test.YtofcmljnckdknaaDoorGangsDrawC
namespace Go.Proofs.YtofcmljnckdknaaDoor
open Go.ChangeShapes Go.WideShapes Go.RowKit

theorem Own.flat {α : Type} {L : Lay α} {T : TypeId} {w : World} {base c : Nat} {A : Option Addr} {xs : List α} (h : Own L T w base A c xs) : ∀ ad, A = some ad → ∀ j u, (xs.flatMap L.f)[j]? = some u → w.cell? (ad.add j) = some u := by
  intro ad e j u hu
  by_cases h0 : 0 < xs.length
  · obtain ⟨g, e2, _, _⟩ := h.ptr h0
    rw [e2] at e
    cases e
    subst e2
    exact World.ownsRow.cells h (g := g) rfl j u hu
  · have : xs = [] := List.length_eq_zero_iff.1 (by omega)
    subst this
    simp at hu
theorem Own.none0 {α : Type} {L : Lay α} {T : TypeId} {w : World} {base c : Nat} {A : Option Addr} {xs : List α} (h : Own L T w base A c xs) : A = none → xs.length = 0 ∧ c = 0 := by
  intro e
  rcases h.parts with ⟨_, h2, h3⟩ | ⟨g, _, e2, _⟩
  · exact ⟨by rw [h2]; rfl, h3⟩
  · rw [e] at e2; cases e2
def DrewSG (w : World) (e : Ending) (w' : World) : Prop :=
  ∃ (B B2 : Option Addr) (d d2 : Nat) (xs ys : List HandD), e = .returned (.tuple #[.slice B xs.length d, .slice B2 ys.length d2]) ∧ xs.length ≤ 7 ∧ ys.length ≤ 9 ∧ Own LHand 26 w' w.heap.size B d xs ∧ Own LHand 26 w' w.heap.size B2 d2 ys ∧ (∀ n ∈ xs, OkHand n) ∧ (∀ n ∈ ys, OkHand n) ∧ Below w.heap.size w w'
set_option maxRecDepth 100000 in
set_option maxHeartbeats 6400000 in
theorem drawSame_any (A : Option Addr) (c : Nat) (cs : List Int) (w : World) (hr : Rd LU w w.heap.size A c cs) (hb : ∀ x ∈ cs, 0 ≤ x ∧ x ≤ 255) :
    Calls Tryd.prog 21 #[.slice A cs.length c] w (DrewSG w) := by
  obtain ⟨g, hg⟩ : ∃ g, g = w.heap.size := ⟨_, rfl⟩
  have hc := from_at g A c cs w hg hr (Nat.le_refl _) hb
  have HG := Lib.hid hg
  clear hg hr
  go_enter Tryd.func21, Tryd.ntmps21
  go_wp2_with fail
  refine hc.mono ?_
  rintro e w1 ⟨rfl, hS, hb1⟩
  have hg1 := hS.g1
  have hgw : w.heap.size ≤ g := by rw [HG.out]; exact Nat.le_refl _
  rw [HG.out] at hb1
  have hs1 := hb1.size
  have HB1 := Lib.hid hb1
  have hc2 := l23Draw_any g A c cs 0 w1 hS (by omega)
  clear hc hS hb1
  go_wp2_with fail
  refine hc2.mono ?_
  rintro e w2 ⟨B, d, xs, rfl, hl, ho, hok, hS, hF⟩
  have hs2 := hF.size
  have hg2 : g < w2.heap.size := by omega
  have HL := Lib.hid ho
  have HXK := Lib.hid hok
  have HB2 := Lib.hid (HB1.out.trans (hF.below HB1.out.size hgw))
  have hbl : Below w2.heap.size w2 (w2.alloc (.cells #[] 26)) := (Below.refl _ w2).alloc (Nat.le_refl _) _
  have HS := Lib.hid (hS.below hbl)
  have HF := Lib.hid ((Fs.of_below (g := g) hbl))
  have hfl := (ho.alloc (.cells #[] 26)).flat
  have hnn := (ho.alloc (.cells #[] 26)).none0
  have HFL := Lib.hid hfl
  have HNN := Lib.hid hnn
  clear hc2 ho hok hS hF hbl hfl hnn
  go_upto_region 4 with (at_builtin; go_loud (refine wpL_app (L := LHand) rowHand rfl rfl _ _ rfl rfl (Own.lit0 (base := w2.heap.size) w2 (Nat.le_refl _) rfl) B xs.length d xs rfl rfl HNN.out HFL.out (by unfold maxLen; simp; omega) (by simp; omega) (by simp) ?_); intro A4 c4 w4 ho4 hg4)
  rw [List.nil_append] at ho4
  have hbz : Below w2.heap.size (w2.alloc (.cells #[] 26)) w4 := hg4.below' (by simp) (fun q e => by simp [blk] at e; omega)
  have HY := Lib.hid ho4
  have HS4 := Lib.hid (HS.out.belowB hbz hg2)
  have HF4 := Lib.hid (HF.out.then_ hbz (Nat.le_refl _))
  clear ho4 hg4 hbz HS HF HFL HNN
  go_cut [20] from 14 to 20 (fun s wx => ∃ q : Bool, s = .bool q ∧ (q = true → 0 < xs.length) ∧ Own LHand 26 wx w2.heap.size A4 c4 xs ∧ Sr wx g A c cs 42 ∧ Fs g w2 wx)
  case first =>
    by_cases h0 : 0 < xs.length
    · have h0i : (0 : Int) < xs.length := by omega
      have ho := one_any 2 g A c cs _ w4 HS4.out (by omega) (by omega)
      go_wp2_with fail
      refine ho.mono ?_
      rintro e w5 ⟨q, rfl, hS, hF⟩
      have HY5 := Lib.hid (hF.own HY.out (fun e => by have := (HY.out.blk_lt g e).1; omega))
      have HF5 := Lib.hid (HF4.out.trans hF)
      have HS5 := Lib.hid hS
      clear ho hS hF HY HF4 HS4
      go_wp2_with fail
      go_meet
      case rel => exact ⟨q, rfl, fun _ => h0, HY5.out, HS5.out.more (by omega), HF5.out⟩
    · have h0i : (xs.length : Int) ≤ 0 := by omega
      go_wp2_with fail
      go_meet
      case rel => exact ⟨false, rfl, (fun h => by cases h), HY.out, HS4.out.more (by omega), HF4.out⟩
  case rest =>
  clear HY HS4 HF4
  obtain ⟨q, rfl, hq, ho, hS, hF⟩ := hcut
  have HQ := Lib.hid hq
  have HY := Lib.hid ho
  have HS := Lib.hid hS
  have HF := Lib.hid hF
  clear hq ho hS hF
  go_upto_if 20 with fail
  go_cut [] from 14 to 28 (fun wx => ∃ ys : List HandD, ys.length = xs.length ∧ (∀ n ∈ ys, OkHand n) ∧ Own LHand 26 wx w2.heap.size A4 c4 ys ∧ Sr wx g A c cs 42 ∧ Fs g w2 wx)
  case first =>
    cases q
    · go_wp2_with fail
      go_meet
      case rel => exact ⟨xs, rfl, HXK.out, HY.out, HS.out, HF.out⟩
    · have h0 := HQ.out rfl
      have h0i : (0 : Int) < xs.length := by omega
      obtain ⟨b, rfl, hb0, hb1, hcl, hfz⟩ := HY.out.field h0
      have q2 : wc.cell? ⟨b, 2, none⟩ = some (.bool xs[0].2.2) := hcl 2 _ rfl
      have hf2 := hfz 2
      have hBl : Below w2.heap.size wc (wc.setCell ⟨b, 2, none⟩ (.bool (!xs[0].2.2))) := (Below.refl _ wc).setCell (p := ⟨b, 2, none⟩) hb0 _
      have HY2 := Lib.hid (HY.out.setField h0 2 (by decide) (.bool (!xs[0].2.2)) (xs[0].1, xs[0].2.1, !xs[0].2.2) rfl)
      have HK2 : Hid (∀ n ∈ xs.set 0 (xs[0].1, xs[0].2.1, !xs[0].2.2), OkHand n) := Lib.hid (fun n hn => by
        rcases List.mem_or_eq_of_mem_set hn with h | h
        · exact HXK.out n h
        · rw [h]; have h4 := HXK.out _ (List.getElem_mem h0); exact ⟨h4.1, h4.2⟩)
      have HS2 := Lib.hid (HS.out.belowB hBl hg2)
      have HF2 := Lib.hid (HF.out.then_ hBl (Nat.le_refl _))
      clear hcl hfz hBl HY HS HF
      go_wp2_with fail
      go_meet
      case rel => exact ⟨xs.set 0 (xs[0].1, xs[0].2.1, !xs[0].2.2), by simp, HK2.out, by simpa using HY2.out, by simpa using HS2.out, by simpa using HF2.out⟩
  case rest =>
  clear HY HS HF HQ
  obtain ⟨ys, hyl, hyk, ho, hS, hF⟩ := hcut
  have HYK := Lib.hid hyk
  have HY := Lib.hid ho
  have HF := Lib.hid hF
  have HYL := Lib.hid hyl
  rw [← hyl] at hl ⊢
  have hc5 := one_any 5 g A c cs _ wc hS (by omega) (by omega)
  clear hyl hyk ho hS hF
  go_wp2_with fail
  refine hc5.mono ?_
  rintro e w6 ⟨q2, rfl, hS, hF⟩
  have HY6 := Lib.hid (hF.own HY.out (fun e => by have := (HY.out.blk_lt g e).1; omega))
  have HF6 := Lib.hid (HF.out.trans hF)
  have hs6 := HF6.out.size
  clear hc5 hS hF HY HF
  cases q2
  · have HL6 := Lib.hid ((HF6.out.own HL.out (fun e => by have := (HL.out.blk_lt g e).1; omega)).lower hs1)
    have HBz := Lib.hid (HB2.out.trans (HF6.out.below HB2.out.size hgw))
    go_wp2_with fail
    exact bodyPost_ret (v := .tuple #[.slice B ys.length d, .slice A4 ys.length c4]) (by simp [results, Tryd.results21, go_sem]) rfl ⟨B, A4, d, c4, xs, ys, by rw [HYL.out], by rw [← HYL.out]; exact hl, by omega, HL6.out, HY6.out.lower (by omega), HXK.out, HYK.out, HBz.out⟩
  · have hnn := HY6.out.blk_lt
    go_wp2_with (at_builtin; go_loud (refine wpL_app1 (L := LHand) rowHand rfl rfl _ _ rfl rfl HY6.out (ByteArray.empty, 0, false) _ rfl rfl (by simp) (by unfold maxLen; omega) (by omega) (by omega) ?_); intro A5 c5 w7 ho7 hg7)
    have hb7 : Below w2.heap.size w6 w7 := hg7.below' hs6 (fun q e => (hnn q e).1)
    have HF7 := Lib.hid (HF6.out.then_ hb7 (Nat.le_refl _))
    have HL7 := Lib.hid ((HF7.out.own HL.out (fun e => by have := (HL.out.blk_lt g e).1; omega)).lower hs1)
    have HBz := Lib.hid (HB2.out.trans (HF7.out.below HB2.out.size hgw))
    have HO7 := Lib.hid (ho7.lower (show w.heap.size ≤ w2.heap.size by omega))
    have HK7 : Hid (∀ n ∈ ys ++ [((ByteArray.empty, 0, false) : HandD)], OkHand n) := Lib.hid (fun n hn => by
      rcases List.mem_append.1 hn with h | h
      · exact HYK.out n h
      · simp at h; rw [h]; exact ⟨by decide, by unfold I64; dsimp only; omega⟩)
    clear ho7 hg7 hb7
    go_wp2_with fail
    exact bodyPost_ret (v := .tuple #[.slice B ys.length d, .slice A5 (ys ++ [((ByteArray.empty, 0, false) : HandD)]).length c5]) (by simp [results, Tryd.results21, go_sem]) rfl ⟨B, A5, d, c5, xs, ys ++ [(ByteArray.empty, 0, false)], by rw [HYL.out], by rw [← HYL.out]; exact hl, by simp; omega, HL7.out, HO7.out, HXK.out, HK7.out, HBz.out⟩
end Go.Proofs.YtofcmljnckdknaaDoor
