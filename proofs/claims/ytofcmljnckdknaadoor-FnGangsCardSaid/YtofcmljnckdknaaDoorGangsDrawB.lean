/-
  Draws of one hand: a hand for a text, a hand to be added.
-/
import Derived.Test.YtofcmljnckdknaaDoorGangsDraw
import Derived.Test.YtofcmljnckdknaaDoorPayCS
namespace Go.Proofs.YtofcmljnckdknaaDoor
open Go.ChangeShapes Go.WideShapes Go.RowKit

/-- the result's box lies ready -/
structure RB (w : World) (r : Nat) : Prop where
  c0 : ∃ u, w.cell? ⟨r, 0, none⟩ = some u
  c1 : ∃ u, w.cell? ⟨r, 1, none⟩ = some u
  c2 : ∃ u, w.cell? ⟨r, 2, none⟩ = some u
  f0 : w.frozen? ⟨r, 0, none⟩ = false
  f1 : w.frozen? ⟨r, 1, none⟩ = false
  f2 : w.frozen? ⟨r, 2, none⟩ = false
  lt : r < w.heap.size
theorem RB.belowB {w w' : World} {r B : Nat} (h : RB w r) (hb : Below B w w') (hr : r < B) : RB w' r := by
  obtain ⟨u0, h0⟩ := h.c0
  obtain ⟨u1, h1⟩ := h.c1
  obtain ⟨u2, h2⟩ := h.c2
  exact ⟨⟨u0, (hb.cell (p := ⟨r, 0, none⟩) hr).trans h0⟩, ⟨u1, (hb.cell (p := ⟨r, 1, none⟩) hr).trans h1⟩, ⟨u2, (hb.cell (p := ⟨r, 2, none⟩) hr).trans h2⟩, (hb.frozen (p := ⟨r, 0, none⟩) hr).trans h.f0, (hb.frozen (p := ⟨r, 1, none⟩) hr).trans h.f1, (hb.frozen (p := ⟨r, 2, none⟩) hr).trans h.f2, by have := h.lt; have := hb.size; omega⟩
theorem RB.fs {w w' : World} {r g : Nat} (h : RB w r) (hF : Fs g w w') (hn : r ≠ g) : RB w' r := by
  have hl := h.lt
  obtain ⟨u0, h0⟩ := h.c0
  obtain ⟨u1, h1⟩ := h.c1
  obtain ⟨u2, h2⟩ := h.c2
  exact ⟨⟨u0, (hF.cell ⟨r, 0, none⟩ hl hn).trans h0⟩, ⟨u1, (hF.cell ⟨r, 1, none⟩ hl hn).trans h1⟩, ⟨u2, (hF.cell ⟨r, 2, none⟩ hl hn).trans h2⟩, (hF.frozen ⟨r, 0, none⟩ hl hn).trans h.f0, (hF.frozen ⟨r, 1, none⟩ hl hn).trans h.f1, (hF.frozen ⟨r, 2, none⟩ hl hn).trans h.f2, by have := hF.size; omega⟩
def DrewH0 (w : World) (e : Ending) (w' : World) : Prop :=
  ∃ h : HandD, e = .returned (.agg #[.string h.1, .int .i64 h.2.1, .bool h.2.2]) ∧ OkHandS h ∧ Below w.heap.size w w'
set_option maxRecDepth 100000 in
set_option maxHeartbeats 6400000 in
theorem drawHandText_any (A : Option Addr) (c : Nat) (cs : List Int) (w : World) (hr : Rd LU w w.heap.size A c cs) (hb : ∀ x ∈ cs, 0 ≤ x ∧ x ≤ 255) :
    Calls Tryd.prog 22 #[.slice A cs.length c] w (DrewH0 w) := by
  obtain ⟨g, hg⟩ : ∃ g, g = w.heap.size + 1 := ⟨_, rfl⟩
  have hb0 : Below w.heap.size w (w.alloc (.cells #[.string ByteArray.empty, .int .i64 0, .bool false] 26)) := (Below.refl _ w).alloc (Nat.le_refl _) _
  have hR : RB (w.alloc (.cells #[.string ByteArray.empty, .int .i64 0, .bool false] 26)) w.heap.size := ⟨⟨.string ByteArray.empty, by go_simp⟩, ⟨.int .i64 0, by go_simp⟩, ⟨.bool false, by go_simp⟩, by go_simp, by go_simp, by go_simp, by simp⟩
  have hc := from_at g A c cs (w.alloc (.cells #[.string ByteArray.empty, .int .i64 0, .bool false] 26)) (by rw [hg]; simp) (hr.alloc (Nat.le_refl _) _) (by simp) hb
  have hgw : w.heap.size < g := by omega
  clear hg hr
  go_enter Tryd.func22, Tryd.ntmps22
  go_wp2_with fail
  refine hc.mono ?_
  rintro e w1 ⟨rfl, hS, hb1⟩
  have hg1 := hS.g1
  have hs1 := hb1.size
  have hR1 := hR.belowB hb1 (by omega)
  have HBw := Lib.hid (hb0.trans (hb1.mono (by omega)))
  have hc2 := l23New_any { data := #[98, 105, 108, 108, 45, 50] } g A c cs 0 w1 hS (by omega)
  clear hc hS hb1 hR hb0
  go_wp2_with fail
  refine hc2.mono ?_
  rintro e w2 ⟨sh, ly, rfl, s0, s1, hS, hF⟩
  have hs2 := hF.size
  obtain ⟨hh, hhh⟩ : ∃ h : HandD, h = ({ data := #[98, 105, 108, 108, 45, 50] }, sh, ly) := ⟨_, rfl⟩
  have hok : OkHandS hh := by rw [hhh]; exact ⟨by dsimp only; decide, by unfold I64; dsimp only; omega⟩
  have hO := Own.lit (L := LHand) (T := 26) (base := w2.heap.size) (g := w2.heap.size) w2 (Nat.le_refl _) rfl [hh] #[.string hh.1, .int .i64 hh.2.1, .bool hh.2.2] 1 rfl (by unfold maxLen; omega) rfl
  have hbl : Below w2.heap.size w2 (w2.alloc (.cells #[.string hh.1, .int .i64 hh.2.1, .bool hh.2.2] 26)) := (Below.refl _ w2).alloc (Nat.le_refl _) _
  have HR1 := Lib.hid hR1
  have HF2 := Lib.hid (hF.then_ hbl hs2)
  have HOK : Hid (∀ n ∈ [hh], OkHandS n) := Lib.hid (fun n hn => by simp at hn; rw [hn]; exact hok)
  have hc3 := one_any 5 g A c cs _ _ (hS.below hbl) (by omega) (by omega)
  obtain ⟨W2, hW2⟩ : ∃ W, W = w2.alloc (.cells #[.string hh.1, .int .i64 hh.2.1, .bool hh.2.2] 26) := ⟨_, rfl⟩
  have hsz : w2.heap.size < W2.heap.size := by rw [hW2]; simp
  rw [← hW2] at hO HF2 hc3
  have HO := Lib.hid hO
  obtain ⟨b, hbb⟩ : ∃ b, b = w2.heap.size := ⟨_, rfl⟩
  clear hc2 hS hF hR1 hok hO hbl
  have e0 : hh.1 = { data := #[98, 105, 108, 108, 45, 50] } := by rw [hhh]
  have e1 : hh.2.1 = sh := by rw [hhh]
  have e2 : hh.2.2 = ly := by rw [hhh]
  rw [e0, e1, e2] at hW2
  clear e0 e1 e2 hhh
  go_wp2_with fail
  rw [← hW2]
  clear hW2
  have hbs : w1.heap.size ≤ b := by omega
  refine hc3.mono ?_
  rintro e w3 ⟨q, rfl, hS, hF⟩
  have hs3 := hF.size
  rw [← hbb] at HO
  have HO3 := Lib.hid (hF.own HO.out (by intro e; simp [blk] at e; omega))
  have HF3 := Lib.hid (HF2.out.trans hF)
  have HS3 := Lib.hid hS
  clear hc3 hS hF HO HF2
  rw [← hbb]
  have hbw2 : w2.heap.size = b := hbb.symm
  have hbw3 : b < W2.heap.size := by omega
  clear hbb hbw2 hs2 hsz
  cases q
  · obtain ⟨wz, rfl⟩ : ∃ q, q = w3 := ⟨_, rfl⟩
    obtain ⟨hz, rfl⟩ : ∃ q, q = hh := ⟨_, rfl⟩
    have HOz := HO3
    have HFz := HF3
    have HOKz := HOK
    clear HO3 HF3 HOK
    obtain ⟨b', hbq, _, hbl, ⟨p0, p1, p2⟩, _⟩ := ownHand HOz.out (k := 0) (by simp)
    cases hbq
    simp only [List.getElem_cons_zero, Nat.zero_mul, Nat.zero_add] at p0 p1 p2
    have HRB := Lib.hid (HR1.out.fs HFz.out (by omega))
    obtain ⟨r0, hr0⟩ := HRB.out.c0
    obtain ⟨r1, hr1⟩ := HRB.out.c1
    obtain ⟨r2, hr2⟩ := HRB.out.c2
    have hrf0 := HRB.out.f0
    have hrf1 := HRB.out.f1
    have hrf2 := HRB.out.f2
    have hg7 := HRB.out.lt
    have hn1 : b ≠ w.heap.size := by omega
    have hn2 : w.heap.size ≠ b := by omega
    have HBF : Hid (Below w.heap.size wz (((wz.setCell ⟨w.heap.size, 0, none⟩ (.string hz.1)).setCell ⟨w.heap.size, 1, none⟩ (.int .i64 hz.2.1)).setCell ⟨w.heap.size, 2, none⟩ (.bool hz.2.2))) := Lib.hid ((((Below.refl _ wz).setCell (p := ⟨w.heap.size, 0, none⟩) (Nat.le_refl _) _).setCell (p := ⟨w.heap.size, 1, none⟩) (Nat.le_refl _) _).setCell (p := ⟨w.heap.size, 2, none⟩) (Nat.le_refl _) _)
    have HBZ := Lib.hid ((HBw.out.trans (HFz.out.below HBw.out.size (by omega))).trans HBF.out)
    go_wp2_with fail
    exact bodyPost_ret (v := .agg #[.string hz.1, .int .i64 hz.2.1, .bool hz.2.2]) (by simp [results, Tryd.results22, go_sem, hr0, hr1, hr2, hg7]) rfl ⟨hz, rfl, HOKz.out hz (by simp), HBZ.out⟩
  · have hsp := l23SpoilS_any b b 1 [hh] 0 g A c cs _ w1 w3 HS3.out (by omega) HO3.out (by simp) HOK.out hbs hg1 HF3.out
    simp only [Nat.zero_mul] at hsp
    clear HS3 HO3 HF3 HOK
    go_wp2_with fail
    refine hsp.mono ?_
    rintro e wz ⟨xs, rfl, hxl, ho, hok, hS, hF⟩
    obtain ⟨hz, rfl⟩ : ∃ q, xs = [q] := by
      match xs, hxl with
      | [q], _ => exact ⟨q, rfl⟩
    have HOz := Lib.hid ho
    have HFz := Lib.hid hF
    have HOKz := Lib.hid hok
    clear hsp ho hok hS hF hxl
    obtain ⟨b', hbq, _, hbl, ⟨p0, p1, p2⟩, _⟩ := ownHand HOz.out (k := 0) (by simp)
    cases hbq
    simp only [List.getElem_cons_zero, Nat.zero_mul, Nat.zero_add] at p0 p1 p2
    have HRB := Lib.hid (HR1.out.fs HFz.out (by omega))
    obtain ⟨r0, hr0⟩ := HRB.out.c0
    obtain ⟨r1, hr1⟩ := HRB.out.c1
    obtain ⟨r2, hr2⟩ := HRB.out.c2
    have hrf0 := HRB.out.f0
    have hrf1 := HRB.out.f1
    have hrf2 := HRB.out.f2
    have hg7 := HRB.out.lt
    have hn1 : b ≠ w.heap.size := by omega
    have hn2 : w.heap.size ≠ b := by omega
    have HBF : Hid (Below w.heap.size wz (((wz.setCell ⟨w.heap.size, 0, none⟩ (.string hz.1)).setCell ⟨w.heap.size, 1, none⟩ (.int .i64 hz.2.1)).setCell ⟨w.heap.size, 2, none⟩ (.bool hz.2.2))) := Lib.hid ((((Below.refl _ wz).setCell (p := ⟨w.heap.size, 0, none⟩) (Nat.le_refl _) _).setCell (p := ⟨w.heap.size, 1, none⟩) (Nat.le_refl _) _).setCell (p := ⟨w.heap.size, 2, none⟩) (Nat.le_refl _) _)
    have HBZ := Lib.hid ((HBw.out.trans (HFz.out.below HBw.out.size (by omega))).trans HBF.out)
    go_wp2_with fail
    exact bodyPost_ret (v := .agg #[.string hz.1, .int .i64 hz.2.1, .bool hz.2.2]) (by simp [results, Tryd.results22, go_sem, hr0, hr1, hr2, hg7]) rfl ⟨hz, rfl, HOKz.out hz (by simp), HBZ.out⟩
end Go.Proofs.YtofcmljnckdknaaDoor
