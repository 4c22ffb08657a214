/-
  Draws of a gang and a hand to be added.
-/
import Derived.Test.YtofcmljnckdknaaDoorGangsDrawB
import Derived.Deep.CutRange
import Derived.Deep.RegionHeld3
import Derived.RegionTactic
import Derived.BigRegion
namespace Go.Proofs.YtofcmljnckdknaaDoor
open Go.ChangeShapes Go.WideShapes Go.RowKit

def AHL : List ByteArray := [{ data := #[106, 111, 101] }, { data := #[110, 101, 100] }, { data := #[110, 101, 119] }, { data := #[122, 101, 100] }]
theorem AHL_size {n : ByteArray} (h : n ∈ AHL) : n.size ≤ 100 := by
  unfold AHL at h
  simp only [List.mem_cons, List.not_mem_nil, or_false] at h
  rcases h with h | h | h | h <;> subst h <;> decide
def DrewAH (w : World) (e : Ending) (w' : World) : Prop :=
  ∃ (B : Option Addr) (d : Nat) (xs : List HandD) (h : HandD), e = .returned (.tuple #[.slice B xs.length d, .agg #[.string h.1, .int .i64 h.2.1, .bool h.2.2]]) ∧ xs.length ≤ 21 ∧ Rd LHand w' w'.heap.size B d xs ∧ (∀ n ∈ xs, OkHand n) ∧ OkHand h ∧ Below w.heap.size w w'
set_option maxRecDepth 100000 in
set_option maxHeartbeats 6400000 in
theorem drawAddHand_any (A : Option Addr) (c : Nat) (cs : List Int) (w : World) (hr : Rd LU w w.heap.size A c cs) (hb : ∀ x ∈ cs, 0 ≤ x ∧ x ≤ 255) :
    Calls Tryd.prog 5 #[.slice A cs.length c] w (DrewAH w) := by
  obtain ⟨g, hg⟩ : ∃ g, g = w.heap.size + 1 := ⟨_, rfl⟩
  have hb0 : Below w.heap.size w (w.alloc (.cells #[.string ByteArray.empty, .int .i64 0, .bool false] 26)) := (Below.refl _ w).alloc (Nat.le_refl _) _
  have hR : RB (w.alloc (.cells #[.string ByteArray.empty, .int .i64 0, .bool false] 26)) w.heap.size := ⟨⟨.string ByteArray.empty, by go_simp⟩, ⟨.int .i64 0, by go_simp⟩, ⟨.bool false, by go_simp⟩, by go_simp, by go_simp, by go_simp, by simp⟩
  have hc := from_at g A c cs (w.alloc (.cells #[.string ByteArray.empty, .int .i64 0, .bool false] 26)) (by rw [hg]; simp) (hr.alloc (Nat.le_refl _) _) (by simp) hb
  have hgw : w.heap.size < g := by omega
  clear hg hr
  go_enter Tryd.func5, Tryd.ntmps5
  go_wp2_with fail
  refine hc.mono ?_
  rintro e w0 ⟨rfl, hS, hb1⟩
  have hg0 := hS.g1
  have hs0 := hb1.size
  have hR0 := hR.belowB hb1 (by omega)
  have HB0 := Lib.hid (hb0.trans (hb1.mono (by omega)))
  have hc1 := l23Bent_any g A c cs 0 w0 hS (by omega)
  clear hc hS hb1 hR hb0
  go_wp2_with fail
  refine hc1.mono ?_
  rintro e w1 ⟨B, d, xs, rfl, hxl, ho, hxk, hS, hF⟩
  have hs1 := hF.size
  have hg1 : g < w1.heap.size := by omega
  have HXK := Lib.hid hxk
  have HL := Lib.hid ho
  have HR1 := Lib.hid (hR0.fs hF (by omega))
  have HBw := Lib.hid (HB0.out.trans (hF.below HB0.out.size (by omega)))
  have ht := textLit_any AHL 4 #[.string { data := #[106, 111, 101] }, .string { data := #[110, 101, 100] }, .string { data := #[110, 101, 119] }, .string { data := #[122, 101, 100] }] rfl rfl (by omega) (by omega) g A c cs _ w1 hS (by omega)
  clear hc1 ho hxk hS hF hR0 HB0
  go_wp2_with fail
  refine ht.mono ?_
  rintro e wt ⟨nm, rfl, hnm, hS, hF⟩
  have hst := hF.size
  have hns := AHL_size hnm
  have HFt := Lib.hid hF
  have hc2 := l23New_any nm g A c cs _ wt hS (by omega)
  clear ht hS hF hnm
  go_wp2_with fail
  refine hc2.mono ?_
  rintro e w2 ⟨sh, ly, rfl, s0, s1, hS, hF⟩
  have hs2 := hF.size
  obtain ⟨hh, hhh⟩ : ∃ h : HandD, h = (nm, sh, ly) := ⟨_, rfl⟩
  have hok : OkHand hh := by rw [hhh]; exact ⟨by dsimp only; omega, by unfold I64; dsimp only; omega⟩
  have hO := Own.lit (L := LHand) (T := 26) (base := w2.heap.size) (g := w2.heap.size) w2 (Nat.le_refl _) rfl [hh] #[.string hh.1, .int .i64 hh.2.1, .bool hh.2.2] 1 rfl (by unfold maxLen; omega) rfl
  have hbl : Below w2.heap.size w2 (w2.alloc (.cells #[.string hh.1, .int .i64 hh.2.1, .bool hh.2.2] 26)) := (Below.refl _ w2).alloc (Nat.le_refl _) _
  have HF2 := Lib.hid ((HFt.out.trans hF).then_ hbl (by omega))
  have HOK : Hid (∀ n ∈ [hh], OkHand n) := Lib.hid (fun n hn => by simp at hn; rw [hn]; exact hok)
  have hc3 := one_any 6 g A c cs _ _ (hS.below hbl) (by omega) (by omega)
  obtain ⟨W2, hW2⟩ : ∃ W, W = w2.alloc (.cells #[.string hh.1, .int .i64 hh.2.1, .bool hh.2.2] 26) := ⟨_, rfl⟩
  have hsz : w2.heap.size < W2.heap.size := by rw [hW2]; simp
  rw [← hW2] at hO HF2 hc3
  have HO := Lib.hid hO
  obtain ⟨b, hbb⟩ : ∃ b, b = w2.heap.size := ⟨_, rfl⟩
  clear hc2 hS hF hok hO hbl HFt
  have e0 : hh.1 = nm := by rw [hhh]
  have e1 : hh.2.1 = sh := by rw [hhh]
  have e2 : hh.2.2 = ly := by rw [hhh]
  rw [e0, e1, e2] at hW2
  clear e0 e1 e2 hhh
  go_wp2_with fail
  rw [← hW2]
  clear hW2
  have hbs : w1.heap.size ≤ b := by omega
  refine hc3.mono ?_
  rintro e w3 ⟨q, rfl, hS, hF⟩
  have hs3 := hF.size
  rw [← hbb] at HO
  have HO3 := Lib.hid (hF.own HO.out (by intro e; simp [blk] at e; omega))
  have HF3 := Lib.hid (HF2.out.trans hF)
  have HS3 := Lib.hid hS
  clear hc3 hS hF HO HF2
  rw [← hbb]
  have hbw3 : b < W2.heap.size := by omega
  clear hbb hs2 hsz
  cases q
  · obtain ⟨wz, rfl⟩ : ∃ q, q = w3 := ⟨_, rfl⟩
    obtain ⟨hz, rfl⟩ : ∃ q, q = hh := ⟨_, rfl⟩
    have HOz := HO3
    have HFz := HF3
    have HOKz := HOK
    clear HO3 HF3 HOK
    obtain ⟨b', hbq, _, hbl, ⟨p0, p1, p2⟩, _⟩ := ownHand HOz.out (k := 0) (by simp)
    cases hbq
    simp only [List.getElem_cons_zero, Nat.zero_mul, Nat.zero_add] at p0 p1 p2
    have HRB := Lib.hid (HR1.out.fs HFz.out (by omega))
    have HLz := Lib.hid (HFz.out.own HL.out (fun e => by have := (HL.out.blk_lt g e).1; omega))
    obtain ⟨r0, hr0⟩ := HRB.out.c0
    obtain ⟨r1, hr1⟩ := HRB.out.c1
    obtain ⟨r2, hr2⟩ := HRB.out.c2
    have hrf0 := HRB.out.f0
    have hrf1 := HRB.out.f1
    have hrf2 := HRB.out.f2
    have hg7 := HRB.out.lt
    have hn1 : b ≠ w.heap.size := by omega
    have hn2 : w.heap.size ≠ b := by omega
    have HBF : Hid (Below w.heap.size wz (((wz.setCell ⟨w.heap.size, 0, none⟩ (.string hz.1)).setCell ⟨w.heap.size, 1, none⟩ (.int .i64 hz.2.1)).setCell ⟨w.heap.size, 2, none⟩ (.bool hz.2.2))) := Lib.hid ((((Below.refl _ wz).setCell (p := ⟨w.heap.size, 0, none⟩) (Nat.le_refl _) _).setCell (p := ⟨w.heap.size, 1, none⟩) (Nat.le_refl _) _).setCell (p := ⟨w.heap.size, 2, none⟩) (Nat.le_refl _) _)
    have HBZ := Lib.hid ((HBw.out.trans (HFz.out.below HBw.out.size (by omega))).trans HBF.out)
    have HLf := Lib.hid (((HLz.out.setFar (p := ⟨w.heap.size, 0, none⟩) (fun e => by have := (HLz.out.blk_lt _ e).1; dsimp only at this; omega) (.string hz.1)).setFar (p := ⟨w.heap.size, 1, none⟩) (fun e => by have := (HLz.out.blk_lt _ e).1; dsimp only at this; omega) (.int .i64 hz.2.1)).setFar (p := ⟨w.heap.size, 2, none⟩) (fun e => by have := (HLz.out.blk_lt _ e).1; dsimp only at this; omega) (.bool hz.2.2)).rd
    go_upto_region 7 with fail
    go_region_law (fail)
    all_goals
      go_wp2_with fail
      exact bodyPost_ret (v := .tuple #[.slice B xs.length d, .agg #[.string hz.1, .int .i64 hz.2.1, .bool hz.2.2]]) (by simp [results, Tryd.results5, go_sem, hr0, hr1, hr2, hg7]) rfl ⟨B, d, xs, hz, rfl, hxl, HLf.out.drew, HXK.out, HOKz.out hz (by simp), HBZ.out.drew⟩
  · have hsp := l23Spoil_any b b 1 [hh] 0 g A c cs _ w1 w3 HS3.out (by omega) HO3.out (by simp) HOK.out hbs hg1 HF3.out
    simp only [Nat.zero_mul] at hsp
    clear HS3 HO3 HF3 HOK
    go_wp2_with fail
    refine hsp.mono ?_
    rintro e wz ⟨zs, rfl, hzl, ho, hok, hS, hF⟩
    obtain ⟨hz, rfl⟩ : ∃ q, zs = [q] := by
      match zs, hzl with
      | [q], _ => exact ⟨q, rfl⟩
    have HOz := Lib.hid ho
    have HFz := Lib.hid hF
    have HOKz := Lib.hid hok
    clear hsp ho hok hS hF hzl
    obtain ⟨b', hbq, _, hbl, ⟨p0, p1, p2⟩, _⟩ := ownHand HOz.out (k := 0) (by simp)
    cases hbq
    simp only [List.getElem_cons_zero, Nat.zero_mul, Nat.zero_add] at p0 p1 p2
    have HRB := Lib.hid (HR1.out.fs HFz.out (by omega))
    have HLz := Lib.hid (HFz.out.own HL.out (fun e => by have := (HL.out.blk_lt g e).1; omega))
    obtain ⟨r0, hr0⟩ := HRB.out.c0
    obtain ⟨r1, hr1⟩ := HRB.out.c1
    obtain ⟨r2, hr2⟩ := HRB.out.c2
    have hrf0 := HRB.out.f0
    have hrf1 := HRB.out.f1
    have hrf2 := HRB.out.f2
    have hg7 := HRB.out.lt
    have hn1 : b ≠ w.heap.size := by omega
    have hn2 : w.heap.size ≠ b := by omega
    have HBF : Hid (Below w.heap.size wz (((wz.setCell ⟨w.heap.size, 0, none⟩ (.string hz.1)).setCell ⟨w.heap.size, 1, none⟩ (.int .i64 hz.2.1)).setCell ⟨w.heap.size, 2, none⟩ (.bool hz.2.2))) := Lib.hid ((((Below.refl _ wz).setCell (p := ⟨w.heap.size, 0, none⟩) (Nat.le_refl _) _).setCell (p := ⟨w.heap.size, 1, none⟩) (Nat.le_refl _) _).setCell (p := ⟨w.heap.size, 2, none⟩) (Nat.le_refl _) _)
    have HBZ := Lib.hid ((HBw.out.trans (HFz.out.below HBw.out.size (by omega))).trans HBF.out)
    have HLf := Lib.hid (((HLz.out.setFar (p := ⟨w.heap.size, 0, none⟩) (fun e => by have := (HLz.out.blk_lt _ e).1; dsimp only at this; omega) (.string hz.1)).setFar (p := ⟨w.heap.size, 1, none⟩) (fun e => by have := (HLz.out.blk_lt _ e).1; dsimp only at this; omega) (.int .i64 hz.2.1)).setFar (p := ⟨w.heap.size, 2, none⟩) (fun e => by have := (HLz.out.blk_lt _ e).1; dsimp only at this; omega) (.bool hz.2.2)).rd
    go_upto_region 7 with fail
    go_region_law (fail)
    all_goals
      go_wp2_with fail
      exact bodyPost_ret (v := .tuple #[.slice B xs.length d, .agg #[.string hz.1, .int .i64 hz.2.1, .bool hz.2.2]]) (by simp [results, Tryd.results5, go_sem, hr0, hr1, hr2, hg7]) rfl ⟨B, d, xs, hz, rfl, hxl, HLf.out.drew, HXK.out, HOKz.out hz (by simp), HBZ.out.drew⟩
end Go.Proofs.YtofcmljnckdknaaDoor
