/-
  Draws of scaffolds: l22Bent.
-/
import Derived.Test.YtamhkiakplmlmaaDoorScDraw
namespace Go.Proofs.YtamhkiakplmlmaaDoor
open Go.ChangeShapes Go.WideShapes Go.RowKit

def DrewSd (g : Nat) (A : Option Addr) (c : Nat) (cs : List Int) (m : Nat) (w : World) (e : Ending) (w' : World) : Prop :=
  ∃ (Ab : Option Addr) (cb : Nat) (xb : List Int) (At : Option Addr) (ct : Nat) (xt : List Int) (n : Int), e = .returned (.agg #[.slice Ab xb.length cb, .slice At xt.length ct, .int .i64 n]) ∧ xb.length ≤ 21 ∧ xt.length ≤ 13 ∧ Own LI 2 w' w.heap.size Ab cb xb ∧ Own LI 2 w' w.heap.size At ct xt ∧ Ap Ab At ∧ Sr w' g A c cs m ∧ Fs g w w'
set_option maxRecDepth 100000 in
set_option maxHeartbeats 6400000 in
theorem l22Bent_any (g : Nat) (A : Option Addr) (c : Nat) (cs : List Int) (m : Nat) (w : World) (h : Sr w g A c cs m) (hm : m ≤ 1000000) :
    Calls Tryd.prog 37 #[.pointer (some ⟨g, 0, none⟩)] w (DrewSd g A c cs (m + 60) w) := by
  have hg := h.g1
  have hb0 : Below w.heap.size w (w.alloc (.cells #[.slice none 0 0, .slice none 0 0, .int .i64 0] 26)) := (Below.refl _ w).alloc (Nat.le_refl _) _
  have hR : RB (w.alloc (.cells #[.slice none 0 0, .slice none 0 0, .int .i64 0] 26)) w.heap.size := ⟨⟨.slice none 0 0, by go_simp⟩, ⟨.slice none 0 0, by go_simp⟩, ⟨.int .i64 0, by go_simp⟩, by go_simp, by go_simp, by go_simp, by simp⟩
  have hc := l22Draw_any g A c cs m _ (h.belowB hb0 hg) hm
  clear h
  go_enter Tryd.func37, Tryd.ntmps37
  go_wp2_with fail
  refine hc.mono ?_
  rintro e w1 ⟨Ab, cb, xb, At, ct, xt, N, rfl, hxb, hxt, hp0, hp1, ho1, ho2, hap, hS, hF⟩
  have hs1 := hF.size
  simp at hs1
  have hR1 := hR.fs hF (by omega)
  have hF1 := (Fs.of_below (g := g) hb0).trans hF
  have hb1 : Below w1.heap.size w1 (w1.alloc (.cells #[.slice Ab xb.length cb, .slice At xt.length ct, .int .i64 N] 26)) := (Below.refl _ w1).alloc (Nat.le_refl _) _
  have ho1' := ho1.lower (show w.heap.size + 1 ≤ _ by simp)
  have ho2' := ho2.lower (show w.heap.size + 1 ≤ _ by simp)
  have HSC := Lib.hid (show Sc (w1.alloc (.cells #[.slice Ab xb.length cb, .slice At xt.length ct, .int .i64 N] 26)) w1.heap.size (w.heap.size + 1) Ab cb xb At ct xt N from
    ⟨by go_simp, by go_simp, by go_simp, by go_simp, by go_simp, by go_simp, ho1'.below hb1, ho2'.below hb1, hap, fun e => by have := (ho1'.blk_lt _ e).2; omega, fun e => by have := (ho2'.blk_lt _ e).2; omega, by omega, by simp⟩)
  have HRB := Lib.hid (hR1.belowB hb1 (by omega))
  have HS := Lib.hid (hS.below hb1)
  have HF := Lib.hid (hF1.then_ hb1 (by omega))
  have hc2 := pick_any 24 g A c cs _ _ HS.out (by omega) (by omega)
  clear hc hS hF hR hR1 ho1 ho2 ho1' ho2' hap hF1 hb1 hb0 HS
  go_wp2_with fail
  refine hc2.mono ?_
  rintro e w2 ⟨z, rfl, z0, z1, hS, hF⟩
  have HSC2 := Lib.hid (HSC.out.fs hF (by omega))
  have HRB2 := Lib.hid (HRB.out.fs hF (by omega))
  have HS2 := Lib.hid hS
  have HF2 := Lib.hid (HF.out.trans hF)
  clear hc2 hS hF HSC HRB HF
  obtain ⟨b, hb⟩ : ∃ b, b = w1.heap.size := ⟨_, rfl⟩
  rw [← hb] at HSC2
  go_upto_region 3 with fail
  rw [← hb]
  clear hb
  by_cases t0 : z = 0
  · subst t0
    obtain ⟨G, hG, hGb, hGl, hcG, hfG⟩ := HSC2.out.ob.int hp0
    subst hG
    generalize xb[0] = old at *
    have HSd := Lib.hid HS2.out.dr
    have HCd := Lib.hid HSC2.out.dr
    have HRd := Lib.hid (HRB2.out.belowB ((Below.refl _ _).drew) HRB2.out.lt)
    have HFd := Lib.hid HF2.out.drew
    have hc0 := HSC2.out.c0
    have hca0 := fun o => (HSC2.out.al o).c0
    have hx0i : (0 : Int) < xb.length := by omega
    have hgs := HF2.out.size
    have hnG : b ≠ G := fun e => HSC2.out.nb (by rw [e]; rfl)
    clear HS2 HF2
    go_upto_region 4 with fail
    go_region_law (first
      | (go_simp; go_at_call 29; refine (amongLit_any [499, 500, 3000, 3001, -9223372036854775808] 5 _ rfl rfl (by omega) (by omega) g A c cs _ _ HSd.out (by omega)).mono ?_; rintro e w6 ⟨v, rfl, hv, hS, hF⟩; have hs6 := hF.size; (try simp at hs6); have HC6 := Lib.hid (HCd.out.fs hF (by omega)); have HR6 := Lib.hid (HRd.out.fs hF (by omega)); have HF6 := Lib.hid (HFd.out.trans hF); have HS6 := Lib.hid hS; have hcG6 := HC6.out.c0; have hc26 : w6.cell? ⟨G, 0, none⟩ = some (.int .i64 old) := (hF.cell ⟨G, 0, none⟩ (by simp; omega) (by simp; omega)).trans hcG; have hf26 : w6.frozen? ⟨G, 0, none⟩ = false := (hF.frozen ⟨G, 0, none⟩ (by simp; omega) (by simp; omega)).trans hfG; clear hS hF))
    all_goals
      have hbz : Below (w.heap.size + 1) w6 (w6.setCell ⟨G, 0, none⟩ (.int .i64 v)) := (Below.refl (w.heap.size + 1) w6).setCell (p := ⟨G, 0, none⟩) hGb _
      have HSC := Lib.hid (HC6.out.in0 0 v)
      have HRB := Lib.hid (HR6.out.belowB hbz (by omega))
      have HS := Lib.hid (HS6.out.belowB hbz (by omega))
      have HF := Lib.hid (HF6.out.then_ hbz (by omega))
      have HL : Hid ((xb.set 0 v).length ≤ 21 ∧ xt.length ≤ 13) := Lib.hid (by rw [List.length_set]; constructor <;> omega)
      clear hbz hc26 hf26 hcG6 hcG hfG hc0 hca0 HC6 HR6 HF6 HS6
      obtain ⟨w7, hw7⟩ : ∃ w7, w7 = w6.setCell ⟨G, 0, none⟩ (.int .i64 v) := ⟨_, rfl⟩
      rw [← hw7] at HSC HRB HS HF
      rw [← hw7]
      clear hw7
      obtain ⟨y, hy⟩ : ∃ y, y = xb.set 0 v := ⟨_, rfl⟩
      rw [← hy] at HSC HL
      clear hy
      have hbl := HSC.out.lo
      have hq0 := HSC.out.c0
      have hq1 := HSC.out.c1
      have hq2 := HSC.out.c2
      obtain ⟨r0, hr0⟩ := HRB.out.c0
      obtain ⟨r1, hr1⟩ := HRB.out.c1
      obtain ⟨r2, hr2⟩ := HRB.out.c2
      have hrf0 := HRB.out.f0
      have hrf1 := HRB.out.f1
      have hrf2 := HRB.out.f2
      have hg7 := HRB.out.lt
      have hg8 := HSC.out.lt
      have hn1 : b ≠ w.heap.size := by omega
      have hn2 : w.heap.size ≠ b := by omega
      have HBF : Hid (Below w.heap.size w7 (((w7.setCell ⟨w.heap.size, 0, none⟩ (.slice (some ⟨G, 0, none⟩) y.length cb)).setCell ⟨w.heap.size, 1, none⟩ (.slice At xt.length ct)).setCell ⟨w.heap.size, 2, none⟩ (.int .i64 N))) := Lib.hid ((((Below.refl _ w7).setCell (p := ⟨w.heap.size, 0, none⟩) (Nat.le_refl _) _).setCell (p := ⟨w.heap.size, 1, none⟩) (Nat.le_refl _) _).setCell (p := ⟨w.heap.size, 2, none⟩) (Nat.le_refl _) _)
      have HOB := Lib.hid (((HSC.out.ob.setFar (p := ⟨w.heap.size, 0, none⟩) (fun e => by have := (HSC.out.ob.blk_lt _ e).1; dsimp only at this; omega) (.slice (some ⟨G, 0, none⟩) y.length cb)).setFar (p := ⟨w.heap.size, 1, none⟩) (fun e => by have := (HSC.out.ob.blk_lt _ e).1; dsimp only at this; omega) (.slice At xt.length ct)).setFar (p := ⟨w.heap.size, 2, none⟩) (fun e => by have := (HSC.out.ob.blk_lt _ e).1; dsimp only at this; omega) (.int .i64 N))
      have HOT := Lib.hid (((HSC.out.ot.setFar (p := ⟨w.heap.size, 0, none⟩) (fun e => by have := (HSC.out.ot.blk_lt _ e).1; dsimp only at this; omega) (.slice (some ⟨G, 0, none⟩) y.length cb)).setFar (p := ⟨w.heap.size, 1, none⟩) (fun e => by have := (HSC.out.ot.blk_lt _ e).1; dsimp only at this; omega) (.slice At xt.length ct)).setFar (p := ⟨w.heap.size, 2, none⟩) (fun e => by have := (HSC.out.ot.blk_lt _ e).1; dsimp only at this; omega) (.int .i64 N))
      go_wp2_with fail
      exact bodyPost_ret (v := .agg #[.slice (some ⟨G, 0, none⟩) y.length cb, .slice At xt.length ct, .int .i64 N]) (by simp [results, Tryd.results37, go_sem, hr0, hr1, hr2, hg7]) rfl ⟨(some ⟨G, 0, none⟩), cb, y, At, ct, xt, N, rfl, HL.out.1, HL.out.2, HOB.out.lower (by omega), HOT.out.lower (by omega), HSC.out.ap, (HS.out.more (by omega)).belowB HBF.out hg, HF.out.then_ HBF.out (Nat.le_refl _)⟩
  by_cases t1 : z = 1
  · subst t1
    obtain ⟨G, hG, hGb, hGl, hcG, hfG⟩ := HSC2.out.ot.int hp1
    subst hG
    generalize xt[0] = old at *
    have HSd := Lib.hid HS2.out.dr
    have HCd := Lib.hid HSC2.out.dr
    have HRd := Lib.hid (HRB2.out.belowB ((Below.refl _ _).drew) HRB2.out.lt)
    have HFd := Lib.hid HF2.out.drew
    have hc0 := HSC2.out.c1
    have hca0 := fun o => (HSC2.out.al o).c1
    have hx0i : (0 : Int) < xt.length := by omega
    have hgs := HF2.out.size
    have hnG : b ≠ G := fun e => HSC2.out.nt (by rw [e]; rfl)
    clear HS2 HF2
    go_upto_region 6 with fail
    go_region_law (first
      | (go_simp; go_at_call 29; refine (amongLit_any [999, 1000, 2500, 2501] 4 _ rfl rfl (by omega) (by omega) g A c cs _ _ HSd.out (by omega)).mono ?_; rintro e w6 ⟨v, rfl, hv, hS, hF⟩; have hs6 := hF.size; (try simp at hs6); have HC6 := Lib.hid (HCd.out.fs hF (by omega)); have HR6 := Lib.hid (HRd.out.fs hF (by omega)); have HF6 := Lib.hid (HFd.out.trans hF); have HS6 := Lib.hid hS; have hcG6 := HC6.out.c1; have hc26 : w6.cell? ⟨G, 0, none⟩ = some (.int .i64 old) := (hF.cell ⟨G, 0, none⟩ (by simp; omega) (by simp; omega)).trans hcG; have hf26 : w6.frozen? ⟨G, 0, none⟩ = false := (hF.frozen ⟨G, 0, none⟩ (by simp; omega) (by simp; omega)).trans hfG; clear hS hF))
    all_goals
      have hbz : Below (w.heap.size + 1) w6 (w6.setCell ⟨G, 0, none⟩ (.int .i64 v)) := (Below.refl (w.heap.size + 1) w6).setCell (p := ⟨G, 0, none⟩) hGb _
      have HSC := Lib.hid (HC6.out.in1 0 v)
      have HRB := Lib.hid (HR6.out.belowB hbz (by omega))
      have HS := Lib.hid (HS6.out.belowB hbz (by omega))
      have HF := Lib.hid (HF6.out.then_ hbz (by omega))
      have HL : Hid (xb.length ≤ 21 ∧ (xt.set 0 v).length ≤ 13) := Lib.hid (by rw [List.length_set]; constructor <;> omega)
      clear hbz hc26 hf26 hcG6 hcG hfG hc0 hca0 HC6 HR6 HF6 HS6
      obtain ⟨w7, hw7⟩ : ∃ w7, w7 = w6.setCell ⟨G, 0, none⟩ (.int .i64 v) := ⟨_, rfl⟩
      rw [← hw7] at HSC HRB HS HF
      rw [← hw7]
      clear hw7
      obtain ⟨y, hy⟩ : ∃ y, y = xt.set 0 v := ⟨_, rfl⟩
      rw [← hy] at HSC HL
      clear hy
      have hbl := HSC.out.lo
      have hq0 := HSC.out.c0
      have hq1 := HSC.out.c1
      have hq2 := HSC.out.c2
      obtain ⟨r0, hr0⟩ := HRB.out.c0
      obtain ⟨r1, hr1⟩ := HRB.out.c1
      obtain ⟨r2, hr2⟩ := HRB.out.c2
      have hrf0 := HRB.out.f0
      have hrf1 := HRB.out.f1
      have hrf2 := HRB.out.f2
      have hg7 := HRB.out.lt
      have hg8 := HSC.out.lt
      have hn1 : b ≠ w.heap.size := by omega
      have hn2 : w.heap.size ≠ b := by omega
      have HBF : Hid (Below w.heap.size w7 (((w7.setCell ⟨w.heap.size, 0, none⟩ (.slice Ab xb.length cb)).setCell ⟨w.heap.size, 1, none⟩ (.slice (some ⟨G, 0, none⟩) y.length ct)).setCell ⟨w.heap.size, 2, none⟩ (.int .i64 N))) := Lib.hid ((((Below.refl _ w7).setCell (p := ⟨w.heap.size, 0, none⟩) (Nat.le_refl _) _).setCell (p := ⟨w.heap.size, 1, none⟩) (Nat.le_refl _) _).setCell (p := ⟨w.heap.size, 2, none⟩) (Nat.le_refl _) _)
      have HOB := Lib.hid (((HSC.out.ob.setFar (p := ⟨w.heap.size, 0, none⟩) (fun e => by have := (HSC.out.ob.blk_lt _ e).1; dsimp only at this; omega) (.slice Ab xb.length cb)).setFar (p := ⟨w.heap.size, 1, none⟩) (fun e => by have := (HSC.out.ob.blk_lt _ e).1; dsimp only at this; omega) (.slice (some ⟨G, 0, none⟩) y.length ct)).setFar (p := ⟨w.heap.size, 2, none⟩) (fun e => by have := (HSC.out.ob.blk_lt _ e).1; dsimp only at this; omega) (.int .i64 N))
      have HOT := Lib.hid (((HSC.out.ot.setFar (p := ⟨w.heap.size, 0, none⟩) (fun e => by have := (HSC.out.ot.blk_lt _ e).1; dsimp only at this; omega) (.slice Ab xb.length cb)).setFar (p := ⟨w.heap.size, 1, none⟩) (fun e => by have := (HSC.out.ot.blk_lt _ e).1; dsimp only at this; omega) (.slice (some ⟨G, 0, none⟩) y.length ct)).setFar (p := ⟨w.heap.size, 2, none⟩) (fun e => by have := (HSC.out.ot.blk_lt _ e).1; dsimp only at this; omega) (.int .i64 N))
      go_wp2_with fail
      exact bodyPost_ret (v := .agg #[.slice Ab xb.length cb, .slice (some ⟨G, 0, none⟩) y.length ct, .int .i64 N]) (by simp [results, Tryd.results37, go_sem, hr0, hr1, hr2, hg7]) rfl ⟨Ab, cb, xb, (some ⟨G, 0, none⟩), ct, y, N, rfl, HL.out.1, HL.out.2, HOB.out.lower (by omega), HOT.out.lower (by omega), HSC.out.ap, (HS.out.more (by omega)).belowB HBF.out hg, HF.out.then_ HBF.out (Nat.le_refl _)⟩
  by_cases t2 : z = 2
  · subst t2
    have ha := amongLit_any [0, 1, 10000, 10001] 4 _ rfl rfl (by omega) (by omega) g A c cs _ w2 HS2.out (by omega)
    clear HS2
    go_wp2_with fail
    refine ha.mono ?_
    rintro e w6 ⟨v, rfl, hv, hS, hF⟩
    have HC6 := Lib.hid (HSC2.out.fs hF (by omega))
    have HR6 := Lib.hid (HRB2.out.fs hF (by omega))
    have hgs := HF2.out.size
    have hbl := HC6.out.lo
    have hbz : Below (w.heap.size + 1) w6 (w6.setCell ⟨b, 2, none⟩ (.int .i64 v)) := (Below.refl (w.heap.size + 1) w6).setCell (p := ⟨b, 2, none⟩) hbl _
    have HSC := Lib.hid (HC6.out.num v)
    have HRB := Lib.hid (HR6.out.belowB hbz (by omega))
    have HS := Lib.hid (hS.belowB hbz (by omega))
    have HF := Lib.hid ((HF2.out.trans hF).then_ hbz (by omega))
    have HL : Hid (xb.length ≤ 21 ∧ xt.length ≤ 13) := Lib.hid (by constructor <;> omega)
    have hk0 := HC6.out.c2
    have hk1 := HC6.out.f2
    have hk2 := HC6.out.lt
    clear ha hS hF HSC2 HRB2 HF2 hbl hbz
    clear HC6 HR6
    have hgm := HF.out.size
    go_upto_region 21 with fail
    obtain ⟨w7, hw7⟩ : ∃ w7, w7 = w6.setCell ⟨b, 2, none⟩ (.int .i64 v) := ⟨_, rfl⟩
    rw [← hw7] at HSC HRB HS HF
    rw [← hw7]
    clear hw7 hk0 hk1 hk2
    have hbl := HSC.out.lo
    have hq0 := HSC.out.c0
    have hq1 := HSC.out.c1
    have hq2 := HSC.out.c2
    obtain ⟨r0, hr0⟩ := HRB.out.c0
    obtain ⟨r1, hr1⟩ := HRB.out.c1
    obtain ⟨r2, hr2⟩ := HRB.out.c2
    have hrf0 := HRB.out.f0
    have hrf1 := HRB.out.f1
    have hrf2 := HRB.out.f2
    have hg7 := HRB.out.lt
    have hg8 := HSC.out.lt
    have hn1 : b ≠ w.heap.size := by omega
    have hn2 : w.heap.size ≠ b := by omega
    have HBF : Hid (Below w.heap.size w7 (((w7.setCell ⟨w.heap.size, 0, none⟩ (.slice Ab xb.length cb)).setCell ⟨w.heap.size, 1, none⟩ (.slice At xt.length ct)).setCell ⟨w.heap.size, 2, none⟩ (.int .i64 v))) := Lib.hid ((((Below.refl _ w7).setCell (p := ⟨w.heap.size, 0, none⟩) (Nat.le_refl _) _).setCell (p := ⟨w.heap.size, 1, none⟩) (Nat.le_refl _) _).setCell (p := ⟨w.heap.size, 2, none⟩) (Nat.le_refl _) _)
    have HOB := Lib.hid (((HSC.out.ob.setFar (p := ⟨w.heap.size, 0, none⟩) (fun e => by have := (HSC.out.ob.blk_lt _ e).1; dsimp only at this; omega) (.slice Ab xb.length cb)).setFar (p := ⟨w.heap.size, 1, none⟩) (fun e => by have := (HSC.out.ob.blk_lt _ e).1; dsimp only at this; omega) (.slice At xt.length ct)).setFar (p := ⟨w.heap.size, 2, none⟩) (fun e => by have := (HSC.out.ob.blk_lt _ e).1; dsimp only at this; omega) (.int .i64 v))
    have HOT := Lib.hid (((HSC.out.ot.setFar (p := ⟨w.heap.size, 0, none⟩) (fun e => by have := (HSC.out.ot.blk_lt _ e).1; dsimp only at this; omega) (.slice Ab xb.length cb)).setFar (p := ⟨w.heap.size, 1, none⟩) (fun e => by have := (HSC.out.ot.blk_lt _ e).1; dsimp only at this; omega) (.slice At xt.length ct)).setFar (p := ⟨w.heap.size, 2, none⟩) (fun e => by have := (HSC.out.ot.blk_lt _ e).1; dsimp only at this; omega) (.int .i64 v))
    go_wp2_with fail
    exact bodyPost_ret (v := .agg #[.slice Ab xb.length cb, .slice At xt.length ct, .int .i64 v]) (by simp [results, Tryd.results37, go_sem, hr0, hr1, hr2, hg7]) rfl ⟨Ab, cb, xb, At, ct, xt, v, rfl, HL.out.1, HL.out.2, HOB.out.lower (by omega), HOT.out.lower (by omega), HSC.out.ap, (HS.out.more (by omega)).belowB HBF.out hg, HF.out.then_ HBF.out (Nat.le_refl _)⟩
  by_cases t3 : z = 3
  · subst t3
    have hgs := HF2.out.size
    have hbl := HSC2.out.lo
    have hbt := HSC2.out.lt
    have hl0 := (Own.lit0 (L := LI) (T := 2) (base := w.heap.size + 1) (g := w2.heap.size) w2 (by omega) rfl)
    have HC3 := Lib.hid ((HSC2.out.al (.cells #[] 2)).put0 hl0 (by intro q h1 h2; simp [blk] at h1; have := (HSC2.out.ot.blk_lt _ h2).2; omega) (by intro e; simp [blk] at e; omega))
    have hbz : Below (w.heap.size + 1) w2 ((w2.alloc (.cells #[] 2)).setCell ⟨b, 0, none⟩ (.slice (some ⟨w2.heap.size, 0, none⟩) ([] : List Int).length 0)) := ((Below.refl (w.heap.size + 1) w2).alloc (by omega) _).setCell (p := ⟨b, 0, none⟩) hbl _
    have HR3 := Lib.hid (HRB2.out.belowB hbz (by omega))
    have HF3 := Lib.hid (HF2.out.then_ hbz (by omega))
    have HS3 := HS2.out.belowB hbz (by omega)
    have hk0 := HSC2.out.c0
    have hk1 := HSC2.out.f0
    have hsw : ((w2.alloc (.cells #[] 2)).setCell ⟨b, 0, none⟩ (.slice (some ⟨w2.heap.size, 0, none⟩) 0 0)) = (w2.setCell ⟨b, 0, none⟩ (.slice (some ⟨w2.heap.size, 0, none⟩) 0 0)).alloc (.cells #[] 2) := by go_simp
    clear HSC2 HRB2 HS2 HF2 hl0 hbz
    simp only [List.length_nil] at HC3 HR3 HF3 HS3
    rw [hsw] at HC3 HR3 HF3
    obtain ⟨W3, hW3⟩ : ∃ W, W = (w2.setCell ⟨b, 0, none⟩ (.slice (some ⟨w2.heap.size, 0, none⟩) 0 0)).alloc (.cells #[] 2) := ⟨_, rfl⟩
    have hsz : W3.heap.size = w2.heap.size + 1 := by rw [hW3]; simp
    rw [← hW3] at HC3 HR3 HF3
    have HSW : Hid (Sr W3 g A c cs (m + 42)) := Lib.hid (by rw [hW3, ← hsw]; exact HS3)
    have ha := amongLit_any [0, 20, 21] 3 _ rfl rfl (by omega) (by omega) g A c cs _ W3 HSW.out (by omega)
    have hszl : w2.heap.size < W3.heap.size := by omega
    clear hsw HS3 HSW hsz
    go_upto_region 11 with fail
    rw [← hW3]
    clear hW3
    go_wp2_with fail
    refine ha.mono ?_
    rintro e w6 ⟨v, rfl, hv, hS, hF⟩
    obtain ⟨V, rfl, hV⟩ : ∃ V : Nat, v = (V : Int) ∧ V ≤ 21 := by
      simp at hv
      exact ⟨v.toNat, by omega, by omega⟩
    have HSC := Lib.hid (HC3.out.fs hF (by omega))
    have HRB := Lib.hid (HR3.out.fs hF (by omega))
    have HF := Lib.hid (HF3.out.trans hF)
    have HS := Lib.hid hS
    clear ha hS hF HC3 HR3 HF3 hv hk0 hk1
    go_wp2_with fail
    go_loopw [4] (fun i wr => ∃ (L : List Int) (A1 : Option Addr) (c1 : Nat), L.length ≤ V ∧ i = .int .i64 ((V : Int) - L.length) ∧ Hid (Sc wr b (w.heap.size + 1) A1 c1 L At ct xt N) ∧ Hid (RB wr w.heap.size) ∧ Hid (Sr wr g A c cs (m + 44)) ∧ Hid (Fs g w wr)) (fun i _ => (intOf i).toNat)
    case atStart => exact ⟨[], _, _, by simp, by go_num, HSC, HRB, HS, HF⟩
    case round =>
      clear HSC HRB HS HF
      obtain ⟨L, A1, c1, hj, rfl, HSC, HRB, HS, HF⟩ := hrel
      have hfs := HF.out.size
      have hlo := HSC.out.lo
      by_cases hlt : L.length < V
      · have hki : (0 : Int) < (V : Int) - L.length := by omega
        have hl6 : L.length ≤ 21 := by omega
        have hc0 := HSC.out.c0
        have hnn := HSC.out.ob.blk_lt
        have hlt2 := HSC.out.lt
        go_wp2_with (at_builtin; go_loud (refine wpL_app1 (L := LI) rowI rfl rfl _ _ rfl rfl HSC.out.ob 700 _ rfl rfl (by simp) (by unfold maxLen; omega) (by omega) (by omega) ?_); intro A6 c6 w8 ho6 hg6; have hcG7 := (hg6.cell ⟨b, 0, none⟩ hlt2 HSC.out.nb).trans HSC.out.c0; have hfG7 := (hg6.frozen ⟨b, 0, none⟩ hlt2 HSC.out.nb).trans HSC.out.f0)
        have hbz : Below (w.heap.size + 1) wr (w8.setCell ⟨b, 0, none⟩ (.slice A6 (L ++ [700]).length c6)) := (hg6.below' (by omega) (fun q e => (hnn q e).1)).setCell (p := ⟨b, 0, none⟩) hlo _
        have HC7 := Lib.hid (HSC.out.app0 ho6 hg6)
        have HR7 := Lib.hid (HRB.out.belowB hbz (by omega))
        have HS7 := Lib.hid (HS.out.belowB hbz (by omega))
        have HF7 := Lib.hid (HF.out.then_ hbz (by omega))
        clear hbz
        go_roundw
        case rel => exact ⟨L ++ [700], A6, c6, by simp; omega, by go_num, by simpa using HC7, by simpa using HR7, by simpa using HS7, by simpa using HF7⟩
        case measure => simp [intOf]; omega
      · have hki : (V : Int) - L.length ≤ 0 := by omega
        have HL : Hid (L.length ≤ 21 ∧ xt.length ≤ 13) := Lib.hid (by constructor <;> omega)
        have hbl := HSC.out.lo
        have hq0 := HSC.out.c0
        have hq1 := HSC.out.c1
        have hq2 := HSC.out.c2
        obtain ⟨r0, hr0⟩ := HRB.out.c0
        obtain ⟨r1, hr1⟩ := HRB.out.c1
        obtain ⟨r2, hr2⟩ := HRB.out.c2
        have hrf0 := HRB.out.f0
        have hrf1 := HRB.out.f1
        have hrf2 := HRB.out.f2
        have hg7 := HRB.out.lt
        have hg8 := HSC.out.lt
        have hn1 : b ≠ w.heap.size := by omega
        have hn2 : w.heap.size ≠ b := by omega
        have HBF : Hid (Below w.heap.size wr (((wr.setCell ⟨w.heap.size, 0, none⟩ (.slice A1 L.length c1)).setCell ⟨w.heap.size, 1, none⟩ (.slice At xt.length ct)).setCell ⟨w.heap.size, 2, none⟩ (.int .i64 N))) := Lib.hid ((((Below.refl _ wr).setCell (p := ⟨w.heap.size, 0, none⟩) (Nat.le_refl _) _).setCell (p := ⟨w.heap.size, 1, none⟩) (Nat.le_refl _) _).setCell (p := ⟨w.heap.size, 2, none⟩) (Nat.le_refl _) _)
        have HOB := Lib.hid (((HSC.out.ob.setFar (p := ⟨w.heap.size, 0, none⟩) (fun e => by have := (HSC.out.ob.blk_lt _ e).1; dsimp only at this; omega) (.slice A1 L.length c1)).setFar (p := ⟨w.heap.size, 1, none⟩) (fun e => by have := (HSC.out.ob.blk_lt _ e).1; dsimp only at this; omega) (.slice At xt.length ct)).setFar (p := ⟨w.heap.size, 2, none⟩) (fun e => by have := (HSC.out.ob.blk_lt _ e).1; dsimp only at this; omega) (.int .i64 N))
        have HOT := Lib.hid (((HSC.out.ot.setFar (p := ⟨w.heap.size, 0, none⟩) (fun e => by have := (HSC.out.ot.blk_lt _ e).1; dsimp only at this; omega) (.slice A1 L.length c1)).setFar (p := ⟨w.heap.size, 1, none⟩) (fun e => by have := (HSC.out.ot.blk_lt _ e).1; dsimp only at this; omega) (.slice At xt.length ct)).setFar (p := ⟨w.heap.size, 2, none⟩) (fun e => by have := (HSC.out.ot.blk_lt _ e).1; dsimp only at this; omega) (.int .i64 N))
        go_wp2_with fail
        exact bodyPost_ret (v := .agg #[.slice A1 L.length c1, .slice At xt.length ct, .int .i64 N]) (by simp [results, Tryd.results37, go_sem, hr0, hr1, hr2, hg7]) rfl ⟨A1, c1, L, At, ct, xt, N, rfl, HL.out.1, HL.out.2, HOB.out.lower (by omega), HOT.out.lower (by omega), HSC.out.ap, (HS.out.more (by omega)).belowB HBF.out hg, HF.out.then_ HBF.out (Nat.le_refl _)⟩
  by_cases t4 : z = 4
  · subst t4
    have hgs := HF2.out.size
    have hbl := HSC2.out.lo
    have hbt := HSC2.out.lt
    have hl0 := (Own.lit0 (L := LI) (T := 2) (base := w.heap.size + 1) (g := w2.heap.size) w2 (by omega) rfl)
    have HC3 := Lib.hid ((HSC2.out.al (.cells #[] 2)).put1 hl0 (by intro q h1 h2; simp [blk] at h2; have := (HSC2.out.ob.blk_lt _ h1).2; omega) (by intro e; simp [blk] at e; omega))
    have hbz : Below (w.heap.size + 1) w2 ((w2.alloc (.cells #[] 2)).setCell ⟨b, 1, none⟩ (.slice (some ⟨w2.heap.size, 0, none⟩) ([] : List Int).length 0)) := ((Below.refl (w.heap.size + 1) w2).alloc (by omega) _).setCell (p := ⟨b, 1, none⟩) hbl _
    have HR3 := Lib.hid (HRB2.out.belowB hbz (by omega))
    have HF3 := Lib.hid (HF2.out.then_ hbz (by omega))
    have HS3 := HS2.out.belowB hbz (by omega)
    have hk0 := HSC2.out.c1
    have hk1 := HSC2.out.f1
    have hsw : ((w2.alloc (.cells #[] 2)).setCell ⟨b, 1, none⟩ (.slice (some ⟨w2.heap.size, 0, none⟩) 0 0)) = (w2.setCell ⟨b, 1, none⟩ (.slice (some ⟨w2.heap.size, 0, none⟩) 0 0)).alloc (.cells #[] 2) := by go_simp
    clear HSC2 HRB2 HS2 HF2 hl0 hbz
    simp only [List.length_nil] at HC3 HR3 HF3 HS3
    rw [hsw] at HC3 HR3 HF3
    obtain ⟨W3, hW3⟩ : ∃ W, W = (w2.setCell ⟨b, 1, none⟩ (.slice (some ⟨w2.heap.size, 0, none⟩) 0 0)).alloc (.cells #[] 2) := ⟨_, rfl⟩
    have hsz : W3.heap.size = w2.heap.size + 1 := by rw [hW3]; simp
    rw [← hW3] at HC3 HR3 HF3
    have HSW : Hid (Sr W3 g A c cs (m + 42)) := Lib.hid (by rw [hW3, ← hsw]; exact HS3)
    have ha := amongLit_any [0, 12, 13] 3 _ rfl rfl (by omega) (by omega) g A c cs _ W3 HSW.out (by omega)
    have hszl : w2.heap.size < W3.heap.size := by omega
    clear hsw HS3 HSW hsz
    go_upto_region 17 with fail
    rw [← hW3]
    clear hW3
    go_wp2_with fail
    refine ha.mono ?_
    rintro e w6 ⟨v, rfl, hv, hS, hF⟩
    obtain ⟨V, rfl, hV⟩ : ∃ V : Nat, v = (V : Int) ∧ V ≤ 13 := by
      simp at hv
      exact ⟨v.toNat, by omega, by omega⟩
    have HSC := Lib.hid (HC3.out.fs hF (by omega))
    have HRB := Lib.hid (HR3.out.fs hF (by omega))
    have HF := Lib.hid (HF3.out.trans hF)
    have HS := Lib.hid hS
    clear ha hS hF HC3 HR3 HF3 hv hk0 hk1
    go_wp2_with fail
    go_loopw [5] (fun i wr => ∃ (L : List Int) (A1 : Option Addr) (c1 : Nat), L.length ≤ V ∧ i = .int .i64 ((V : Int) - L.length) ∧ Hid (Sc wr b (w.heap.size + 1) Ab cb xb A1 c1 L N) ∧ Hid (RB wr w.heap.size) ∧ Hid (Sr wr g A c cs (m + 44)) ∧ Hid (Fs g w wr)) (fun i _ => (intOf i).toNat)
    case atStart => exact ⟨[], _, _, by simp, by go_num, HSC, HRB, HS, HF⟩
    case round =>
      clear HSC HRB HS HF
      obtain ⟨L, A1, c1, hj, rfl, HSC, HRB, HS, HF⟩ := hrel
      have hfs := HF.out.size
      have hlo := HSC.out.lo
      by_cases hlt : L.length < V
      · have hki : (0 : Int) < (V : Int) - L.length := by omega
        have hl6 : L.length ≤ 21 := by omega
        have hc0 := HSC.out.c1
        have hnn := HSC.out.ot.blk_lt
        have hlt2 := HSC.out.lt
        go_wp2_with (at_builtin; go_loud (refine wpL_app1 (L := LI) rowI rfl rfl _ _ rfl rfl HSC.out.ot 2000 _ rfl rfl (by simp) (by unfold maxLen; omega) (by omega) (by omega) ?_); intro A6 c6 w8 ho6 hg6; have hcG7 := (hg6.cell ⟨b, 1, none⟩ hlt2 HSC.out.nt).trans HSC.out.c1; have hfG7 := (hg6.frozen ⟨b, 1, none⟩ hlt2 HSC.out.nt).trans HSC.out.f1)
        have hbz : Below (w.heap.size + 1) wr (w8.setCell ⟨b, 1, none⟩ (.slice A6 (L ++ [2000]).length c6)) := (hg6.below' (by omega) (fun q e => (hnn q e).1)).setCell (p := ⟨b, 1, none⟩) hlo _
        have HC7 := Lib.hid (HSC.out.app1 ho6 hg6)
        have HR7 := Lib.hid (HRB.out.belowB hbz (by omega))
        have HS7 := Lib.hid (HS.out.belowB hbz (by omega))
        have HF7 := Lib.hid (HF.out.then_ hbz (by omega))
        clear hbz
        go_roundw
        case rel => exact ⟨L ++ [2000], A6, c6, by simp; omega, by go_num, by simpa using HC7, by simpa using HR7, by simpa using HS7, by simpa using HF7⟩
        case measure => simp [intOf]; omega
      · have hki : (V : Int) - L.length ≤ 0 := by omega
        have HL : Hid (xb.length ≤ 21 ∧ L.length ≤ 13) := Lib.hid (by constructor <;> omega)
        have hbl := HSC.out.lo
        have hq0 := HSC.out.c0
        have hq1 := HSC.out.c1
        have hq2 := HSC.out.c2
        obtain ⟨r0, hr0⟩ := HRB.out.c0
        obtain ⟨r1, hr1⟩ := HRB.out.c1
        obtain ⟨r2, hr2⟩ := HRB.out.c2
        have hrf0 := HRB.out.f0
        have hrf1 := HRB.out.f1
        have hrf2 := HRB.out.f2
        have hg7 := HRB.out.lt
        have hg8 := HSC.out.lt
        have hn1 : b ≠ w.heap.size := by omega
        have hn2 : w.heap.size ≠ b := by omega
        have HBF : Hid (Below w.heap.size wr (((wr.setCell ⟨w.heap.size, 0, none⟩ (.slice Ab xb.length cb)).setCell ⟨w.heap.size, 1, none⟩ (.slice A1 L.length c1)).setCell ⟨w.heap.size, 2, none⟩ (.int .i64 N))) := Lib.hid ((((Below.refl _ wr).setCell (p := ⟨w.heap.size, 0, none⟩) (Nat.le_refl _) _).setCell (p := ⟨w.heap.size, 1, none⟩) (Nat.le_refl _) _).setCell (p := ⟨w.heap.size, 2, none⟩) (Nat.le_refl _) _)
        have HOB := Lib.hid (((HSC.out.ob.setFar (p := ⟨w.heap.size, 0, none⟩) (fun e => by have := (HSC.out.ob.blk_lt _ e).1; dsimp only at this; omega) (.slice Ab xb.length cb)).setFar (p := ⟨w.heap.size, 1, none⟩) (fun e => by have := (HSC.out.ob.blk_lt _ e).1; dsimp only at this; omega) (.slice A1 L.length c1)).setFar (p := ⟨w.heap.size, 2, none⟩) (fun e => by have := (HSC.out.ob.blk_lt _ e).1; dsimp only at this; omega) (.int .i64 N))
        have HOT := Lib.hid (((HSC.out.ot.setFar (p := ⟨w.heap.size, 0, none⟩) (fun e => by have := (HSC.out.ot.blk_lt _ e).1; dsimp only at this; omega) (.slice Ab xb.length cb)).setFar (p := ⟨w.heap.size, 1, none⟩) (fun e => by have := (HSC.out.ot.blk_lt _ e).1; dsimp only at this; omega) (.slice A1 L.length c1)).setFar (p := ⟨w.heap.size, 2, none⟩) (fun e => by have := (HSC.out.ot.blk_lt _ e).1; dsimp only at this; omega) (.int .i64 N))
        go_wp2_with fail
        exact bodyPost_ret (v := .agg #[.slice Ab xb.length cb, .slice A1 L.length c1, .int .i64 N]) (by simp [results, Tryd.results37, go_sem, hr0, hr1, hr2, hg7]) rfl ⟨Ab, cb, xb, A1, c1, L, N, rfl, HL.out.1, HL.out.2, HOB.out.lower (by omega), HOT.out.lower (by omega), HSC.out.ap, (HS.out.more (by omega)).belowB HBF.out hg, HF.out.then_ HBF.out (Nat.le_refl _)⟩
  have f0 : (z == 0) = false := by rw [beq_eq_false_iff_ne]; exact t0
  have f1 : (z == 1) = false := by rw [beq_eq_false_iff_ne]; exact t1
  have f2 : (z == 2) = false := by rw [beq_eq_false_iff_ne]; exact t2
  have f3 : (z == 3) = false := by rw [beq_eq_false_iff_ne]; exact t3
  have f4 : (z == 4) = false := by rw [beq_eq_false_iff_ne]; exact t4
  have HSC := HSC2
  have HRB := HRB2
  have HS := HS2
  have HF := HF2
  have HL : Hid (xb.length ≤ 21 ∧ xt.length ≤ 13) := Lib.hid (by constructor <;> omega)
  clear HSC2 HRB2 HS2 HF2
  have hbl := HSC.out.lo
  have hq0 := HSC.out.c0
  have hq1 := HSC.out.c1
  have hq2 := HSC.out.c2
  obtain ⟨r0, hr0⟩ := HRB.out.c0
  obtain ⟨r1, hr1⟩ := HRB.out.c1
  obtain ⟨r2, hr2⟩ := HRB.out.c2
  have hrf0 := HRB.out.f0
  have hrf1 := HRB.out.f1
  have hrf2 := HRB.out.f2
  have hg7 := HRB.out.lt
  have hg8 := HSC.out.lt
  have hn1 : b ≠ w.heap.size := by omega
  have hn2 : w.heap.size ≠ b := by omega
  have HBF : Hid (Below w.heap.size w2 (((w2.setCell ⟨w.heap.size, 0, none⟩ (.slice Ab xb.length cb)).setCell ⟨w.heap.size, 1, none⟩ (.slice At xt.length ct)).setCell ⟨w.heap.size, 2, none⟩ (.int .i64 N))) := Lib.hid ((((Below.refl _ w2).setCell (p := ⟨w.heap.size, 0, none⟩) (Nat.le_refl _) _).setCell (p := ⟨w.heap.size, 1, none⟩) (Nat.le_refl _) _).setCell (p := ⟨w.heap.size, 2, none⟩) (Nat.le_refl _) _)
  have HOB := Lib.hid (((HSC.out.ob.setFar (p := ⟨w.heap.size, 0, none⟩) (fun e => by have := (HSC.out.ob.blk_lt _ e).1; dsimp only at this; omega) (.slice Ab xb.length cb)).setFar (p := ⟨w.heap.size, 1, none⟩) (fun e => by have := (HSC.out.ob.blk_lt _ e).1; dsimp only at this; omega) (.slice At xt.length ct)).setFar (p := ⟨w.heap.size, 2, none⟩) (fun e => by have := (HSC.out.ob.blk_lt _ e).1; dsimp only at this; omega) (.int .i64 N))
  have HOT := Lib.hid (((HSC.out.ot.setFar (p := ⟨w.heap.size, 0, none⟩) (fun e => by have := (HSC.out.ot.blk_lt _ e).1; dsimp only at this; omega) (.slice Ab xb.length cb)).setFar (p := ⟨w.heap.size, 1, none⟩) (fun e => by have := (HSC.out.ot.blk_lt _ e).1; dsimp only at this; omega) (.slice At xt.length ct)).setFar (p := ⟨w.heap.size, 2, none⟩) (fun e => by have := (HSC.out.ot.blk_lt _ e).1; dsimp only at this; omega) (.int .i64 N))
  go_wp2_with fail
  exact bodyPost_ret (v := .agg #[.slice Ab xb.length cb, .slice At xt.length ct, .int .i64 N]) (by simp [results, Tryd.results37, go_sem, hr0, hr1, hr2, hg7]) rfl ⟨Ab, cb, xb, At, ct, xt, N, rfl, HL.out.1, HL.out.2, HOB.out.lower (by omega), HOT.out.lower (by omega), HSC.out.ap, (HS.out.more (by omega)).belowB HBF.out hg, HF.out.then_ HBF.out (Nat.le_refl _)⟩
end Go.Proofs.YtamhkiakplmlmaaDoor
