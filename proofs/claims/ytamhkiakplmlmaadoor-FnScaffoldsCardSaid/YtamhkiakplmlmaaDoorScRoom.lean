/-
  Draws of scaffolds: DrawRoomFor.
-/
import Derived.Test.YtamhkiakplmlmaaDoorScSome
namespace Go.Proofs.YtamhkiakplmlmaaDoor
open Go.ChangeShapes Go.WideShapes Go.RowKit

def DrewRF (w : World) (e : Ending) (w' : World) : Prop :=
  ∃ (Ab : Option Addr) (cb : Nat) (xb : List Int) (At : Option Addr) (ct : Nat) (xt : List Int) (N : Int) (B : Option Addr) (d : Nat) (st : List StandD) (v : Int), e = .returned (.tuple #[.agg #[.slice Ab xb.length cb, .slice At xt.length ct, .int .i64 N], .slice B st.length d, .int .i64 v]) ∧ xb.length ≤ 21 ∧ xt.length ≤ 13 ∧ st.length ≤ 101 ∧ Rd LI w' w'.heap.size Ab cb xb ∧ Rd LI w' w'.heap.size At ct xt ∧ Rd LStand w' w'.heap.size B d st ∧ Below w.heap.size w w'
set_option maxRecDepth 100000 in
set_option maxHeartbeats 6400000 in
theorem drawRoom_any (A : Option Addr) (c : Nat) (cs : List Int) (w : World) (hr : Rd LU w w.heap.size A c cs) (hb : ∀ x ∈ cs, 0 ≤ x ∧ x ≤ 255) :
    Calls Tryd.prog 5 #[.slice A cs.length c] w (DrewRF w) := by
  obtain ⟨g, hg⟩ : ∃ g, g = w.heap.size + 1 := ⟨_, rfl⟩
  have hb0 : Below w.heap.size w (w.alloc (.cells #[.slice none 0 0, .slice none 0 0, .int .i64 0] 26)) := (Below.refl _ w).alloc (Nat.le_refl _) _
  have hR : RB (w.alloc (.cells #[.slice none 0 0, .slice none 0 0, .int .i64 0] 26)) w.heap.size := ⟨⟨.slice none 0 0, by go_simp⟩, ⟨.slice none 0 0, by go_simp⟩, ⟨.int .i64 0, by go_simp⟩, by go_simp, by go_simp, by go_simp, by simp⟩
  have hc := from_at g A c cs (w.alloc (.cells #[.slice none 0 0, .slice none 0 0, .int .i64 0] 26)) (by rw [hg]; simp) (hr.alloc (Nat.le_refl _) _) (by simp) hb
  have hgw : w.heap.size < g := by omega
  clear hg hr
  go_enter Tryd.func5, Tryd.ntmps5
  go_wp2_with fail
  refine hc.mono ?_
  rintro e w1 ⟨rfl, hS, hb1⟩
  have hg1 := hS.g1
  have hs1 := hb1.size
  have hR1 := hR.belowB hb1 (by omega)
  have HBw := Lib.hid (hb0.trans (hb1.mono (by omega)))
  have hc2 := l22Some_any g A c cs 0 w1 hS (by omega)
  clear hc hS hb1 hR hb0
  go_wp2_with fail
  refine hc2.mono ?_
  rintro e w2 ⟨Ab, cb, xb, At, ct, xt, N, B, d, st, rfl, hx1, hx2, hst, ho1, ho2, hap, ho3, hS, hF⟩
  have hs2 := hF.size
  have hR2 := hR1.fs hF (by omega)
  have hb2 : Below w2.heap.size w2 (w2.alloc (.cells #[.slice Ab xb.length cb, .slice At xt.length ct, .int .i64 N] 26)) := (Below.refl _ w2).alloc (Nat.le_refl _) _
  have ho1' := ho1.lower (show g + 1 ≤ _ by omega)
  have ho2' := ho2.lower (show g + 1 ≤ _ by omega)
  have HT := Lib.hid ((ho3.lower (show g + 1 ≤ _ by omega)).below hb2)
  have HSC := Lib.hid (show Sc (w2.alloc (.cells #[.slice Ab xb.length cb, .slice At xt.length ct, .int .i64 N] 26)) w2.heap.size (g + 1) Ab cb xb At ct xt N from
    ⟨by go_simp, by go_simp, by go_simp, by go_simp, by go_simp, by go_simp, ho1'.below hb2, ho2'.below hb2, hap, fun e => by have := (ho1'.blk_lt _ e).2; omega, fun e => by have := (ho2'.blk_lt _ e).2; omega, by omega, by simp⟩)
  have HRB := Lib.hid (hR2.belowB hb2 (by omega))
  have HS := Lib.hid (hS.below hb2)
  have HF := Lib.hid (hF.then_ hb2 (by omega))
  have hc4 := one_any 10 g A c cs _ _ HS.out (by omega) (by omega)
  have hq1 := HSC.out.c1
  have hq2 := HSC.out.lt
  clear hc2 hS hF hR1 hR2 ho1 ho2 ho3 ho1' ho2' hap hb2 HS
  obtain ⟨b, hb⟩ : ∃ b, b = w2.heap.size := ⟨_, rfl⟩
  go_wp2_with fail
  clear hq1 hq2
  refine hc4.mono ?_
  rintro e w4 ⟨q, rfl, hS, hF0⟩
  have HSC2 := Lib.hid (HSC.out.fs hF0 (by omega))
  have HT2 := Lib.hid (hF0.own HT.out (fun e => by have := (HT.out.blk_lt g e).1; omega))
  have HRB2 := Lib.hid (HRB.out.fs hF0 (by omega))
  have HF2 := Lib.hid (HF.out.trans hF0)
  have HS := Lib.hid hS
  clear hc4 hS hF0 HSC HRB HF HT
  have HSC := HSC2
  have HRB := HRB2
  have HF := HF2
  have HT := HT2
  clear HSC2 HRB2 HF2 HT2
  rw [← hb] at HSC
  go_upto_if 20 with fail
  rw [← hb]
  clear hb hs2
  cases q
  · skip
    have HSd := Lib.hid HS.out.dr
    have HCd := Lib.hid HSC.out.dr
    have HRd := Lib.hid (HRB.out.belowB ((Below.refl _ _).drew) HRB.out.lt)
    have HFd := Lib.hid HF.out.drew
    have hc0 := HSC.out.c0
    have hc1 := HSC.out.c1
    have hc2 := HSC.out.c2
    have ha0 := fun o => (HSC.out.al o).c0
    have ha1 := fun o => (HSC.out.al o).c1
    have ha2 := fun o => (HSC.out.al o).c2
    have hlt0 := HSC.out.lt
    clear HS HF
    go_upto_region 6 with fail
    go_region_law (first
      | (go_simp; go_at_call 30; refine (pick_any (xt.length : Int) g A c cs _ _ HSd.out (by omega) (by omega)).mono ?_; rintro e w6 ⟨v, rfl, b0, b1, hS, hF⟩; have hs6 := hF.size; (try simp at hs6); have HC6 := Lib.hid (HCd.out.fs hF (by omega)); have HR6 := Lib.hid (HRd.out.fs hF (by omega)); have HF6 := Lib.hid (HFd.out.trans hF); have HT6 := Lib.hid (hF.own (show Own LStand 33 w4.drew (g + 1) B d st from HT.out) (fun e => by have := (HT.out.blk_lt g e).1; omega)); have hk0 := HC6.out.c0; have hk1 := HC6.out.c1; have hk2 := HC6.out.c2; obtain ⟨r0, hr0⟩ := HR6.out.c0; obtain ⟨r1, hr1⟩ := HR6.out.c1; obtain ⟨r2, hr2⟩ := HR6.out.c2; have hrf0 := HR6.out.f0; have hrf1 := HR6.out.f1; have hrf2 := HR6.out.f2; clear hS hF b0 b1))
    all_goals
      have HO1 := Lib.hid HC6.out.ob
      have HO2 := Lib.hid HC6.out.ot
      have HO3 := Lib.hid HT6.out
      have HRB := Lib.hid HR6.out
      have HB := Lib.hid (HBw.out.trans (HF6.out.below HBw.out.size (by omega)))
      clear HSC HCd HRd HFd HSd hc0 hc1 hc2 ha0 ha1 ha2 hk0 hk1 hk2 hr0 hr1 hr2 hrf0 hrf1 hrf2 HT
      obtain ⟨r0, hr0⟩ := HRB.out.c0
      obtain ⟨r1, hr1⟩ := HRB.out.c1
      obtain ⟨r2, hr2⟩ := HRB.out.c2
      have hrf0 := HRB.out.f0
      have hrf1 := HRB.out.f1
      have hrf2 := HRB.out.f2
      have hg7 := HRB.out.lt
      have HBF : Hid (Below w.heap.size w6 (((w6.setCell ⟨w.heap.size, 0, none⟩ (.slice Ab xb.length cb)).setCell ⟨w.heap.size, 1, none⟩ (.slice At xt.length ct)).setCell ⟨w.heap.size, 2, none⟩ (.int .i64 N))) := Lib.hid ((((Below.refl _ w6).setCell (p := ⟨w.heap.size, 0, none⟩) (Nat.le_refl _) _).setCell (p := ⟨w.heap.size, 1, none⟩) (Nat.le_refl _) _).setCell (p := ⟨w.heap.size, 2, none⟩) (Nat.le_refl _) _)
      have HOB := Lib.hid (((HO1.out.setFar (p := ⟨w.heap.size, 0, none⟩) (fun e => by have := (HO1.out.blk_lt _ e).1; dsimp only at this; omega) (.slice Ab xb.length cb)).setFar (p := ⟨w.heap.size, 1, none⟩) (fun e => by have := (HO1.out.blk_lt _ e).1; dsimp only at this; omega) (.slice At xt.length ct)).setFar (p := ⟨w.heap.size, 2, none⟩) (fun e => by have := (HO1.out.blk_lt _ e).1; dsimp only at this; omega) (.int .i64 N)).rd
      have HOT := Lib.hid (((HO2.out.setFar (p := ⟨w.heap.size, 0, none⟩) (fun e => by have := (HO2.out.blk_lt _ e).1; dsimp only at this; omega) (.slice Ab xb.length cb)).setFar (p := ⟨w.heap.size, 1, none⟩) (fun e => by have := (HO2.out.blk_lt _ e).1; dsimp only at this; omega) (.slice At xt.length ct)).setFar (p := ⟨w.heap.size, 2, none⟩) (fun e => by have := (HO2.out.blk_lt _ e).1; dsimp only at this; omega) (.int .i64 N)).rd
      have HOS := Lib.hid (((HO3.out.setFar (p := ⟨w.heap.size, 0, none⟩) (fun e => by have := (HO3.out.blk_lt _ e).1; dsimp only at this; omega) (.slice Ab xb.length cb)).setFar (p := ⟨w.heap.size, 1, none⟩) (fun e => by have := (HO3.out.blk_lt _ e).1; dsimp only at this; omega) (.slice At xt.length ct)).setFar (p := ⟨w.heap.size, 2, none⟩) (fun e => by have := (HO3.out.blk_lt _ e).1; dsimp only at this; omega) (.int .i64 N)).rd
      have HBZ := Lib.hid (HB.out.trans HBF.out)
      go_wp2_with fail
      exact bodyPost_ret (v := .tuple #[.agg #[.slice Ab xb.length cb, .slice At xt.length ct, .int .i64 N], .slice B st.length d, .int .i64 v]) (by simp [results, Tryd.results5, go_sem, hr0, hr1, hr2, hg7]) rfl ⟨Ab, cb, xb, At, ct, xt, N, B, d, st, v, rfl, hx1, hx2, hst, HOB.out, HOT.out, HOS.out, HBZ.out⟩
  · skip
    have HSd := Lib.hid HS.out.dr
    have HCd := Lib.hid HSC.out.dr
    have HRd := Lib.hid (HRB.out.belowB ((Below.refl _ _).drew) HRB.out.lt)
    have HFd := Lib.hid HF.out.drew
    have hc0 := HSC.out.c0
    have hc1 := HSC.out.c1
    have hc2 := HSC.out.c2
    have ha0 := fun o => (HSC.out.al o).c0
    have ha1 := fun o => (HSC.out.al o).c1
    have ha2 := fun o => (HSC.out.al o).c2
    have hlt0 := HSC.out.lt
    clear HS HF
    go_upto_region 5 with fail
    go_region_law (first
      | (go_simp; go_at_call 29; refine (amongLit_any [-1, (xt.length : Int), 9223372036854775807] 3 #[.int .i64 (-1), .int .i64 (xt.length : Int), .int .i64 9223372036854775807] rfl rfl (by omega) (by omega) g A c cs _ _ HSd.out (by omega)).mono ?_; rintro e w6 ⟨v, rfl, hv, hS, hF⟩; have hs6 := hF.size; (try simp at hs6); have HC6 := Lib.hid (HCd.out.fs hF (by omega)); have HR6 := Lib.hid (HRd.out.fs hF (by omega)); have HF6 := Lib.hid (HFd.out.trans hF); have HT6 := Lib.hid (hF.own (show Own LStand 33 w4.drew (g + 1) B d st from HT.out) (fun e => by have := (HT.out.blk_lt g e).1; omega)); have hk0 := HC6.out.c0; have hk1 := HC6.out.c1; have hk2 := HC6.out.c2; obtain ⟨r0, hr0⟩ := HR6.out.c0; obtain ⟨r1, hr1⟩ := HR6.out.c1; obtain ⟨r2, hr2⟩ := HR6.out.c2; have hrf0 := HR6.out.f0; have hrf1 := HR6.out.f1; have hrf2 := HR6.out.f2; clear hS hF))
    all_goals
      have HO1 := Lib.hid HC6.out.ob
      have HO2 := Lib.hid HC6.out.ot
      have HO3 := Lib.hid HT6.out
      have HRB := Lib.hid HR6.out
      have HB := Lib.hid (HBw.out.trans (HF6.out.below HBw.out.size (by omega)))
      clear HSC HCd HRd HFd HSd hc0 hc1 hc2 ha0 ha1 ha2 hk0 hk1 hk2 hr0 hr1 hr2 hrf0 hrf1 hrf2 HT
      obtain ⟨r0, hr0⟩ := HRB.out.c0
      obtain ⟨r1, hr1⟩ := HRB.out.c1
      obtain ⟨r2, hr2⟩ := HRB.out.c2
      have hrf0 := HRB.out.f0
      have hrf1 := HRB.out.f1
      have hrf2 := HRB.out.f2
      have hg7 := HRB.out.lt
      have HBF : Hid (Below w.heap.size w6 (((w6.setCell ⟨w.heap.size, 0, none⟩ (.slice Ab xb.length cb)).setCell ⟨w.heap.size, 1, none⟩ (.slice At xt.length ct)).setCell ⟨w.heap.size, 2, none⟩ (.int .i64 N))) := Lib.hid ((((Below.refl _ w6).setCell (p := ⟨w.heap.size, 0, none⟩) (Nat.le_refl _) _).setCell (p := ⟨w.heap.size, 1, none⟩) (Nat.le_refl _) _).setCell (p := ⟨w.heap.size, 2, none⟩) (Nat.le_refl _) _)
      have HOB := Lib.hid (((HO1.out.setFar (p := ⟨w.heap.size, 0, none⟩) (fun e => by have := (HO1.out.blk_lt _ e).1; dsimp only at this; omega) (.slice Ab xb.length cb)).setFar (p := ⟨w.heap.size, 1, none⟩) (fun e => by have := (HO1.out.blk_lt _ e).1; dsimp only at this; omega) (.slice At xt.length ct)).setFar (p := ⟨w.heap.size, 2, none⟩) (fun e => by have := (HO1.out.blk_lt _ e).1; dsimp only at this; omega) (.int .i64 N)).rd
      have HOT := Lib.hid (((HO2.out.setFar (p := ⟨w.heap.size, 0, none⟩) (fun e => by have := (HO2.out.blk_lt _ e).1; dsimp only at this; omega) (.slice Ab xb.length cb)).setFar (p := ⟨w.heap.size, 1, none⟩) (fun e => by have := (HO2.out.blk_lt _ e).1; dsimp only at this; omega) (.slice At xt.length ct)).setFar (p := ⟨w.heap.size, 2, none⟩) (fun e => by have := (HO2.out.blk_lt _ e).1; dsimp only at this; omega) (.int .i64 N)).rd
      have HOS := Lib.hid (((HO3.out.setFar (p := ⟨w.heap.size, 0, none⟩) (fun e => by have := (HO3.out.blk_lt _ e).1; dsimp only at this; omega) (.slice Ab xb.length cb)).setFar (p := ⟨w.heap.size, 1, none⟩) (fun e => by have := (HO3.out.blk_lt _ e).1; dsimp only at this; omega) (.slice At xt.length ct)).setFar (p := ⟨w.heap.size, 2, none⟩) (fun e => by have := (HO3.out.blk_lt _ e).1; dsimp only at this; omega) (.int .i64 N)).rd
      have HBZ := Lib.hid (HB.out.trans HBF.out)
      go_wp2_with fail
      exact bodyPost_ret (v := .tuple #[.agg #[.slice Ab xb.length cb, .slice At xt.length ct, .int .i64 N], .slice B st.length d, .int .i64 v]) (by simp [results, Tryd.results5, go_sem, hr0, hr1, hr2, hg7]) rfl ⟨Ab, cb, xb, At, ct, xt, N, B, d, st, v, rfl, hx1, hx2, hst, HOB.out, HOT.out, HOS.out, HBZ.out⟩
end Go.Proofs.YtamhkiakplmlmaaDoor
