/-
  Draws of scaffolds: l22Some.
-/
import Derived.Test.YtamhkiakplmlmaaDoorScBent
import Derived.Test.YtamhkiakplmlmaaDoorFlatStand
namespace Go.Proofs.YtamhkiakplmlmaaDoor
open Go.ChangeShapes Go.WideShapes Go.RowKit

theorem rowStd : TyRow Tryd.prog 27 33 (.agg #[.int .i64 0, .int .i64 0, .int .i64 0]) LStand.sz 24 := ⟨Tryd.underlying27, by kernel_rfl⟩
def DrewSS (g : Nat) (A : Option Addr) (c : Nat) (cs : List Int) (m : Nat) (w : World) (e : Ending) (w' : World) : Prop :=
  ∃ (Ab : Option Addr) (cb : Nat) (xb : List Int) (At : Option Addr) (ct : Nat) (xt : List Int) (n : Int) (B : Option Addr) (d : Nat) (st : List StandD), e = .returned (.tuple #[.agg #[.slice Ab xb.length cb, .slice At xt.length ct, .int .i64 n], .slice B st.length d]) ∧ xb.length ≤ 21 ∧ xt.length ≤ 13 ∧ st.length ≤ 101 ∧ Own LI 2 w' w.heap.size Ab cb xb ∧ Own LI 2 w' w.heap.size At ct xt ∧ Ap Ab At ∧ Own LStand 33 w' w.heap.size B d st ∧ Sr w' g A c cs m ∧ Fs g w w'
set_option maxRecDepth 100000 in
set_option maxHeartbeats 6400000 in
theorem l22Some_any (g : Nat) (A : Option Addr) (c : Nat) (cs : List Int) (m : Nat) (w : World) (h : Sr w g A c cs m) (hm : m ≤ 10000) :
    Calls Tryd.prog 27 #[.pointer (some ⟨g, 0, none⟩)] w (DrewSS g A c cs (m + 200) w) := by
  have hg := h.g1
  have hb0 : Below w.heap.size w (w.alloc (.cells #[.slice none 0 0, .slice none 0 0, .int .i64 0] 26)) := (Below.refl _ w).alloc (Nat.le_refl _) _
  have hR : RB (w.alloc (.cells #[.slice none 0 0, .slice none 0 0, .int .i64 0] 26)) w.heap.size := ⟨⟨.slice none 0 0, by go_simp⟩, ⟨.slice none 0 0, by go_simp⟩, ⟨.int .i64 0, by go_simp⟩, by go_simp, by go_simp, by go_simp, by simp⟩
  have hc := l22Bent_any g A c cs m _ (h.belowB hb0 hg) (by omega)
  clear h
  go_enter Tryd.func27, Tryd.ntmps27
  go_wp2_with fail
  refine hc.mono ?_
  rintro e w1 ⟨Ab, cb, xb, At, ct, xt, N, rfl, hxb, hxt, ho1, ho2, hap, hS, hF⟩
  have hs1 := hF.size
  simp at hs1
  have hR1 := hR.fs hF (by omega)
  have hF1 := (Fs.of_below (g := g) hb0).trans hF
  have hb1 : Below w1.heap.size w1 (w1.alloc (.cells #[.slice Ab xb.length cb, .slice At xt.length ct, .int .i64 N] 26)) := (Below.refl _ w1).alloc (Nat.le_refl _) _
  have ho1' := ho1.lower (show w.heap.size + 1 ≤ _ by simp)
  have ho2' := ho2.lower (show w.heap.size + 1 ≤ _ by simp)
  have HSC := Lib.hid (show Sc (w1.alloc (.cells #[.slice Ab xb.length cb, .slice At xt.length ct, .int .i64 N] 26)) w1.heap.size (w.heap.size + 1) Ab cb xb At ct xt N from
    ⟨by go_simp, by go_simp, by go_simp, by go_simp, by go_simp, by go_simp, ho1'.below hb1, ho2'.below hb1, hap, fun e => by have := (ho1'.blk_lt _ e).2; omega, fun e => by have := (ho2'.blk_lt _ e).2; omega, by omega, by simp⟩)
  have HRB := Lib.hid (hR1.belowB hb1 (by omega))
  have HS := Lib.hid (hS.below hb1)
  have HF0 := Lib.hid (hF1.then_ hb1 (by omega))
  obtain ⟨wB, hwB⟩ : ∃ W, W = w1.alloc (.cells #[.slice Ab xb.length cb, .slice At xt.length ct, .int .i64 N] 26) := ⟨_, rfl⟩
  have hbB : w1.heap.size < wB.heap.size := by rw [hwB]; simp
  have HBS : Hid (wB.heap.size = w1.heap.size + 1) := Lib.hid (by rw [hwB]; simp)
  rw [← hwB] at HSC HRB HS HF0
  clear hc hS hF hR hR1 ho1 ho2 ho1' ho2' hap hF1 hb1 hb0
  have hb2 : Below wB.heap.size wB (wB.alloc (.cells #[] 33)) := (Below.refl _ wB).alloc (Nat.le_refl _) _
  have hc2 := pick_any 9 g A c cs _ _ (HS.out.below hb2) (by omega) (by omega)
  have hW0 : Own LStand 33 (wB.alloc (.cells #[] 33)) wB.heap.size (some ⟨wB.heap.size, 0, none⟩) 0 ([] : List StandD) := Own.lit0 _ (Nat.le_refl _) rfl
  have hF2 := (Fs.refl g wB).then_ hb2 (Nat.le_refl _)
  obtain ⟨b, hb⟩ : ∃ b, b = w1.heap.size := ⟨_, rfl⟩
  rw [← hb] at HSC hbB hs1 HBS
  have hgB : g < wB.heap.size := by have := HS.out.g1; omega
  have HCL := Lib.hid (fun (W : World) (hW : Fs g wB W) => And.intro (HSC.out.fs hW (by omega)) (HRB.out.fs hW (by omega)))
  clear HSC HRB HS hb2
  go_wp2_with fail
  rw [← hwB, ← hb]
  clear hwB hb
  refine hc2.mono ?_
  rintro e w2 ⟨x, rfl, x0, x1, hS, hF⟩
  obtain ⟨K, rfl⟩ : ∃ K : Nat, x = (K : Int) := ⟨x.toNat, by omega⟩
  have hK1 : K ≤ 8 := by omega
  have HW2 := Lib.hid (hF.own hW0 (by intro e; injection e with e; dsimp only at e; omega))
  have HF2 := Lib.hid (hF2.trans hF)
  have HS2 := Lib.hid hS
  clear hc2 hS hF hF2 hW0 x0 x1
  go_wp2_with fail
  go_loopw [5, 6] (fun o i wr => ∃ (L : List StandD) (A1 : Option Addr) (c1 : Nat), L.length ≤ K ∧ i = .int .i64 ((K : Int) - L.length) ∧ o = .slice A1 L.length c1 ∧ Hid (Own LStand 33 wr wB.heap.size A1 c1 L) ∧ Hid (Sr wr g A c cs (m + 62 + 6 * L.length)) ∧ Hid (Fs g wB wr)) (fun _ i _ => (intOf i).toNat)
  case atStart => exact ⟨[], some ⟨b + 1, 0, none⟩, 0, by simp, by go_num, rfl, Lib.hid (by have h := HW2.out; rw [HBS.out] at h ⊢; exact h), Lib.hid (HS2.out.more (by simp)), HF2⟩
  case round =>
    obtain ⟨L, A1, c1, hj, rfl, rfl, HW, HS, HF⟩ := hrel
    clear HW2 HS2 HF2
    have hfs := HF.out.size
    by_cases hlt : L.length < K
    · have hki : (0 : Int) < (K : Int) - L.length := by omega
      obtain ⟨sc, _⟩ := HCL.out wr HF.out
      have hk0 := sc.c0
      have hk1 := sc.c1
      have hbr := sc.lt
      clear sc
      have hp1 := pick_any (xb.length : Int) g A c cs _ wr HS.out (by omega) (by omega)
      go_wp2_with fail
      refine hp1.mono ?_
      rintro e w3 ⟨x, rfl, x0, x1, hS, hF⟩
      clear hk0 hk1 hbr hp1 x0 x1
      have hs3 := hF.size
      have HF3 := Lib.hid (HF.out.trans hF)
      have HW3 := Lib.hid (hF.own HW.out (fun e => by have := (HW.out.blk_lt g e).1; omega))
      have hbT : Below wB.heap.size w3 (w3.alloc (.cells #[.int .i64 x, .int .i64 0, .int .i64 0] 33)) := (Below.refl _ _).alloc (by omega) _
      have HF4 := Lib.hid (HF3.out.then_ hbT (Nat.le_refl _))
      have HW4 := Lib.hid (HW3.out.alloc (.cells #[.int .i64 x, .int .i64 0, .int .i64 0] 33))
      have hWb := HW3.out.blk_lt
      have hp2 := pick_any (xt.length : Int) g A c cs _ _ (hS.belowB hbT (by omega)) (by omega) (by omega)
      obtain ⟨sc, _⟩ := HCL.out _ HF4.out
      have hk0 := sc.c0
      have hk1 := sc.c1
      have hbr := sc.lt
      clear sc hS hF HF HW HS HF3 HW3 hbT
      go_wp2_with fail
      refine hp2.mono ?_
      rintro e w4 ⟨y, rfl, y0, y1, hS, hF⟩
      clear hk0 hk1 hbr hp2 y0 y1
      have hs4 := hF.size
      simp at hs4
      have k0 : w4.cell? ⟨w3.heap.size, 0, none⟩ = some (.int .i64 x) := by rw [hF.cell _ (by simp) (by simp; omega)]; go_simp
      have k1 : w4.cell? ⟨w3.heap.size, 1, none⟩ = some (.int .i64 0) := by rw [hF.cell _ (by simp) (by simp; omega)]; go_simp
      have k2 : w4.cell? ⟨w3.heap.size, 2, none⟩ = some (.int .i64 0) := by rw [hF.cell _ (by simp) (by simp; omega)]; go_simp
      have kf : ∀ j, w4.frozen? ⟨w3.heap.size, j, none⟩ = false := fun j => by rw [hF.frozen _ (by simp) (by simp; omega)]; go_simp
      have HW5a := hF.own HW4.out (fun e => by have := (hWb g e).1; omega)
      have hb5 : Below wB.heap.size w4 (w4.setCell ⟨w3.heap.size, 1, none⟩ (.int .i64 y)) := (Below.refl _ _).setCell (p := ⟨w3.heap.size, 1, none⟩) (by show _ ≤ w3.heap.size; omega) _
      have HW5 := Lib.hid (HW5a.setFar (p := ⟨w3.heap.size, 1, none⟩) (fun e => by have := (hWb _ e).2; dsimp only at this; omega) (.int .i64 y))
      have HF5 := Lib.hid ((HF4.out.trans hF).then_ hb5 (Nat.le_refl _))
      have hp3 := pick_any 30 g A c cs _ _ (hS.belowB hb5 (by omega)) (by omega) (by omega)
      have kf1 := kf 1
      clear hS hF HF4 HW4 HW5a hb5
      go_wp2_with fail
      obtain ⟨T, hT⟩ : ∃ T, T = w3.heap.size := ⟨_, rfl⟩
      rw [← hT] at k0 k1 k2 kf hWb HW5 HF5 hp3 kf1 hs3 hs4
      rw [← hT]
      clear hT
      refine hp3.mono ?_
      rintro e w5 ⟨z, rfl, z0, z1, hS, hF⟩
      have hs5 := hF.size
      simp at hs5
      have ez : 0 ≤ 10 * z ∧ 10 * z ≤ 1000 := by omega
      have m0 : w5.cell? ⟨T, 0, none⟩ = some (.int .i64 x) := by rw [hF.cell _ (by simp; omega) (by simp; omega), cell_setS _ (by omega)]; exact k0
      have m1 : w5.cell? ⟨T, 1, none⟩ = some (.int .i64 y) := by rw [hF.cell _ (by simp; omega) (by simp; omega)]; exact World.cell?_setCell_same' _ _ _ (by rw [k1]; rfl)
      have m2 : w5.cell? ⟨T, 2, none⟩ = some (.int .i64 0) := by rw [hF.cell _ (by simp; omega) (by simp; omega), cell_setS _ (by omega)]; exact k2
      have mf : ∀ j, w5.frozen? ⟨T, j, none⟩ = false := fun j => by rw [hF.frozen _ (by simp; omega) (by simp; omega)]; simpa using kf j
      have HW6a := hF.own HW5.out (fun e => by have := (hWb g e).1; omega)
      have hb6 : Below wB.heap.size w5 (w5.setCell ⟨T, 2, none⟩ (.int .i64 (10 * z))) := (Below.refl _ _).setCell (p := ⟨T, 2, none⟩) (by show _ ≤ T; omega) _
      have HW6 := Lib.hid (HW6a.setFar (p := ⟨T, 2, none⟩) (fun e => by have := (hWb _ e).2; dsimp only at this; omega) (.int .i64 (10 * z)))
      have HF6 := Lib.hid ((HF5.out.trans hF).then_ hb6 (Nat.le_refl _))
      have HS6 := Lib.hid (hS.belowB hb6 (by omega))
      have mf2 := mf 2
      have hT5 : T < w5.heap.size := by omega
      clear hp3 hS hF HF5 HW5 HW6a hb6 k0 k1 k2 kf kf1 z0 z1
      have hnn := HW6.out.blk_lt
      go_wp2_with (at_builtin; go_loud (refine wpL_app1 (L := LStand) rowStd rfl rfl _ _ rfl rfl HW6.out (x, y, 10 * z) _ rfl rfl (by simp [LStand]) (by unfold maxLen; omega) (by omega) (by simp; omega) ?_); intro A6 c6 w8 ho6 hg6)
      have hbw : Below wB.heap.size _ w8 := hg6.below' (by simp; omega) (fun b e => by have := (hnn b e).1; omega)
      have HS8 := Lib.hid (HS6.out.belowB hbw (by omega))
      have HF8 := Lib.hid (HF6.out.then_ hbw (Nat.le_refl _))
      have HW8 := Lib.hid ho6
      clear ho6 hg6 hbw HS6 HF6 HW6
      go_roundw
      case rel => exact ⟨L ++ [(x, y, 10 * z)], A6, c6, by simp; omega, by go_num, by simp, HW8, Lib.hid (HS8.out.more (by simp; omega)), HF8⟩
      case measure => simp [intOf]; omega
    · have hk0 : (K : Int) - L.length ≤ 0 := by omega
      have hl8 : L.length ≤ 8 := by omega
      by_cases hl0 : 0 < L.length
      rotate_left
      · have hzn : (L.length : Int) ≤ 0 := by omega
        have HFz := HF
        have HSz := HS
        have HSTz := HW
        clear HF HS HW
        obtain ⟨HSCz, HRBz⟩ := HCL.out wr HFz.out
        have hbl := HSCz.lo
        have hq0 := HSCz.c0
        have hq1 := HSCz.c1
        have hq2 := HSCz.c2
        obtain ⟨r0, hr0⟩ := HRBz.c0
        obtain ⟨r1, hr1⟩ := HRBz.c1
        obtain ⟨r2, hr2⟩ := HRBz.c2
        have hrf0 := HRBz.f0
        have hrf1 := HRBz.f1
        have hrf2 := HRBz.f2
        have hg7 := HRBz.lt
        have hg8 := HSCz.lt
        have hn1 : b ≠ w.heap.size := by omega
        have hn2 : w.heap.size ≠ b := by omega
        have HBF : Hid (Below w.heap.size wr (((wr.setCell ⟨w.heap.size, 0, none⟩ (.slice Ab xb.length cb)).setCell ⟨w.heap.size, 1, none⟩ (.slice At xt.length ct)).setCell ⟨w.heap.size, 2, none⟩ (.int .i64 N))) := Lib.hid ((((Below.refl _ wr).setCell (p := ⟨w.heap.size, 0, none⟩) (Nat.le_refl _) _).setCell (p := ⟨w.heap.size, 1, none⟩) (Nat.le_refl _) _).setCell (p := ⟨w.heap.size, 2, none⟩) (Nat.le_refl _) _)
        have HOB := Lib.hid (((HSCz.ob.setFar (p := ⟨w.heap.size, 0, none⟩) (fun e => by have := (HSCz.ob.blk_lt _ e).1; dsimp only at this; omega) (.slice Ab xb.length cb)).setFar (p := ⟨w.heap.size, 1, none⟩) (fun e => by have := (HSCz.ob.blk_lt _ e).1; dsimp only at this; omega) (.slice At xt.length ct)).setFar (p := ⟨w.heap.size, 2, none⟩) (fun e => by have := (HSCz.ob.blk_lt _ e).1; dsimp only at this; omega) (.int .i64 N))
        have HOT := Lib.hid (((HSCz.ot.setFar (p := ⟨w.heap.size, 0, none⟩) (fun e => by have := (HSCz.ot.blk_lt _ e).1; dsimp only at this; omega) (.slice Ab xb.length cb)).setFar (p := ⟨w.heap.size, 1, none⟩) (fun e => by have := (HSCz.ot.blk_lt _ e).1; dsimp only at this; omega) (.slice At xt.length ct)).setFar (p := ⟨w.heap.size, 2, none⟩) (fun e => by have := (HSCz.ot.blk_lt _ e).1; dsimp only at this; omega) (.int .i64 N))
        have HOS := Lib.hid (((HSTz.out.setFar (p := ⟨w.heap.size, 0, none⟩) (fun e => by have := (HSTz.out.blk_lt _ e).1; dsimp only at this; omega) (.slice Ab xb.length cb)).setFar (p := ⟨w.heap.size, 1, none⟩) (fun e => by have := (HSTz.out.blk_lt _ e).1; dsimp only at this; omega) (.slice At xt.length ct)).setFar (p := ⟨w.heap.size, 2, none⟩) (fun e => by have := (HSTz.out.blk_lt _ e).1; dsimp only at this; omega) (.int .i64 N))
        have HAP := Lib.hid HSCz.ap
        have HFw := Lib.hid ((HF0.out.trans HFz.out).then_ HBF.out (Nat.le_refl _))
        clear HSCz HRBz
        go_wp2_with fail
        exact bodyPost_ret (v := .tuple #[.agg #[.slice Ab xb.length cb, .slice At xt.length ct, .int .i64 N], .slice A1 L.length c1]) (by simp [results, Tryd.results27, go_sem, hr0, hr1, hr2, hg7]) rfl ⟨Ab, cb, xb, At, ct, xt, N, A1, c1, L, by first | rfl | (simp; done), hxb, hxt, (by first | omega | (simp; omega)), HOB.out.lower (by omega), HOT.out.lower (by omega), HAP.out, HOS.out.lower (by omega), (HSz.out.more (by omega)).belowB HBF.out hg, HFw.out⟩
      · have hzi : (0 : Int) < L.length := by omega
        obtain ⟨bW, hbe, hbW0, hbW1⟩ := HW.out.ptr (by omega)
        subst hbe
        have hp6 := pick_any 20 g A c cs _ wr HS.out (by omega) (by omega)
        go_wp2_with fail
        refine hp6.mono ?_
        rintro e w6 ⟨q, rfl, q0, q1, hS, hF⟩
        have hs6 := hF.size
        have HW6 := Lib.hid (hF.own HW.out (by intro e; injection e with e; dsimp only at e; omega))
        have HF6 := Lib.hid (HF.out.trans hF)
        have HS6 := Lib.hid hS
        clear hp6 hS hF HW HF HS
        by_cases z0 : q = 0
        · subst z0
          obtain ⟨sc, _⟩ := HCL.out w6 HF6.out
          have hk0 := sc.c0
          have hk1 := sc.c1
          have ha0 := fun o => (sc.al o).c0
          have ha1 := fun o => (sc.al o).c1
          have hl6 := sc.lt
          clear sc
          have ha := amongLit_any [-1, (xb.length : Int)] 2 #[.int .i64 (-1), .int .i64 (xb.length : Int)] rfl rfl (by omega) (by omega) g A c cs _ w6 HS6.out (by omega)
          go_wp2_with fail
          refine ha.mono ?_
          rintro e w7 ⟨v, rfl, hv, hS, hF⟩
          have hs7 := hF.size
          have HW7 := Lib.hid (hF.own HW6.out (by intro e; injection e with e; dsimp only at e; omega))
          have HF7 := Lib.hid (HF6.out.trans hF)
          have HS7 := Lib.hid hS
          obtain ⟨gg, hgg, _, hgl, hcl, hfz⟩ := HW7.out.field hl0
          cases hgg
          have qc : w7.cell? ⟨bW, 0, none⟩ = some (.int .i64 L[0].1) := by have := hcl 0 _ rfl; simpa using this
          have qf : w7.frozen? ⟨bW, 0, none⟩ = false := hfz 0
          clear ha hS hF hcl hv HW6 HF6 HS6 hfz
          have HSTz : Hid (Own LStand 33 (w7.setCell ⟨bW, 0, none⟩ (.int .i64 v)) wB.heap.size (some ⟨bW, 0, none⟩) c1 (L.set 0 (v, L[0].2.1, L[0].2.2))) := Lib.hid (by have := HW7.out.setField hl0 0 (by decide) (.int .i64 v) (v, L[0].2.1, L[0].2.2) (by simp [LStand]); simpa using this)
          have hBl : Below wB.heap.size w7 (w7.setCell ⟨bW, 0, none⟩ (.int .i64 v)) := (Below.refl _ w7).setCell (p := ⟨bW, 0, none⟩) hbW0 _
          have HFz := Lib.hid (HF7.out.then_ hBl (Nat.le_refl _))
          have HSz := Lib.hid (HS7.out.belowB hBl (by omega))
          clear hBl HW7 HF7 HS7
          obtain ⟨w8, hw8⟩ : ∃ W, W = w7.setCell ⟨bW, 0, none⟩ (.int .i64 v) := ⟨_, rfl⟩
          rw [← hw8] at HSTz HFz HSz
          go_upto_region 21 with fail
          rw [← hw8]
          clear hw8 qc qf
          obtain ⟨L2, hL2⟩ : ∃ L2, L2 = L.set 0 (v, L[0].2.1, L[0].2.2) := ⟨_, rfl⟩
          have hLl : L2.length = L.length := by rw [hL2]; simp
          rw [← hL2] at HSTz
          rw [← hLl]
          clear hL2
          have hL20 : L2.length ≤ 8 := by omega
          clear hLl
          obtain ⟨HSCz, HRBz⟩ := HCL.out w8 HFz.out
          have hbl := HSCz.lo
          have hq0 := HSCz.c0
          have hq1 := HSCz.c1
          have hq2 := HSCz.c2
          obtain ⟨r0, hr0⟩ := HRBz.c0
          obtain ⟨r1, hr1⟩ := HRBz.c1
          obtain ⟨r2, hr2⟩ := HRBz.c2
          have hrf0 := HRBz.f0
          have hrf1 := HRBz.f1
          have hrf2 := HRBz.f2
          have hg7 := HRBz.lt
          have hg8 := HSCz.lt
          have hn1 : b ≠ w.heap.size := by omega
          have hn2 : w.heap.size ≠ b := by omega
          have HBF : Hid (Below w.heap.size w8 (((w8.setCell ⟨w.heap.size, 0, none⟩ (.slice Ab xb.length cb)).setCell ⟨w.heap.size, 1, none⟩ (.slice At xt.length ct)).setCell ⟨w.heap.size, 2, none⟩ (.int .i64 N))) := Lib.hid ((((Below.refl _ w8).setCell (p := ⟨w.heap.size, 0, none⟩) (Nat.le_refl _) _).setCell (p := ⟨w.heap.size, 1, none⟩) (Nat.le_refl _) _).setCell (p := ⟨w.heap.size, 2, none⟩) (Nat.le_refl _) _)
          have HOB := Lib.hid (((HSCz.ob.setFar (p := ⟨w.heap.size, 0, none⟩) (fun e => by have := (HSCz.ob.blk_lt _ e).1; dsimp only at this; omega) (.slice Ab xb.length cb)).setFar (p := ⟨w.heap.size, 1, none⟩) (fun e => by have := (HSCz.ob.blk_lt _ e).1; dsimp only at this; omega) (.slice At xt.length ct)).setFar (p := ⟨w.heap.size, 2, none⟩) (fun e => by have := (HSCz.ob.blk_lt _ e).1; dsimp only at this; omega) (.int .i64 N))
          have HOT := Lib.hid (((HSCz.ot.setFar (p := ⟨w.heap.size, 0, none⟩) (fun e => by have := (HSCz.ot.blk_lt _ e).1; dsimp only at this; omega) (.slice Ab xb.length cb)).setFar (p := ⟨w.heap.size, 1, none⟩) (fun e => by have := (HSCz.ot.blk_lt _ e).1; dsimp only at this; omega) (.slice At xt.length ct)).setFar (p := ⟨w.heap.size, 2, none⟩) (fun e => by have := (HSCz.ot.blk_lt _ e).1; dsimp only at this; omega) (.int .i64 N))
          have HOS := Lib.hid (((HSTz.out.setFar (p := ⟨w.heap.size, 0, none⟩) (fun e => by have := (HSTz.out.blk_lt _ e).1; dsimp only at this; omega) (.slice Ab xb.length cb)).setFar (p := ⟨w.heap.size, 1, none⟩) (fun e => by have := (HSTz.out.blk_lt _ e).1; dsimp only at this; omega) (.slice At xt.length ct)).setFar (p := ⟨w.heap.size, 2, none⟩) (fun e => by have := (HSTz.out.blk_lt _ e).1; dsimp only at this; omega) (.int .i64 N))
          have HAP := Lib.hid HSCz.ap
          have HFw := Lib.hid ((HF0.out.trans HFz.out).then_ HBF.out (Nat.le_refl _))
          clear HSCz HRBz
          go_wp2_with fail
          exact bodyPost_ret (v := .tuple #[.agg #[.slice Ab xb.length cb, .slice At xt.length ct, .int .i64 N], .slice (some ⟨bW, 0, none⟩) L2.length c1]) (by simp [results, Tryd.results27, go_sem, hr0, hr1, hr2, hg7]) rfl ⟨Ab, cb, xb, At, ct, xt, N, (some ⟨bW, 0, none⟩), c1, L2, by first | rfl | (simp; done), hxb, hxt, (by first | omega | (simp; omega)), HOB.out.lower (by omega), HOT.out.lower (by omega), HAP.out, HOS.out.lower (by omega), (HSz.out.more (by omega)).belowB HBF.out hg, HFw.out⟩
        by_cases z1 : q = 1
        · subst z1
          obtain ⟨sc, _⟩ := HCL.out w6 HF6.out
          have hk0 := sc.c0
          have hk1 := sc.c1
          have ha0 := fun o => (sc.al o).c0
          have ha1 := fun o => (sc.al o).c1
          have hl6 := sc.lt
          clear sc
          have ha := amongLit_any [-1, (xt.length : Int)] 2 #[.int .i64 (-1), .int .i64 (xt.length : Int)] rfl rfl (by omega) (by omega) g A c cs _ w6 HS6.out (by omega)
          go_wp2_with fail
          refine ha.mono ?_
          rintro e w7 ⟨v, rfl, hv, hS, hF⟩
          have hs7 := hF.size
          have HW7 := Lib.hid (hF.own HW6.out (by intro e; injection e with e; dsimp only at e; omega))
          have HF7 := Lib.hid (HF6.out.trans hF)
          have HS7 := Lib.hid hS
          obtain ⟨gg, hgg, _, hgl, hcl, hfz⟩ := HW7.out.field hl0
          cases hgg
          have qc : w7.cell? ⟨bW, 1, none⟩ = some (.int .i64 L[0].2.1) := by have := hcl 1 _ rfl; simpa using this
          have qf : w7.frozen? ⟨bW, 1, none⟩ = false := hfz 1
          clear ha hS hF hcl hv HW6 HF6 HS6 hfz
          have HSTz : Hid (Own LStand 33 (w7.setCell ⟨bW, 1, none⟩ (.int .i64 v)) wB.heap.size (some ⟨bW, 0, none⟩) c1 (L.set 0 (L[0].1, v, L[0].2.2))) := Lib.hid (by have := HW7.out.setField hl0 1 (by decide) (.int .i64 v) (L[0].1, v, L[0].2.2) (by simp [LStand]); simpa using this)
          have hBl : Below wB.heap.size w7 (w7.setCell ⟨bW, 1, none⟩ (.int .i64 v)) := (Below.refl _ w7).setCell (p := ⟨bW, 1, none⟩) hbW0 _
          have HFz := Lib.hid (HF7.out.then_ hBl (Nat.le_refl _))
          have HSz := Lib.hid (HS7.out.belowB hBl (by omega))
          clear hBl HW7 HF7 HS7
          obtain ⟨w8, hw8⟩ : ∃ W, W = w7.setCell ⟨bW, 1, none⟩ (.int .i64 v) := ⟨_, rfl⟩
          rw [← hw8] at HSTz HFz HSz
          go_upto_region 21 with fail
          rw [← hw8]
          clear hw8 qc qf
          obtain ⟨L2, hL2⟩ : ∃ L2, L2 = L.set 0 (L[0].1, v, L[0].2.2) := ⟨_, rfl⟩
          have hLl : L2.length = L.length := by rw [hL2]; simp
          rw [← hL2] at HSTz
          rw [← hLl]
          clear hL2
          have hL20 : L2.length ≤ 8 := by omega
          clear hLl
          obtain ⟨HSCz, HRBz⟩ := HCL.out w8 HFz.out
          have hbl := HSCz.lo
          have hq0 := HSCz.c0
          have hq1 := HSCz.c1
          have hq2 := HSCz.c2
          obtain ⟨r0, hr0⟩ := HRBz.c0
          obtain ⟨r1, hr1⟩ := HRBz.c1
          obtain ⟨r2, hr2⟩ := HRBz.c2
          have hrf0 := HRBz.f0
          have hrf1 := HRBz.f1
          have hrf2 := HRBz.f2
          have hg7 := HRBz.lt
          have hg8 := HSCz.lt
          have hn1 : b ≠ w.heap.size := by omega
          have hn2 : w.heap.size ≠ b := by omega
          have HBF : Hid (Below w.heap.size w8 (((w8.setCell ⟨w.heap.size, 0, none⟩ (.slice Ab xb.length cb)).setCell ⟨w.heap.size, 1, none⟩ (.slice At xt.length ct)).setCell ⟨w.heap.size, 2, none⟩ (.int .i64 N))) := Lib.hid ((((Below.refl _ w8).setCell (p := ⟨w.heap.size, 0, none⟩) (Nat.le_refl _) _).setCell (p := ⟨w.heap.size, 1, none⟩) (Nat.le_refl _) _).setCell (p := ⟨w.heap.size, 2, none⟩) (Nat.le_refl _) _)
          have HOB := Lib.hid (((HSCz.ob.setFar (p := ⟨w.heap.size, 0, none⟩) (fun e => by have := (HSCz.ob.blk_lt _ e).1; dsimp only at this; omega) (.slice Ab xb.length cb)).setFar (p := ⟨w.heap.size, 1, none⟩) (fun e => by have := (HSCz.ob.blk_lt _ e).1; dsimp only at this; omega) (.slice At xt.length ct)).setFar (p := ⟨w.heap.size, 2, none⟩) (fun e => by have := (HSCz.ob.blk_lt _ e).1; dsimp only at this; omega) (.int .i64 N))
          have HOT := Lib.hid (((HSCz.ot.setFar (p := ⟨w.heap.size, 0, none⟩) (fun e => by have := (HSCz.ot.blk_lt _ e).1; dsimp only at this; omega) (.slice Ab xb.length cb)).setFar (p := ⟨w.heap.size, 1, none⟩) (fun e => by have := (HSCz.ot.blk_lt _ e).1; dsimp only at this; omega) (.slice At xt.length ct)).setFar (p := ⟨w.heap.size, 2, none⟩) (fun e => by have := (HSCz.ot.blk_lt _ e).1; dsimp only at this; omega) (.int .i64 N))
          have HOS := Lib.hid (((HSTz.out.setFar (p := ⟨w.heap.size, 0, none⟩) (fun e => by have := (HSTz.out.blk_lt _ e).1; dsimp only at this; omega) (.slice Ab xb.length cb)).setFar (p := ⟨w.heap.size, 1, none⟩) (fun e => by have := (HSTz.out.blk_lt _ e).1; dsimp only at this; omega) (.slice At xt.length ct)).setFar (p := ⟨w.heap.size, 2, none⟩) (fun e => by have := (HSTz.out.blk_lt _ e).1; dsimp only at this; omega) (.int .i64 N))
          have HAP := Lib.hid HSCz.ap
          have HFw := Lib.hid ((HF0.out.trans HFz.out).then_ HBF.out (Nat.le_refl _))
          clear HSCz HRBz
          go_wp2_with fail
          exact bodyPost_ret (v := .tuple #[.agg #[.slice Ab xb.length cb, .slice At xt.length ct, .int .i64 N], .slice (some ⟨bW, 0, none⟩) L2.length c1]) (by simp [results, Tryd.results27, go_sem, hr0, hr1, hr2, hg7]) rfl ⟨Ab, cb, xb, At, ct, xt, N, (some ⟨bW, 0, none⟩), c1, L2, by first | rfl | (simp; done), hxb, hxt, (by first | omega | (simp; omega)), HOB.out.lower (by omega), HOT.out.lower (by omega), HAP.out, HOS.out.lower (by omega), (HSz.out.more (by omega)).belowB HBF.out hg, HFw.out⟩
        by_cases z2 : q = 2
        · subst z2
          have ha := amongLit_any [-1, 0, 10000, 10001] 4 _ rfl rfl (by omega) (by omega) g A c cs _ w6 HS6.out (by omega)
          go_wp2_with fail
          refine ha.mono ?_
          rintro e w7 ⟨v, rfl, hv, hS, hF⟩
          have hs7 := hF.size
          have HW7 := Lib.hid (hF.own HW6.out (by intro e; injection e with e; dsimp only at e; omega))
          have HF7 := Lib.hid (HF6.out.trans hF)
          have HS7 := Lib.hid hS
          obtain ⟨gg, hgg, _, hgl, hcl, hfz⟩ := HW7.out.field hl0
          cases hgg
          have qc : w7.cell? ⟨bW, 2, none⟩ = some (.int .i64 L[0].2.2) := by have := hcl 2 _ rfl; simpa using this
          have qf : w7.frozen? ⟨bW, 2, none⟩ = false := hfz 2
          clear ha hS hF hcl hv HW6 HF6 HS6 hfz
          have HSTz : Hid (Own LStand 33 (w7.setCell ⟨bW, 2, none⟩ (.int .i64 v)) wB.heap.size (some ⟨bW, 0, none⟩) c1 (L.set 0 (L[0].1, L[0].2.1, v))) := Lib.hid (by have := HW7.out.setField hl0 2 (by decide) (.int .i64 v) (L[0].1, L[0].2.1, v) (by simp [LStand]); simpa using this)
          have hBl : Below wB.heap.size w7 (w7.setCell ⟨bW, 2, none⟩ (.int .i64 v)) := (Below.refl _ w7).setCell (p := ⟨bW, 2, none⟩) hbW0 _
          have HFz := Lib.hid (HF7.out.then_ hBl (Nat.le_refl _))
          have HSz := Lib.hid (HS7.out.belowB hBl (by omega))
          clear hBl HW7 HF7 HS7
          obtain ⟨w8, hw8⟩ : ∃ W, W = w7.setCell ⟨bW, 2, none⟩ (.int .i64 v) := ⟨_, rfl⟩
          rw [← hw8] at HSTz HFz HSz
          go_upto_region 21 with fail
          rw [← hw8]
          clear hw8 qc qf
          obtain ⟨L2, hL2⟩ : ∃ L2, L2 = L.set 0 (L[0].1, L[0].2.1, v) := ⟨_, rfl⟩
          have hLl : L2.length = L.length := by rw [hL2]; simp
          rw [← hL2] at HSTz
          rw [← hLl]
          clear hL2
          have hL20 : L2.length ≤ 8 := by omega
          clear hLl
          obtain ⟨HSCz, HRBz⟩ := HCL.out w8 HFz.out
          have hbl := HSCz.lo
          have hq0 := HSCz.c0
          have hq1 := HSCz.c1
          have hq2 := HSCz.c2
          obtain ⟨r0, hr0⟩ := HRBz.c0
          obtain ⟨r1, hr1⟩ := HRBz.c1
          obtain ⟨r2, hr2⟩ := HRBz.c2
          have hrf0 := HRBz.f0
          have hrf1 := HRBz.f1
          have hrf2 := HRBz.f2
          have hg7 := HRBz.lt
          have hg8 := HSCz.lt
          have hn1 : b ≠ w.heap.size := by omega
          have hn2 : w.heap.size ≠ b := by omega
          have HBF : Hid (Below w.heap.size w8 (((w8.setCell ⟨w.heap.size, 0, none⟩ (.slice Ab xb.length cb)).setCell ⟨w.heap.size, 1, none⟩ (.slice At xt.length ct)).setCell ⟨w.heap.size, 2, none⟩ (.int .i64 N))) := Lib.hid ((((Below.refl _ w8).setCell (p := ⟨w.heap.size, 0, none⟩) (Nat.le_refl _) _).setCell (p := ⟨w.heap.size, 1, none⟩) (Nat.le_refl _) _).setCell (p := ⟨w.heap.size, 2, none⟩) (Nat.le_refl _) _)
          have HOB := Lib.hid (((HSCz.ob.setFar (p := ⟨w.heap.size, 0, none⟩) (fun e => by have := (HSCz.ob.blk_lt _ e).1; dsimp only at this; omega) (.slice Ab xb.length cb)).setFar (p := ⟨w.heap.size, 1, none⟩) (fun e => by have := (HSCz.ob.blk_lt _ e).1; dsimp only at this; omega) (.slice At xt.length ct)).setFar (p := ⟨w.heap.size, 2, none⟩) (fun e => by have := (HSCz.ob.blk_lt _ e).1; dsimp only at this; omega) (.int .i64 N))
          have HOT := Lib.hid (((HSCz.ot.setFar (p := ⟨w.heap.size, 0, none⟩) (fun e => by have := (HSCz.ot.blk_lt _ e).1; dsimp only at this; omega) (.slice Ab xb.length cb)).setFar (p := ⟨w.heap.size, 1, none⟩) (fun e => by have := (HSCz.ot.blk_lt _ e).1; dsimp only at this; omega) (.slice At xt.length ct)).setFar (p := ⟨w.heap.size, 2, none⟩) (fun e => by have := (HSCz.ot.blk_lt _ e).1; dsimp only at this; omega) (.int .i64 N))
          have HOS := Lib.hid (((HSTz.out.setFar (p := ⟨w.heap.size, 0, none⟩) (fun e => by have := (HSTz.out.blk_lt _ e).1; dsimp only at this; omega) (.slice Ab xb.length cb)).setFar (p := ⟨w.heap.size, 1, none⟩) (fun e => by have := (HSTz.out.blk_lt _ e).1; dsimp only at this; omega) (.slice At xt.length ct)).setFar (p := ⟨w.heap.size, 2, none⟩) (fun e => by have := (HSTz.out.blk_lt _ e).1; dsimp only at this; omega) (.int .i64 N))
          have HAP := Lib.hid HSCz.ap
          have HFw := Lib.hid ((HF0.out.trans HFz.out).then_ HBF.out (Nat.le_refl _))
          clear HSCz HRBz
          go_wp2_with fail
          exact bodyPost_ret (v := .tuple #[.agg #[.slice Ab xb.length cb, .slice At xt.length ct, .int .i64 N], .slice (some ⟨bW, 0, none⟩) L2.length c1]) (by simp [results, Tryd.results27, go_sem, hr0, hr1, hr2, hg7]) rfl ⟨Ab, cb, xb, At, ct, xt, N, (some ⟨bW, 0, none⟩), c1, L2, by first | rfl | (simp; done), hxb, hxt, (by first | omega | (simp; omega)), HOB.out.lower (by omega), HOT.out.lower (by omega), HAP.out, HOS.out.lower (by omega), (HSz.out.more (by omega)).belowB HBF.out hg, HFw.out⟩
        by_cases z3 : q = 3
        · subst z3
          have hp7 := pick_any 2 g A c cs _ w6 HS6.out (by omega) (by omega)
          go_wp2_with fail
          refine hp7.mono ?_
          rintro e w7 ⟨v, rfl, v0, v1, hS, hF⟩
          have hs7 := hF.size
          have HF7 := Lib.hid (HF6.out.trans hF)
          have HS7 := Lib.hid hS
          obtain ⟨M, hM⟩ : ∃ M : Nat, (M : Int) = 100 + v := ⟨(100 + v).toNat, by omega⟩
          have e1 : IntKind.i64.wrap (100 + v) = (M : Int) := by rw [← hM]; exact wrapS (by omega) (by omega)
          have hM1 : M ≤ 101 := by omega
          clear hp7 hS hF HW6 HF6 HS6 v0 v1 hM
          go_upto_region 21 with (at_make; refine wpL_make (L := LStand) rowStd rfl _ _ rfl .i64 .i64 _ _ M rfl rfl rfl rfl (by omega) (by unfold maxLen; omega) (0, 0, 0) rfl ?_; intro w8 hown hb8)
          have HSTz := Lib.hid (hown.lower (show wB.heap.size ≤ _ by omega))
          have HFz := Lib.hid (HF7.out.then_ hb8 (by omega))
          have HSz := Lib.hid (HS7.out.belowB hb8 (by omega))
          clear hown hb8 HF7 HS7
          obtain ⟨HSCz, HRBz⟩ := HCL.out w8 HFz.out
          have hbl := HSCz.lo
          have hq0 := HSCz.c0
          have hq1 := HSCz.c1
          have hq2 := HSCz.c2
          obtain ⟨r0, hr0⟩ := HRBz.c0
          obtain ⟨r1, hr1⟩ := HRBz.c1
          obtain ⟨r2, hr2⟩ := HRBz.c2
          have hrf0 := HRBz.f0
          have hrf1 := HRBz.f1
          have hrf2 := HRBz.f2
          have hg7 := HRBz.lt
          have hg8 := HSCz.lt
          have hn1 : b ≠ w.heap.size := by omega
          have hn2 : w.heap.size ≠ b := by omega
          have HBF : Hid (Below w.heap.size w8 (((w8.setCell ⟨w.heap.size, 0, none⟩ (.slice Ab xb.length cb)).setCell ⟨w.heap.size, 1, none⟩ (.slice At xt.length ct)).setCell ⟨w.heap.size, 2, none⟩ (.int .i64 N))) := Lib.hid ((((Below.refl _ w8).setCell (p := ⟨w.heap.size, 0, none⟩) (Nat.le_refl _) _).setCell (p := ⟨w.heap.size, 1, none⟩) (Nat.le_refl _) _).setCell (p := ⟨w.heap.size, 2, none⟩) (Nat.le_refl _) _)
          have HOB := Lib.hid (((HSCz.ob.setFar (p := ⟨w.heap.size, 0, none⟩) (fun e => by have := (HSCz.ob.blk_lt _ e).1; dsimp only at this; omega) (.slice Ab xb.length cb)).setFar (p := ⟨w.heap.size, 1, none⟩) (fun e => by have := (HSCz.ob.blk_lt _ e).1; dsimp only at this; omega) (.slice At xt.length ct)).setFar (p := ⟨w.heap.size, 2, none⟩) (fun e => by have := (HSCz.ob.blk_lt _ e).1; dsimp only at this; omega) (.int .i64 N))
          have HOT := Lib.hid (((HSCz.ot.setFar (p := ⟨w.heap.size, 0, none⟩) (fun e => by have := (HSCz.ot.blk_lt _ e).1; dsimp only at this; omega) (.slice Ab xb.length cb)).setFar (p := ⟨w.heap.size, 1, none⟩) (fun e => by have := (HSCz.ot.blk_lt _ e).1; dsimp only at this; omega) (.slice At xt.length ct)).setFar (p := ⟨w.heap.size, 2, none⟩) (fun e => by have := (HSCz.ot.blk_lt _ e).1; dsimp only at this; omega) (.int .i64 N))
          have HOS := Lib.hid (((HSTz.out.setFar (p := ⟨w.heap.size, 0, none⟩) (fun e => by have := (HSTz.out.blk_lt _ e).1; dsimp only at this; omega) (.slice Ab xb.length cb)).setFar (p := ⟨w.heap.size, 1, none⟩) (fun e => by have := (HSTz.out.blk_lt _ e).1; dsimp only at this; omega) (.slice At xt.length ct)).setFar (p := ⟨w.heap.size, 2, none⟩) (fun e => by have := (HSTz.out.blk_lt _ e).1; dsimp only at this; omega) (.int .i64 N))
          have HAP := Lib.hid HSCz.ap
          have HFw := Lib.hid ((HF0.out.trans HFz.out).then_ HBF.out (Nat.le_refl _))
          clear HSCz HRBz
          go_wp2_with fail
          exact bodyPost_ret (v := .tuple #[.agg #[.slice Ab xb.length cb, .slice At xt.length ct, .int .i64 N], .slice (some ⟨w7.heap.size, 0, none⟩) M M]) (by simp [results, Tryd.results27, go_sem, hr0, hr1, hr2, hg7]) rfl ⟨Ab, cb, xb, At, ct, xt, N, (some ⟨w7.heap.size, 0, none⟩), M, (List.replicate M (0, 0, 0)), by first | rfl | (simp; done), hxb, hxt, (by first | omega | (simp; omega)), HOB.out.lower (by omega), HOT.out.lower (by omega), HAP.out, HOS.out.lower (by omega), (HSz.out.more (by omega)).belowB HBF.out hg, HFw.out⟩
        have f0 : (q == 0) = false := by rw [beq_eq_false_iff_ne]; exact z0
        have f1 : (q == 1) = false := by rw [beq_eq_false_iff_ne]; exact z1
        have f2 : (q == 2) = false := by rw [beq_eq_false_iff_ne]; exact z2
        have f3 : (q == 3) = false := by rw [beq_eq_false_iff_ne]; exact z3
        have HFz := HF6
        have HSz := HS6
        have HSTz := HW6
        clear HF6 HS6 HW6
        obtain ⟨HSCz, HRBz⟩ := HCL.out w6 HFz.out
        have hbl := HSCz.lo
        have hq0 := HSCz.c0
        have hq1 := HSCz.c1
        have hq2 := HSCz.c2
        obtain ⟨r0, hr0⟩ := HRBz.c0
        obtain ⟨r1, hr1⟩ := HRBz.c1
        obtain ⟨r2, hr2⟩ := HRBz.c2
        have hrf0 := HRBz.f0
        have hrf1 := HRBz.f1
        have hrf2 := HRBz.f2
        have hg7 := HRBz.lt
        have hg8 := HSCz.lt
        have hn1 : b ≠ w.heap.size := by omega
        have hn2 : w.heap.size ≠ b := by omega
        have HBF : Hid (Below w.heap.size w6 (((w6.setCell ⟨w.heap.size, 0, none⟩ (.slice Ab xb.length cb)).setCell ⟨w.heap.size, 1, none⟩ (.slice At xt.length ct)).setCell ⟨w.heap.size, 2, none⟩ (.int .i64 N))) := Lib.hid ((((Below.refl _ w6).setCell (p := ⟨w.heap.size, 0, none⟩) (Nat.le_refl _) _).setCell (p := ⟨w.heap.size, 1, none⟩) (Nat.le_refl _) _).setCell (p := ⟨w.heap.size, 2, none⟩) (Nat.le_refl _) _)
        have HOB := Lib.hid (((HSCz.ob.setFar (p := ⟨w.heap.size, 0, none⟩) (fun e => by have := (HSCz.ob.blk_lt _ e).1; dsimp only at this; omega) (.slice Ab xb.length cb)).setFar (p := ⟨w.heap.size, 1, none⟩) (fun e => by have := (HSCz.ob.blk_lt _ e).1; dsimp only at this; omega) (.slice At xt.length ct)).setFar (p := ⟨w.heap.size, 2, none⟩) (fun e => by have := (HSCz.ob.blk_lt _ e).1; dsimp only at this; omega) (.int .i64 N))
        have HOT := Lib.hid (((HSCz.ot.setFar (p := ⟨w.heap.size, 0, none⟩) (fun e => by have := (HSCz.ot.blk_lt _ e).1; dsimp only at this; omega) (.slice Ab xb.length cb)).setFar (p := ⟨w.heap.size, 1, none⟩) (fun e => by have := (HSCz.ot.blk_lt _ e).1; dsimp only at this; omega) (.slice At xt.length ct)).setFar (p := ⟨w.heap.size, 2, none⟩) (fun e => by have := (HSCz.ot.blk_lt _ e).1; dsimp only at this; omega) (.int .i64 N))
        have HOS := Lib.hid (((HSTz.out.setFar (p := ⟨w.heap.size, 0, none⟩) (fun e => by have := (HSTz.out.blk_lt _ e).1; dsimp only at this; omega) (.slice Ab xb.length cb)).setFar (p := ⟨w.heap.size, 1, none⟩) (fun e => by have := (HSTz.out.blk_lt _ e).1; dsimp only at this; omega) (.slice At xt.length ct)).setFar (p := ⟨w.heap.size, 2, none⟩) (fun e => by have := (HSTz.out.blk_lt _ e).1; dsimp only at this; omega) (.int .i64 N))
        have HAP := Lib.hid HSCz.ap
        have HFw := Lib.hid ((HF0.out.trans HFz.out).then_ HBF.out (Nat.le_refl _))
        clear HSCz HRBz
        go_wp2_with fail
        exact bodyPost_ret (v := .tuple #[.agg #[.slice Ab xb.length cb, .slice At xt.length ct, .int .i64 N], .slice (some ⟨bW, 0, none⟩) L.length c1]) (by simp [results, Tryd.results27, go_sem, hr0, hr1, hr2, hg7]) rfl ⟨Ab, cb, xb, At, ct, xt, N, (some ⟨bW, 0, none⟩), c1, L, by first | rfl | (simp; done), hxb, hxt, (by first | omega | (simp; omega)), HOB.out.lower (by omega), HOT.out.lower (by omega), HAP.out, HOS.out.lower (by omega), (HSz.out.more (by omega)).belowB HBF.out hg, HFw.out⟩
end Go.Proofs.YtamhkiakplmlmaaDoor
