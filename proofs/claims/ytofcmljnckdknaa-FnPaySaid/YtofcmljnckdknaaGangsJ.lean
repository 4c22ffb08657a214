/-
  Gangs: DividePay of the reference.
-/
import Derived.Test.YtofcmljnckdknaaGangsI
namespace Go.Proofs.Ytofcmljnckdknaa
open Go.ChangeShapes Go.WideShapes Go.RowKit

set_option maxRecDepth 100000 in
set_option maxHeartbeats 3200000 in
theorem specDividePay_any (A : Option Addr) (c : Nat) (xs : List HandD) (A2 : Option Addr) (c2 : Nat) (ws : List WorkD) (pay : Int) (w : World) (hr : Rd LHand w w.heap.size A c xs) (hr2 : Rd LWork w w.heap.size A2 c2 ws) (hok : ∀ n ∈ xs, OkHand n) :
    Calls Try.prog 8 #[.slice A xs.length c, .slice A2 ws.length c2, .int .i64 pay] w fun e w' => ∃ B d, e = .returned (.tuple #[.slice B (dpP xs ws pay).1.length d, .int .i64 (dpP xs ws pay).2]) ∧ Own LI 2 w' w.heap.size B d (dpP xs ws pay).1 ∧ Below w.heap.size w w' := by
  have hcv := l23Work_any A c xs A2 c2 ws _ w hr hr2 hok
  have hlen := hr.len63
  obtain ⟨FIN, hFIN⟩ : ∃ F, F = dpP xs ws pay := ⟨_, rfl⟩
  rw [← hFIN]
  cases hv : vwB xs ws
  · have HP : Hid (FIN = ([], 1)) := Lib.hid (by rw [hFIN]; unfold dpP; rw [hv]; rfl)
    rw [hv] at hcv
    clear hFIN hv
    rw [HP.out]
    go_enter Try.func8, Try.ntmps8
    go_wp2_with fail
    refine hcv.mono ?_
    rintro e w1 ⟨rfl, hd⟩
    have hb1 : Below w.heap.size w w1 := hd.below
    clear hd
    go_wp2_with fail
    go_ret2
    exact ⟨none, 0, rfl, Own.none_, hb1⟩
  have Hv := Lib.hid hv
  rw [hv] at hcv
  cases hi : inB pay 0 1000000000
  · have HP : Hid (FIN = ([], 2)) := Lib.hid (by rw [hFIN]; unfold dpP; rw [hv, hi]; rfl)
    clear hFIN hv
    rw [HP.out]
    go_enter Try.func8, Try.ntmps8
    go_wp2_with fail
    refine hcv.mono ?_
    rintro e w1 ⟨rfl, hd⟩
    have hb1 : Below w.heap.size w w1 := hd.below
    clear hd
    go_wp2_with (go_at_call 39; refine (l00In_any _ _ _ _).mono ?_; rintro e w' ⟨rfl, rfl⟩)
    go_ret2
    exact ⟨none, 0, rfl, Own.none_, hb1⟩
  obtain ⟨r0, r1⟩ := inB_yes hi
  have HV : Hid (FIN = if sm (dpW xs ws) = 0 then ([], 6) else (dvL pay (dpW xs ws), 0)) := Lib.hid (by rw [hFIN]; unfold dpP; rw [hv, hi]; rfl)
  obtain ⟨hWb, hS0, hS1⟩ := dpW_bd Hv.out
  have HWb := Lib.hid hWb
  have hx20 := (vw_bds Hv.out).1
  obtain ⟨hs, hhs⟩ : ∃ hs, hs = wbG fHours xs.length ws := ⟨_, rfl⟩
  have hhl : hs.length = xs.length := by rw [hhs, wbG_len]
  have HL := Lib.hid hhl
  have HW : Hid (dpW xs ws = wtL hs (shr xs)) := Lib.hid (by rw [hhs]; rfl)
  have hhb : ∀ x ∈ hs, 0 ≤ x ∧ x ≤ 10000000 := by rw [hhs]; exact (wbG_sum hx20 (vw_bds Hv.out).2.1 (vw_bds Hv.out).2.2.2.2).1
  have hsb := gang_share (vw_parts Hv.out).1
  have HHB := Lib.hid hhb
  have HSB := Lib.hid hsb
  have HC : Hid (∀ W : World, Rd LWork W W.heap.size A2 c2 ws → Calls Try.prog 40 #[.slice A xs.length c, .slice A2 ws.length c2] W fun e w' => ∃ B d, e = .returned (.slice B hs.length d) ∧ Own LI 2 w' W.heap.size B d hs ∧ Below W.heap.size W w') := Lib.hid (fun W h => by rw [hhs]; exact l23Hours_any A c xs A2 c2 ws W h Hv.out)
  have h1 : hs.length ≤ xs.length := by omega
  have h2 : xs.length ≤ hs.length := by omega
  have hWl : (dpW xs ws).length = xs.length := dpW_len xs ws
  rw [HW.out] at HV HWb hS0 hS1 hWl
  have HWL := Lib.hid hWl
  have HG : Hid (∀ k (h1 : k < hs.length) (h2 : k < xs.length), (wtL hs (shr xs)).take (k + 1) = (wtL hs (shr xs)).take k ++ [hs[k] * xs[k].2.1]) := Lib.hid (fun k h1 h2 => by rw [wtL_succ hs (shr xs) h1 (by rw [shr_len]; exact h2), shr_get xs h2])
  clear hFIN hv hWb hhs hhl hhb hsb HW hWl
  generalize wtL hs (shr xs) = W at *
  have hQ : Hid (sm W ≠ 0 → ∀ k, 0 ≤ sm (W.take k) ∧ sm (W.take k) ≤ sm W ∧ 0 ≤ pay * sm (W.take k) ∧ pay * sm (W.take k) ≤ 4000000000000000000 ∧ 0 ≤ qP pay W k ∧ qP pay W k ≤ 1000000000) := Lib.hid (fun h k => qP_bd r0 r1 (fun x hx => (HWb.out x hx).1) (by omega) hS1 k)
  have HSB2 : Hid (∀ k, 0 ≤ sm (W.take k) ∧ sm (W.take k) ≤ sm W) := Lib.hid (fun k => sm_take_bd (fun x hx => (HWb.out x hx).1) k)
  go_enter Try.func8, Try.ntmps8
  go_wp2_with fail
  refine hcv.mono ?_
  rintro e w1 ⟨rfl, hd⟩
  have hb1 : Below w.heap.size w w1 := hd.below
  have hcc := HC.out w1 ((hr2.below hb1).more hb1.size)
  clear hcv HC hd
  go_wp2_with (go_at_call 39; refine (l00In_any _ _ _ _).mono ?_; rintro e w' ⟨rfl, rfl⟩)
  refine hcc.mono ?_
  rintro e w2 ⟨B, d, rfl, ho, hb2⟩
  have hb3 := bthen hb1 (Nat.le_refl _) hb2
  have hs3 := hb3.size
  have HO0 := Lib.hid ho
  clear hcc hb1 hb2 ho
  go_wp2_with fail
  go_loopw [9, 10, 11] (fun o s i wr => ∃ (k : Nat) (A1 : Option Addr) (c1 : Nat), k ≤ xs.length ∧ i = .int .i64 k ∧ o = .slice A1 (W.take k).length c1 ∧ s = .int .i64 (sm (W.take k)) ∧ Hid (Own LI 2 wr w2.heap.size A1 c1 (W.take k)) ∧ Hid (Below w2.heap.size w2 wr)) (fun _ _ i _ => xs.length - (intOf i).toNat)
  case atStart => exact ⟨0, _, _, by omega, rfl, rfl, rfl, Lib.hid (Own.lit0 w2 (Nat.le_refl _) rfl), Lib.hid ((Below.refl _ _).alloc (Nat.le_refl _) _)⟩
  case round =>
    obtain ⟨k, A1, c1, hk, rfl, rfl, rfl, HO1, HB1⟩ := hrel
    have hsz1 := HB1.out.size
    have HBW := Lib.hid (hb3.trans (HB1.out.mono hs3))
    have hszw := HBW.out.size
    by_cases hlt : k < xs.length
    · obtain ⟨ad, rfl, hab, d0, d1, d2⟩ := rdHand (hr.below HBW.out) hlt
      have hkl : k < hs.length := by omega
      have hki : (k : Int) < hs.length := by omega
      have hkx : (k : Int) < xs.length := by omega
      have hkW : k < W.length := by rw [HWL.out]; exact hlt
      obtain ⟨g, rfl, hg1, hg2, hcell, hfz⟩ := (HO0.out.below HB1.out).int hkl
      have HT := Lib.hid (HG.out k hkl hlt)
      have HSM := Lib.hid (sm_succ W hkW)
      obtain ⟨v0, v1⟩ := HWb.out _ (List.getElem_mem hkW)
      obtain ⟨b0, b1⟩ := HSB2.out k
      have e0 : W[k] = hs[k] * xs[k].2.1 := by
        have h := HT.out
        rw [List.take_succ_eq_append_getElem hkW] at h
        exact (List.cons.inj (List.append_cancel_left h)).1
      obtain ⟨a0, a1⟩ := HHB.out _ (List.getElem_mem hkl)
      obtain ⟨s0, s1⟩ := HSB.out _ (List.getElem_mem hlt)
      have hl1 : (W.take k).length = k := by simp; omega
      have HL1 := Lib.hid hl1
      have hln : (W.take k).length ≤ 20 := by omega
      have hlk : k ≤ (W.take k).length := by omega
      have hlk2 : (W.take k).length ≤ k := by omega
      clear hl1
      generalize xs[k].1 = f0 at *
      generalize xs[k].2.1 = f1 at *
      generalize xs[k].2.2 = f2 at *
      generalize hs[k] = hvv at *
      obtain ⟨wk, hwk⟩ : ∃ t, t = W[k] := ⟨_, rfl⟩
      rw [← hwk] at v0 v1 e0 HSM
      have e1 : IntKind.i64.wrap (hvv * f1) = wk := by rw [← e0]; exact wrapS (by omega) (by omega)
      rw [← e0] at HT
      have HWK := Lib.hid hwk
      clear e0 hwk d0 d2
      generalize sm (W.take k) = S at *
      generalize W.take k = L1 at *
      have hab2 : (ad.add (k * 3)).block < wr.heap.size := by rw [block_of_add]; omega
      have hgN : blk A1 ≠ some g := fun e => by have := (HO1.out.blk_lt g e).1; have := (HO0.out.blk_lt g rfl).2; omega
      have haN : blk A1 ≠ some (ad.add (k * 3)).block := fun e => by have := (HO1.out.blk_lt _ e).1; rw [block_of_add] at this; omega
      go_wp2_with fail
      go_region_held3 (fun X => X.cell? ⟨g, k, none⟩ = some (.int .i64 hvv) ∧ X.cell? ⟨(ad.add (k * 3)).block, (ad.add (k * 3)).off + 1, none⟩ = some (.int .i64 f1))
        (first | go_keep | (go_split_ands; refine ⟨?_, ?_⟩ <;> (refine (hg4.cell _ ?_ ?_).trans ?_; (focus (simp <;> omega)); (first | exact hgN | exact haN); assumption)))
        ((refine stepL_app1 (L := LI) rowI rfl rfl _ _ rfl rfl (HO1.out.alloc _) wk rfl ?_ (by unfold maxLen; omega) (by omega) (by simp; omega) ?_; (focus (intro j v hv; cases j <;> simp [LI] at hv; subst hv; go_simp)); intro A4 c4 w4 ho4 hg4))
      obtain ⟨g4, rfl, hg41, hg42, hc4, hf4⟩ := ho4.int (k := k) (by simp; omega)
      have e2 : (L1 ++ [wk])[k]'(by simp; omega) = wk := by rw [List.getElem_append_right (by omega)]; simp
      rw [e2] at hc4
      have hkn : k < L1.length + 1 := by omega
      have hkn2 : (k : Int) < (L1.length : Int) + 1 := by omega
      have HO4 := Lib.hid ho4
      have HB4 := Lib.hid (Grew.below ((HB1.out.alloc hsz1 _).drew) hg4 (by simp; omega) fun g' hg' => (HO1.out.blk_lt g' hg').1)
      clear e1 e2 ho4 hg4
      go_wp2_with fail
      go_roundw
      case rel => exact ⟨k + 1, some ⟨g4, 0, none⟩, c4, by omega, by go_num, by rw [HT.out]; simp, by rw [HSM.out], Lib.hid (by rw [HT.out]; exact HO4.out), HB4⟩
      case measure => simp [intOf]; omega
    · obtain rfl : k = xs.length := by omega
      have ho2 := HO1.out
      rw [List.take_of_length_le (by rw [HWL.out]; omega)] at ho2
      rw [List.take_of_length_le (by rw [HWL.out]; omega)]
      have HO2 := Lib.hid ho2
      clear ho2 HO1
      obtain ⟨wq, rfl⟩ : ∃ wq : World, wq = wr := ⟨_, rfl⟩
      by_cases hz : sm W = 0
      · have HF : Hid (FIN = ([], 6)) := Lib.hid (by rw [HV.out, if_pos hz])
        have hzb : (sm W == 0) = true := by rw [beq_iff_eq]; exact hz
        clear hz
        go_wp2_with fail
        go_ret2
        exact ⟨none, 0, by rw [HF.out]; rfl, by rw [HF.out]; exact Own.none_, HBW.out⟩
      have HF : Hid (FIN = (dvL pay W, 0)) := Lib.hid (by rw [HV.out, if_neg hz])
      have hzb : (sm W == 0) = false := by rw [beq_eq_false_iff_ne]; exact hz
      have hpos : 1 ≤ sm W := by omega
      have HQ := Lib.hid (hQ.out hz)
      clear hz hQ
      generalize hal : sm W = al at *
      have HAL := Lib.hid hal
      clear hal
      have hWx : W.length ≤ xs.length := by rw [HWL.out]; exact Nat.le_refl _
      have hxW : xs.length ≤ W.length := by rw [HWL.out]; exact Nat.le_refl _
      go_wp2_with fail
      go_loopw [12, 13, 14, 15] (fun o dn to i wr => ∃ (k : Nat) (A5 : Option Addr) (c5 : Nat), k ≤ xs.length ∧ i = .int .i64 k ∧ o = .slice A5 ((dvL pay W).take k).length c5 ∧ dn = .int .i64 (qP pay W k) ∧ to = .int .i64 (sm (W.take k)) ∧ Hid (Own LI 2 wr wq.heap.size A5 c5 ((dvL pay W).take k)) ∧ Hid (Below wq.heap.size wq wr)) (fun _ _ _ i _ => xs.length - (intOf i).toNat)
      case atStart => exact ⟨0, _, _, by omega, rfl, rfl, by rw [qP_zero], rfl, Lib.hid (Own.lit0 wq (Nat.le_refl _) rfl), Lib.hid ((Below.refl _ _).alloc (Nat.le_refl _) _)⟩
      case round =>
        obtain ⟨k, A5, c5, hk, rfl, rfl, rfl, rfl, HO5, HB5⟩ := hrel
        have hsz5 := HB5.out.size
        by_cases hlt : k < xs.length
        · have hkW : k < W.length := by omega
          have hki : (k : Int) < W.length := by omega
          have hkx : (k : Int) < xs.length := by omega
          obtain ⟨g, rfl, hg1, hg2, hcell, hfz⟩ := (HO2.out.below HB5.out).int hkW
          have HD := Lib.hid (dvL_succ pay W hkW)
          have HSM := Lib.hid (sm_succ W hkW)
          have HQ1 := Lib.hid (dv_step (pay := pay) hkW)
          obtain ⟨q0, q1, q2, q3, q4, q5⟩ := HQ.out k
          obtain ⟨t0, t1, t2, t3, t4, t5⟩ := HQ.out (k + 1)
          rw [HSM.out] at t0 t1 t2 t3
          rw [HAL.out] at HQ1
          obtain ⟨v0, v1⟩ := HWb.out _ (List.getElem_mem hkW)
          have hln : ((dvL pay W).take k).length ≤ 20 := by rw [List.length_take, dvL_len]; omega
          generalize sm (W.take k) = bf at *
          generalize W[k] = wk at *
          generalize (dvL pay W).take k = L5 at *
          have hto : bf + wk ≤ al := t1
          have e2 : IntKind.i64.wrap (pay * (bf + wk)) = pay * (bf + wk) := wrapS (by omega) (by omega)
          have e6 : pay * (bf + wk) / al = qP pay W (k + 1) := HQ1.out.symm
          clear q2 q3
          obtain ⟨Q1, hQE⟩ : ∃ t, t = qP pay W (k + 1) := ⟨_, rfl⟩
          rw [← hQE] at e6 HD t4 t5
          have HQE := Lib.hid hQE
          clear hQE HQ1
          generalize qP pay W k = Q0 at *
          go_wp2_with (at_builtin; go_loud (refine wpL_app1 (L := LI) rowI rfl rfl _ _ rfl rfl HO5.out (Q1 - Q0) _ rfl rfl (by simp) (by unfold maxLen; omega) (by omega) (by omega) ?_); intro A6 c6 w6 ho6 hg6)
          clear e2 e6
          go_roundw
          case rel => exact ⟨k + 1, A6, c6, by omega, by go_num, by rw [HD.out]; simp, by rw [HQE.out], by rw [HSM.out], Lib.hid (by rw [HD.out]; exact ho6), Lib.hid (Grew.below HB5.out hg6 (by omega) fun g' hg' => (HO5.out.blk_lt g' hg').1)⟩
          case measure => simp [intOf]; omega
        · obtain rfl : k = xs.length := by omega
          have ho5 : Own LI 2 wr w.heap.size A5 c5 (dvL pay W) := by
            have h := HO5.out
            rw [List.take_of_length_le (by rw [dvL_len]; omega)] at h
            exact h.lower hszw
          rw [List.take_of_length_le (by rw [dvL_len]; omega)]
          have HB2 := Lib.hid (bthen HBW.out (Nat.le_refl _) HB5.out)
          go_wp2_with fail
          go_ret2
          exact ⟨A5, c5, by rw [HF.out]; rfl, by rw [HF.out]; exact ho5, HB2.out⟩
end Go.Proofs.Ytofcmljnckdknaa
