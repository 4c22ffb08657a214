/-
  Gangs: DividePay, both sides.
-/
import Derived.Test.YtofcmljnckdknaaGangsE
import Derived.Test.YtofcmljnckdknaaDividePlain
import Derived.Test.YtofcmljnckdknaaFlat0
import Derived.Test.YtofcmljnckdknaaSteps
import Derived.RegionTactic
import Derived.Deep.RegionHeld3
namespace Go.Proofs.Ytofcmljnckdknaa
open Go.ChangeShapes Go.WideShapes Go.RowKit

def shr (xs : List HandD) : List Int := xs.map fun x => x.2.1
theorem shr_len (xs : List HandD) : (shr xs).length = xs.length := by simp [shr]
theorem shr_get (xs : List HandD) {k : Nat} (h : k < xs.length) (h2 : k < (shr xs).length) : (shr xs)[k] = xs[k].2.1 := by simp [shr]
theorem gang_share {xs : List HandD} (h : gangB xs = true) : ∀ x ∈ xs, 1 ≤ x.2.1 ∧ x.2.1 ≤ 20 := by
  intro x hx
  obtain ⟨i, hi, rfl⟩ := List.getElem_of_mem hx
  unfold gangB at h
  rw [Bool.and_eq_true] at h
  have h1 := List.all_eq_true.1 h.1 i (by simpa using hi)
  rw [gI_at hi, Bool.and_eq_true] at h1
  have h2 := h1.1
  unfold hdOk at h2
  rw [Bool.and_eq_true] at h2
  exact inB_yes h2.2
def dpW (xs : List HandD) (ws : List WorkD) : List Int := wtL (wbG fHours xs.length ws) (shr xs)
theorem dpW_len (xs : List HandD) (ws : List WorkD) : (dpW xs ws).length = xs.length := by unfold dpW; rw [wtL_len, wbG_len]
theorem dpW_bd {xs : List HandD} {ws : List WorkD} (h : vwB xs ws = true) : (∀ x ∈ dpW xs ws, 0 ≤ x ∧ x ≤ 200000000) ∧ 0 ≤ sm (dpW xs ws) ∧ sm (dpW xs ws) ≤ 4000000000 := by
  obtain ⟨hx, hw, _, _, hf⟩ := vw_bds h
  have hs := gang_share (vw_parts h).1
  have h1 := wtL_bd (M := 10000000) (N := 20) (hs := wbG fHours xs.length ws) (sh := shr xs) (by omega) (by rw [wbG_len, shr_len]) (wbG_sum hx hw hf).1 (fun x hx => by
    obtain ⟨y, hy, rfl⟩ := List.mem_map.1 hx
    have := hs y hy
    omega)
  have h2 : ∀ x ∈ dpW xs ws, 0 ≤ x ∧ x ≤ 200000000 := fun x hx => by have := h1 x hx; omega
  refine ⟨h2, sm_nonneg fun x hx => (h2 x hx).1, ?_⟩
  have := sm_bound (M := 200000000) (n := 20) (by omega) (fun x hx => (h2 x hx).2) (by rw [dpW_len]; omega)
  omega
def dpP (xs : List HandD) (ws : List WorkD) (pay : Int) : List Int × Int :=
  if vwB xs ws = true then (if inB pay 0 1000000000 = true then (if sm (dpW xs ws) = 0 then ([], 6) else (dvL pay (dpW xs ws), 0)) else ([], 2)) else ([], 1)
theorem dpP_len (xs : List HandD) (ws : List WorkD) (pay : Int) : (dpP xs ws pay).1.length ≤ 1048576 := by
  unfold dpP
  split
  · rename_i hv
    split
    · split
      · simp
      · rw [dvL_len, dpW_len]; have := (vw_bds hv).1; omega
    · simp
  · simp
theorem ret_dp {A : Option Addr} {c : Nat} {L : List Int} {a : Int} {p : List Int × Int} (h : p = (L, a)) : Ending.returned (.tuple #[.slice A L.length c, .int .i64 a]) = .returned (.tuple #[.slice A p.1.length c, .int .i64 p.2]) := by rw [h]
/-- one step of the division -/
theorem dv_step {pay : Int} {W : List Int} {k : Nat} (hk : k < W.length) : qP pay W (k + 1) = pay * (sm (W.take k) + W[k]) / sm W := by
  unfold qP
  rw [sm_succ W hk]

set_option maxRecDepth 100000 in
set_option maxHeartbeats 3200000 in
theorem implDividePay_any (A : Option Addr) (c : Nat) (xs : List HandD) (A2 : Option Addr) (c2 : Nat) (ws : List WorkD) (pay : Int) (w : World) (hr : Rd LHand w w.heap.size A c xs) (hr2 : Rd LWork w w.heap.size A2 c2 ws) (hok : ∀ n ∈ xs, OkHand n) :
    Calls Try.prog 11 #[.slice A xs.length c, .slice A2 ws.length c2, .int .i64 pay] w fun e w' => ∃ B d, e = .returned (.tuple #[.slice B (dpP xs ws pay).1.length d, .int .i64 (dpP xs ws pay).2]) ∧ Own LI 2 w' w.heap.size B d (dpP xs ws pay).1 ∧ Below w.heap.size w w' := by
  have hcv := implValidWork_any A c xs A2 c2 ws w hr hr2 hok
  have hlen := hr.len63
  obtain ⟨FIN, hFIN⟩ : ∃ F, F = dpP xs ws pay := ⟨_, rfl⟩
  rw [← hFIN]
  cases hv : vwB xs ws
  · have HP : Hid (FIN = ([], 1)) := Lib.hid (by rw [hFIN]; unfold dpP; rw [hv]; rfl)
    rw [hv] at hcv
    clear hFIN hv
    rw [HP.out]
    go_enter Try.func11, Try.ntmps11
    go_wp2_with fail
    refine hcv.mono ?_
    rintro e w1 ⟨rfl, hb1⟩
    go_wp2_with fail
    go_ret2
    exact ⟨none, 0, rfl, Own.none_, hb1⟩
  have Hv := Lib.hid hv
  rw [hv] at hcv
  cases hi : inB pay 0 1000000000
  · have HP : Hid (FIN = ([], 2)) := Lib.hid (by rw [hFIN]; unfold dpP; rw [hv, hi]; rfl)
    clear hFIN hv
    rw [HP.out]
    go_enter Try.func11, Try.ntmps11
    go_wp2_with fail
    refine hcv.mono ?_
    rintro e w1 ⟨rfl, hb1⟩
    go_wp2_with (go_at_call 44; refine (within_any _ _ _ _).mono ?_; rintro e w' ⟨rfl, rfl⟩)
    go_ret2
    exact ⟨none, 0, rfl, Own.none_, hb1⟩
  obtain ⟨r0, r1⟩ := inB_yes hi
  have HV : Hid (FIN = if sm (dpW xs ws) = 0 then ([], 6) else (dvL pay (dpW xs ws), 0)) := Lib.hid (by rw [hFIN]; unfold dpP; rw [hv, hi]; rfl)
  obtain ⟨hWb, hS0, hS1⟩ := dpW_bd Hv.out
  have HWb := Lib.hid hWb
  have hx20 := (vw_bds Hv.out).1
  obtain ⟨hs, hhs⟩ : ∃ hs, hs = wbG fHours xs.length ws := ⟨_, rfl⟩
  have hhl : hs.length = xs.length := by rw [hhs, wbG_len]
  have HL := Lib.hid hhl
  have HW : Hid (dpW xs ws = wtL hs (shr xs)) := Lib.hid (by rw [hhs]; rfl)
  have hhb : ∀ x ∈ hs, 0 ≤ x ∧ x ≤ 10000000 := by rw [hhs]; exact (wbG_sum hx20 (vw_bds Hv.out).2.1 (vw_bds Hv.out).2.2.2.2).1
  have hsb := gang_share (vw_parts Hv.out).1
  have HHB := Lib.hid hhb
  have HSB := Lib.hid hsb
  have HC : Hid (∀ W : World, Rd LWork W W.heap.size A2 c2 ws → Calls Try.prog 45 #[.slice A xs.length c, .slice A2 ws.length c2] W fun e w' => ∃ B d, e = .returned (.slice B hs.length d) ∧ Own LI 2 w' W.heap.size B d hs ∧ Below W.heap.size W w') := Lib.hid (fun W h => by rw [hhs]; exact hoursBy_any A c xs A2 c2 ws W h Hv.out)
  have h1 : hs.length ≤ xs.length := by omega
  have h2 : xs.length ≤ hs.length := by omega
  clear hFIN hv hWb hhs hhl hhb hsb
  go_enter Try.func11, Try.ntmps11
  go_wp2_with fail
  refine hcv.mono ?_
  rintro e w1 ⟨rfl, hb1⟩
  have hcc := HC.out w1 ((hr2.below hb1).more hb1.size)
  clear hcv HC
  go_wp2_with (go_at_call 44; refine (within_any _ _ _ _).mono ?_; rintro e w' ⟨rfl, rfl⟩)
  refine hcc.mono ?_
  rintro e w2 ⟨B, d, rfl, ho, hb2⟩
  have hb3 := bthen hb1 (Nat.le_refl _) hb2
  have hs3 := hb3.size
  have ho0 := ho.lower hb1.size
  clear hcc hb1 hb2 ho
  go_wp2_with fail
  go_loopw [30] (fun i wr => ∃ k : Nat, k ≤ xs.length ∧ i = .int .i64 k ∧ Hid (Own LI 2 wr w.heap.size B d ((wtL hs (shr xs)).take k ++ hs.drop k)) ∧ Hid (Below w.heap.size w wr)) (fun i _ => xs.length - (intOf i).toNat)
  case atStart => exact ⟨0, by omega, rfl, Lib.hid (by simpa using ho0), Lib.hid hb3⟩
  case round =>
    obtain ⟨k, hk, rfl, HO, HB⟩ := hrel
    have hsz := HB.out.size
    by_cases hlt : k < xs.length
    · obtain ⟨ad, rfl, hab, d0, d1, d2⟩ := rdHand (hr.below HB.out) hlt
      have hkl : k < hs.length := by omega
      have hki : (k : Int) < hs.length := by omega
      have hkx : (k : Int) < xs.length := by omega
      obtain ⟨g, rfl, hg1, hg2, hcell, hfz⟩ := HO.out.int (k := k) (by rw [List.length_append, List.length_take, List.length_drop, wtL_len]; omega)
      have e0 : ((wtL hs (shr xs)).take k ++ hs.drop k)[k]'(by rw [List.length_append, List.length_take, List.length_drop, wtL_len]; omega) = hs[k] := by
        rw [List.getElem_append_right (by rw [List.length_take]; exact Nat.min_le_left _ _)]
        simp [wtL_len, Nat.min_eq_left (Nat.le_of_lt hkl)]
      rw [e0] at hcell
      clear e0
      have hW : Hid ((wtL hs (shr xs)).take (k + 1) ++ hs.drop (k + 1) = ((wtL hs (shr xs)).take k ++ hs.drop k).set k (hs[k] * xs[k].2.1)) := Lib.hid (by
        have hp := paint_step (wtL hs (shr xs)) hs (wtL_len _ _) hkl
        rw [← hp, wtL_get hs (shr xs) _ hkl (by rw [shr_len]; exact hlt), shr_get xs hlt])
      obtain ⟨a0, a1⟩ := HHB.out _ (List.getElem_mem hkl)
      obtain ⟨s0, s1⟩ := HSB.out _ (List.getElem_mem hlt)
      generalize xs[k].1 = f0 at *
      generalize xs[k].2.1 = f1 at *
      generalize xs[k].2.2 = f2 at *
      generalize hs[k] = hv at *
      have hm0 := Int.mul_nonneg a0 (show 0 ≤ f1 by omega)
      have hm1 : hv * f1 ≤ 10000000 * 20 := Int.mul_le_mul a1 s1 (by omega) (by omega)
      have hwr : IntKind.i64.wrap (hv * f1) = hv * f1 := wrapS (by omega) (by omega)
      go_wp2_with fail
      go_region
      all_goals
        go_wp2_with fail
        go_roundw
        case rel => exact ⟨k + 1, by omega, by go_num, Lib.hid (by rw [hW.out]; exact ((Own.setInt HO.out k (hv * f1)).alloc _).drew), Lib.hid (((HB.out.setCell (p := ⟨g, k, none⟩) (by exact hg1) _).alloc (by simpa using hsz) _).drew)⟩
        case measure => simp [intOf]; omega
    · obtain rfl : k = xs.length := by omega
      have ho2 : Own LI 2 wr w.heap.size B d (dpW xs ws) := by
        have h := HO.out
        rw [List.take_of_length_le (by rw [wtL_len]; omega), List.drop_of_length_le (by omega), List.append_nil, ← HW.out] at h
        exact h
      have hcs := sumOf_any B d (dpW xs ws) wr.heap.size wr ho2.rd (fun x hx => (HWb.out x hx).1) (by omega)
      have hWl : (dpW xs ws).length = hs.length := by rw [dpW_len, HL.out]
      rw [hWl] at hcs
      have HWl := Lib.hid hWl
      have HO2 := Lib.hid ho2
      clear hWl ho2 HO
      go_wp2_with fail
      refine hcs.mono ?_
      rintro e w4 ⟨rfl, rfl⟩
      clear hcs
      obtain ⟨wq, rfl⟩ : ∃ wq : World, wq = wr := ⟨_, rfl⟩
      by_cases hz : sm (dpW xs ws) = 0
      · have HF : Hid (FIN = ([], 6)) := Lib.hid (by rw [HV.out, if_pos hz])
        have hzb : (sm (dpW xs ws) == 0) = true := by rw [beq_iff_eq]; exact hz
        clear hz
        go_wp2_with fail
        go_ret2
        exact ⟨none, 0, by rw [HF.out]; rfl, by rw [HF.out]; exact Own.none_, HB.out⟩
      have HF : Hid (FIN = (dvL pay (dpW xs ws), 0)) := Lib.hid (by rw [HV.out, if_neg hz])
      have hzb : (sm (dpW xs ws) == 0) = false := by rw [beq_eq_false_iff_ne]; exact hz
      have hpos : 1 ≤ sm (dpW xs ws) := by omega
      have HLE : Hid ((dpW xs ws).length = xs.length) := Lib.hid (dpW_len xs ws)
      clear hz
      generalize dpW xs ws = W at *
      generalize hal : sm W = al at *
      have HAL := Lib.hid hal
      clear hal
      have hQ : Hid (∀ k, 0 ≤ sm (W.take k) ∧ sm (W.take k) ≤ sm W ∧ 0 ≤ pay * sm (W.take k) ∧ pay * sm (W.take k) ≤ 4000000000000000000 ∧ 0 ≤ qP pay W k ∧ qP pay W k ≤ 1000000000) := Lib.hid (fun k => qP_bd r0 r1 (fun x hx => (HWb.out x hx).1) (by rw [HAL.out]; omega) (by rw [HAL.out]; exact hS1) k)
      go_wp2_with fail
      go_loopw [12, 13, 51] (fun o b i wr => ∃ (k : Nat) (A1 : Option Addr) (c1 : Nat), k ≤ hs.length ∧ i = .int .i64 k ∧ o = .slice A1 ((dvL pay W).take k).length c1 ∧ b = .int .i64 (sm (W.take k)) ∧ Hid (Own LI 2 wr wq.heap.size A1 c1 ((dvL pay W).take k)) ∧ Hid (Below wq.heap.size wq wr)) (fun _ _ i _ => hs.length - (intOf i).toNat)
      case atStart => exact ⟨0, _, _, by omega, rfl, rfl, rfl, Lib.hid (Own.lit0 wq (Nat.le_refl _) rfl), Lib.hid ((Below.refl _ _).alloc (Nat.le_refl _) _)⟩
      case round =>
        obtain ⟨k, A1, c1, hk, rfl, rfl, rfl, HO1, HB1⟩ := hrel
        have hsz1 := HB1.out.size
        by_cases hlt : k < hs.length
        · have hkW : k < W.length := by rw [HWl.out]; exact hlt
          have hki : (k : Int) < hs.length := by omega
          obtain ⟨g, rfl, hg1, hg2, hcell, hfz⟩ := (HO2.out.below HB1.out).int hkW
          have HD := Lib.hid (dvL_succ pay W hkW)
          have HSM := Lib.hid (sm_succ W hkW)
          have HQ1 := Lib.hid (dv_step (pay := pay) hkW)
          obtain ⟨q0, q1, q2, q3, q4, q5⟩ := hQ.out k
          obtain ⟨t0, t1, t2, t3, t4, t5⟩ := hQ.out (k + 1)
          rw [HSM.out] at t0 t1 t2 t3
          rw [HAL.out] at q1 t1 HQ1
          obtain ⟨v0, v1⟩ := HWb.out _ (List.getElem_mem hkW)
          have HQ0 : Hid (qP pay W k = pay * sm (W.take k) / al) := Lib.hid (by rw [← HAL.out]; rfl)
          have hln : ((dvL pay W).take k).length ≤ 20 := by rw [List.length_take, dvL_len, HWl.out]; omega
          generalize sm (W.take k) = bf at *
          generalize W[k] = wk at *
          generalize (dvL pay W).take k = L1 at *
          obtain ⟨to, hto⟩ : ∃ t, t = bf + wk := ⟨_, rfl⟩
          have e1 : IntKind.i64.wrap (bf + wk) = to := by rw [hto]; exact wrapS (by omega) (by omega)
          have HTO := Lib.hid hto
          rw [← hto] at t0 t1 t2 t3 HQ1
          obtain ⟨P1, hP1⟩ : ∃ t, t = pay * to := ⟨_, rfl⟩
          obtain ⟨P0, hP0⟩ : ∃ t, t = pay * bf := ⟨_, rfl⟩
          rw [← hP1] at t2 t3 HQ1
          rw [← hP0] at q2 q3 HQ0
          have e2 : IntKind.i64.wrap (pay * to) = P1 := by rw [← hP1]; exact wrapS (by omega) (by omega)
          have e3 : IntKind.i64.wrap (pay * bf) = P0 := by rw [← hP0]; exact wrapS (by omega) (by omega)
          clear hto hP1 hP0
          generalize qP pay W (k + 1) = Q1 at *
          generalize qP pay W k = Q0 at *
          have e4 : P1.tdiv al = Q1 := by rw [HQ1.out, Int.tdiv_eq_ediv_of_nonneg t2]
          have e5 : P0.tdiv al = Q0 := by rw [HQ0.out, Int.tdiv_eq_ediv_of_nonneg q2]
          have e6 : P1 / al = Q1 := HQ1.out.symm
          have e7 : P0 / al = Q0 := HQ0.out.symm
          have hz1 : ¬ al = 0 := by omega
          have hz2 : al ≠ 0 := by omega
          have hz3 : (al != 0) = true := by rw [bne_iff_ne]; omega
          have e8 : IntKind.i64.wrap Q1 = Q1 := wrapS (by omega) (by omega)
          have e9 : IntKind.i64.wrap Q0 = Q0 := wrapS (by omega) (by omega)
          have e10 : IntKind.i64.wrap (Q1 - Q0) = Q1 - Q0 := wrapS (by omega) (by omega)
          go_wp2_with fail
          go_region_held3 (fun _ => True) (trivial) ((refine stepL_app1 (L := LI) rowI rfl rfl _ _ rfl rfl (HO1.out.alloc _) (Q1 - Q0) rfl ?_ (by unfold maxLen; omega) (by omega) (by simp; omega) ?_; (focus (intro j v hv; cases j <;> simp [LI] at hv; subst hv; go_simp)); intro A4 c4 w4 ho4 hg4))
          clear e1 e2 e3 e4 e5 e6 e7 e8 e9 e10 hz1 hz2 hz3
          go_wp2_with fail
          go_roundw
          case rel => exact ⟨k + 1, A4, c4, by omega, by go_num, by rw [HD.out]; simp, by rw [HSM.out], Lib.hid (by rw [HD.out]; exact ho4), Lib.hid (Grew.below ((HB1.out.alloc hsz1 _).drew) hg4 (by simp; omega) fun g' hg' => (HO1.out.blk_lt g' hg').1)⟩
          case measure => simp [intOf]; omega
        · obtain rfl : k = hs.length := by omega
          have ho5 : Own LI 2 wr w.heap.size A1 c1 (dvL pay W) := by
            have h := HO1.out
            rw [List.take_of_length_le (by rw [dvL_len, HWl.out]; omega)] at h
            exact h.lower hsz
          rw [List.take_of_length_le (by rw [dvL_len, HWl.out]; omega)]
          have HB2 := Lib.hid (bthen HB.out (Nat.le_refl _) HB1.out)
          go_wp2_with fail
          go_ret2
          exact ⟨A1, c1, by rw [HF.out]; rfl, by rw [HF.out]; exact ho5, HB2.out⟩
end Go.Proofs.Ytofcmljnckdknaa
