/-
  Chances: WeakUntil and TestsFor of the reference.
-/
import Derived.Test.YtpafdnclhenklaaPassD
namespace Go.Proofs.Ytpafdnclhenklaa
open Go.ChangeShapes Go.WideShapes Go.RowKit

theorem l00Min_any (x y : Int) (w : World) : Calls Try.prog 46 #[.int .i64 x, .int .i64 y] w fun e w' => e = .returned (.int .i64 (min x y)) ∧ w = w' := by
  by_cases h : x < y
  · have HM : Hid (min x y = x) := Lib.hid (by omega)
    rw [HM.out]
    go_enter Try.func46, Try.ntmps46
    go_wp2_with fail
    go_ret
    exact ⟨rfl, rfl⟩
  · have HM : Hid (min x y = y) := Lib.hid (by omega)
    have h2 : y ≤ x := by omega
    rw [HM.out]
    go_enter Try.func46, Try.ntmps46
    go_wp2_with fail
    go_ret
    exact ⟨rfl, rfl⟩
set_option maxRecDepth 100000 in
set_option maxHeartbeats 1600000 in
theorem specWeakUntil_any (lot tested allowed num den : Int) (w : World) :
    Calls Try.prog 13 #[.int .i64 lot, .int .i64 tested, .int .i64 allowed, .agg #[.int .i64 num, .int .i64 den]] w fun e w' => e = .returned (.tuple #[.int .i64 (wuP lot tested allowed num den).1, .int .i64 (wuP lot tested allowed num den).2]) ∧ Below w.heap.size w w' := by
  have HL := Lib.hid (fun W => l19Lot_any lot 0 tested allowed W)
  have H3 := Lib.hid (fun W => l19Fraction_any num den W)
  obtain ⟨FIN, hF⟩ : ∃ F, F = wuP lot tested allowed num den := ⟨_, rfl⟩
  rw [← hF]
  have hb0 : Below w.heap.size w (w.alloc (.cells #[.int .i64 num, .int .i64 den] 27)) := (Below.refl _ w).alloc (Nat.le_refl _) _
  cases c3 : chcB num den
  · have HP : Hid (FIN = (0, 2)) := Lib.hid (by rw [hF]; exact wuP_no1 c3)
    have HC : Hid (∀ W, Calls Try.prog 40 #[.agg #[.int .i64 num, .int .i64 den]] W fun e w' => e = .returned (.bool false) ∧ Below W.heap.size W w') := Lib.hid fun W => by rw [← c3]; exact H3.out W
    clear c3 hF
    rw [HP.out]
    go_enter Try.func13, Try.ntmps13
    go_wp2_with fail
    refine (HL.out _).mono ?_
    rintro e w1 ⟨rfl, rfl⟩
    go_wp2_with fail
    refine (HC.out _).mono ?_
    rintro e w1 ⟨rfl, hb1⟩
    have HB1 := Lib.hid (bthen hb0 (Nat.le_refl _) hb1)
    go_wp2_with fail
    go_ret2
    exact ⟨rfl, HB1.out⟩
  have HC : Hid (∀ W, Calls Try.prog 40 #[.agg #[.int .i64 num, .int .i64 den]] W fun e w' => e = .returned (.bool true) ∧ Below W.heap.size W w') := Lib.hid fun W => by rw [← c3]; exact H3.out W
  by_cases h0 : plC lot 0 tested allowed = 0
  rotate_left
  · have HP : Hid (FIN = (0, plC lot 0 tested allowed)) := Lib.hid (by rw [hF]; exact wuP_no2 c3 h0)
    have hne : (plC lot 0 tested allowed != 0) = true := by rw [bne_iff_ne]; exact h0
    clear c3 hF
    rw [HP.out]
    generalize plC lot 0 tested allowed = code at *
    go_enter Try.func13, Try.ntmps13
    go_wp2_with fail
    refine (HL.out _).mono ?_
    rintro e w1 ⟨rfl, rfl⟩
    go_wp2_with fail
    refine (HC.out _).mono ?_
    rintro e w1 ⟨rfl, hb1⟩
    have HB1 := Lib.hid (bthen hb0 (Nat.le_refl _) hb1)
    go_wp2_with fail
    go_ret2
    exact ⟨rfl, HB1.out⟩
  rw [h0] at HL
  obtain ⟨l, t, a, rfl, rfl, rfl, b1, b2, b3, b4, b5, b6⟩ := plC0_ok h0
  obtain ⟨n0, n1, n2, n3⟩ := chcB_yes c3
  obtain ⟨Q, hQ⟩ : ∃ Q, Q = fstN (wuQ l t a (num, den)) l 0 := ⟨_, rfl⟩
  have HP : Hid (FIN = ((Q : Int), 0)) := Lib.hid (by rw [hF, wuP_ok c3 h0, hQ])
  have HQ := Lib.hid hQ
  have HPC : Hid (∀ (k : Nat), k ≤ l → ∃ f1 f2 : Int, cnF l k t a = (f1, f2) ∧ 0 ≤ f1 ∧ f1 ≤ f2 ∧ f2 ≤ 75394027566 ∧ ∀ W, Calls Try.prog 37 #[.int .i64 l, .int .i64 k, .int .i64 t, .int .i64 a] W fun e w' => e = .returned (.agg #[.int .i64 f1, .int .i64 f2]) ∧ Below W.heap.size W w') := Lib.hid (fun k hk => by
    have hb := ch_bd (lot := l) (weak := k) (tested := t) (allowed := a) b2 hk b4 b5 b6
    exact ⟨_, _, rfl, by omega, by omega, by omega, fun W => l19Chance_any l k t a b2 hk b4 b5 b6 W⟩)
  clear c3 hF hQ h0 H3
  rw [HP.out]
  go_enter Try.func13, Try.ntmps13
  go_wp2_with fail
  refine (HL.out _).mono ?_
  rintro e w1 ⟨rfl, rfl⟩
  go_wp2_with fail
  refine (HC.out _).mono ?_
  rintro e w1 ⟨rfl, hb1⟩
  have q0 : w1.cell? ⟨w.heap.size, 0, none⟩ = some (.int .i64 num) := by rw [hb1.cell (p := ⟨w.heap.size, 0, none⟩) (by simp)]; go_simp
  have q1 : w1.cell? ⟨w.heap.size, 1, none⟩ = some (.int .i64 den) := by rw [hb1.cell (p := ⟨w.heap.size, 1, none⟩) (by simp)]; go_simp
  have hsz := hb1.size
  simp at hsz
  have HB1 := Lib.hid (bthen hb0 (Nat.le_refl _) hb1)
  clear hb1 hb0
  go_wp2_with fail
  go_loopw [11, 12] (fun b i wr => ∃ j : Nat, j ≤ l ∧ b = .int .i64 j ∧ i = .int .i64 ((j : Int) + 1) ∧ Hid (Q = fstN (wuQ l t a (num, den)) (l - j) j) ∧ Hid (Below w1.heap.size w1 wr)) (fun b _ _ => l - (intOf b).toNat)
  case atStart => exact ⟨0, by omega, rfl, rfl, HQ, Lib.hid (Below.refl _ _)⟩
  case round =>
    obtain ⟨j, hj, rfl, rfl, HJ, HBR⟩ := hrel
    have hsr := HBR.out.size
    have k0 : wr.cell? ⟨w.heap.size, 0, none⟩ = some (.int .i64 num) := by rw [HBR.out.cell (p := ⟨w.heap.size, 0, none⟩) (by simp; omega)]; exact q0
    have k1 : wr.cell? ⟨w.heap.size, 1, none⟩ = some (.int .i64 den) := by rw [HBR.out.cell (p := ⟨w.heap.size, 1, none⟩) (by simp; omega)]; exact q1
    have hg3 : w.heap.size < wr.heap.size := by omega
    by_cases hlt : j < l
    · have hji : (j : Int) + 1 ≤ l := by omega
      obtain ⟨f1, f2, hcn, g0, g1, g2, hc⟩ := HPC.out (j + 1) (by omega)
      have hj1 : (((j + 1 : Nat)) : Int) = (j : Int) + 1 := by omega
      rw [hj1] at hc
      have HC2 := Lib.hid hc
      clear hc
      obtain ⟨p1, p2, p3, p4⟩ := prod_bd g0 g1 g2 n0 n1 n3
      have hq : wuQ l t a (num, den) j = lssB (f1, f2) (num, den) := by unfold wuQ; rw [hcn]
      have HLS := Lib.hid (fun W => less2_any f1 f2 num den p1 p2 p3 p4 W)
      clear p1 p2 p3 p4
      cases huv : lssB (f1, f2) (num, den)
      · have HR : Hid (Q = fstN (wuQ l t a (num, den)) (l - (j + 1)) (j + 1)) := Lib.hid (by rw [HJ.out, show l - j = (l - (j + 1)) + 1 by omega, fst_no (by rw [hq]; exact huv)])
        rw [huv] at HLS
        clear hq huv hcn
        go_wp2_with fail
        go_region_held3 (fun X => X.cell? ⟨w.heap.size, 0, none⟩ = some (.int .i64 num) ∧ X.cell? ⟨w.heap.size, 1, none⟩ = some (.int .i64 den))
          (first | go_keep | (go_split_ands; have hs3 := hb3.size; (try simp at hs3); refine ⟨?_, ?_⟩ <;> (refine (hb4.cell ?_).trans ?_; (focus (simp <;> omega)); (first | assumption | (go_simp; assumption)))) | (go_split_ands; refine ⟨?_, ?_⟩ <;> (refine (hb3.cell ?_).trans ?_; (focus (simp <;> omega)); assumption)))
          (first | (go_at_call 37; (with_reducible refine (HC2.out _).mono ?_); rintro e w3 ⟨rfl, hb3⟩) | (go_at_call 41; (with_reducible refine (HLS.out _).mono ?_); rintro e w4 ⟨rfl, hb4⟩))
        have HB3 := Lib.hid (by first | exact bthen (bthen HBR.out (Nat.le_refl _) hb3) (Nat.le_refl _) hb4 | exact bthen (bthen HBR.out.drew (Nat.le_refl _) hb3) (Nat.le_refl _) hb4)
        clear hb3 hb4
        go_wp2_with fail
        go_roundw
        case rel => exact ⟨j + 1, by omega, by go_num, by go_num, HR, HB3⟩
        case measure => simp [intOf]; omega
      · have HR : Hid (Q = j) := Lib.hid (by rw [HJ.out, fst_yes (by rw [hq]; exact huv)])
        rw [huv] at HLS
        clear hq huv hcn
        go_wp2_with fail
        go_region_held3 (fun X => X.cell? ⟨w.heap.size, 0, none⟩ = some (.int .i64 num) ∧ X.cell? ⟨w.heap.size, 1, none⟩ = some (.int .i64 den))
          (first | go_keep | (go_split_ands; have hs3 := hb3.size; (try simp at hs3); refine ⟨?_, ?_⟩ <;> (refine (hb4.cell ?_).trans ?_; (focus (simp <;> omega)); (first | assumption | (go_simp; assumption)))) | (go_split_ands; refine ⟨?_, ?_⟩ <;> (refine (hb3.cell ?_).trans ?_; (focus (simp <;> omega)); assumption)))
          (first | (go_at_call 37; (with_reducible refine (HC2.out _).mono ?_); rintro e w3 ⟨rfl, hb3⟩) | (go_at_call 41; (with_reducible refine (HLS.out _).mono ?_); rintro e w4 ⟨rfl, hb4⟩))
        have HB3 := Lib.hid (by first | exact bthen (bthen HBR.out (Nat.le_refl _) hb3) (Nat.le_refl _) hb4 | exact bthen (bthen HBR.out.drew (Nat.le_refl _) hb3) (Nat.le_refl _) hb4)
        clear hb3 hb4
        go_wp2_with fail
        go_ret2
        exact ⟨by rw [HR.out]; rfl, bthen HB1.out (Nat.le_refl _) HB3.out⟩
    · have hji : (l : Int) < (j : Int) + 1 := by omega
      have HR : Hid (Q = j) := Lib.hid (by rw [HJ.out, show l - j = 0 by omega]; rfl)
      have HB3 := Lib.hid (bthen HB1.out (Nat.le_refl _) HBR.out)
      go_wp2_with fail
      go_ret2
      exact ⟨by rw [HR.out]; rfl, HB3.out⟩
set_option maxRecDepth 100000 in
set_option maxHeartbeats 1600000 in
theorem specTestsFor_any (lot weak allowed num den : Int) (w : World) :
    Calls Try.prog 16 #[.int .i64 lot, .int .i64 weak, .int .i64 allowed, .agg #[.int .i64 num, .int .i64 den]] w fun e w' => e = .returned (.tuple #[.int .i64 (tfP lot weak allowed num den).1, .int .i64 (tfP lot weak allowed num den).2]) ∧ Below w.heap.size w w' := by
  have H3 := Lib.hid (fun W => l19Fraction_any num den W)
  obtain ⟨FIN, hF⟩ : ∃ F, F = tfP lot weak allowed num den := ⟨_, rfl⟩
  rw [← hF]
  have hb0 : Below w.heap.size w (w.alloc (.cells #[.int .i64 num, .int .i64 den] 27)) := (Below.refl _ w).alloc (Nat.le_refl _) _
  have I1 := Lib.hid (fun W => l00In_any lot 1 60 W)
  have I2 := Lib.hid (fun W => l00In_any weak 0 lot W)
  have I3 := Lib.hid (fun W => l00In_any allowed 0 9 W)
  cases c1 : inB lot 1 60
  · have HP : Hid (FIN = (0, 2)) := Lib.hid (by rw [hF]; exact tfP_no (by simp [tfB, lotB, c1]))
    rw [c1] at I1
    clear c1 hF
    rw [HP.out]
    go_enter Try.func16, Try.ntmps16
    go_wp2_with fail
    refine (I1.out _).mono ?_
    rintro e w1 ⟨rfl, rfl⟩
    go_wp2_with fail
    go_ret2
    exact ⟨rfl, hb0⟩
  rw [c1] at I1
  cases c2 : inB weak 0 lot
  · have HP : Hid (FIN = (0, 2)) := Lib.hid (by rw [hF]; exact tfP_no (by simp [tfB, lotB, c2]))
    rw [c2] at I2
    clear c1 c2 hF
    rw [HP.out]
    go_enter Try.func16, Try.ntmps16
    go_wp2_with fail
    refine (I1.out _).mono ?_
    rintro e w1 ⟨rfl, rfl⟩
    go_wp2_with fail
    refine (I2.out _).mono ?_
    rintro e w1 ⟨rfl, rfl⟩
    go_wp2_with fail
    go_ret2
    exact ⟨rfl, hb0⟩
  rw [c2] at I2
  cases c4 : inB allowed 0 9
  · have HP : Hid (FIN = (0, 2)) := Lib.hid (by rw [hF]; exact tfP_no (by simp [tfB, c4]))
    rw [c4] at I3
    clear c1 c2 c4 hF
    rw [HP.out]
    go_enter Try.func16, Try.ntmps16
    go_wp2_with fail
    refine (I1.out _).mono ?_
    rintro e w1 ⟨rfl, rfl⟩
    go_wp2_with fail
    refine (I2.out _).mono ?_
    rintro e w1 ⟨rfl, rfl⟩
    go_wp2_with fail
    refine (I3.out _).mono ?_
    rintro e w1 ⟨rfl, rfl⟩
    go_wp2_with fail
    go_ret2
    exact ⟨rfl, hb0⟩
  rw [c4] at I3
  cases c3 : chcB num den
  · have HP : Hid (FIN = (0, 2)) := Lib.hid (by rw [hF]; exact tfP_no (by simp [tfB, c3]))
    have HC : Hid (∀ W, Calls Try.prog 40 #[.agg #[.int .i64 num, .int .i64 den]] W fun e w' => e = .returned (.bool false) ∧ Below W.heap.size W w') := Lib.hid fun W => by rw [← c3]; exact H3.out W
    clear c1 c2 c3 c4 hF
    rw [HP.out]
    go_enter Try.func16, Try.ntmps16
    go_wp2_with fail
    refine (I1.out _).mono ?_
    rintro e w1 ⟨rfl, rfl⟩
    go_wp2_with fail
    refine (I2.out _).mono ?_
    rintro e w1 ⟨rfl, rfl⟩
    go_wp2_with fail
    refine (I3.out _).mono ?_
    rintro e w1 ⟨rfl, rfl⟩
    go_wp2_with fail
    refine (HC.out _).mono ?_
    rintro e w1 ⟨rfl, hb1⟩
    have HB1 := Lib.hid (bthen hb0 (Nat.le_refl _) hb1)
    go_wp2_with fail
    go_ret2
    exact ⟨rfl, HB1.out⟩
  have HC : Hid (∀ W, Calls Try.prog 40 #[.agg #[.int .i64 num, .int .i64 den]] W fun e w' => e = .returned (.bool true) ∧ Below W.heap.size W w') := Lib.hid fun W => by rw [← c3]; exact H3.out W
  have h0 : tfB lot weak allowed num den = true := by simp [tfB, lotB, c1, c2, c3, c4]
  clear c1 c2 c4
  obtain ⟨l, k, a, rfl, rfl, rfl, b1, b2, b3, b4, n0, n1, n2, n3⟩ := tfB_ok h0
  obtain ⟨Q, hQ⟩ : ∃ Q, Q = fstN (tfQ l k a (num, den)) (min 10 l) 0 := ⟨_, rfl⟩
  obtain ⟨M, hM⟩ : ∃ M, M = min 10 l := ⟨_, rfl⟩
  have HP : Hid (FIN = if Q < M then (((Q + 1 : Nat) : Int), 0) else (0, 3)) := Lib.hid (by rw [hF, tfP_ok h0, hQ, hM]; rfl)
  rw [← hM] at hQ
  have hMl : M ≤ l := by omega
  have hM10 : M ≤ 10 := by omega
  have hMi : min (l : Int) 10 = (M : Int) := by omega
  have HQ := Lib.hid hQ
  have HMI := Lib.hid (fun W => l00Min_any (l : Int) 10 W)
  rw [hMi] at HMI
  have HPC : Hid (∀ (t : Nat), 1 ≤ t → t ≤ M → ∃ f1 f2 : Int, cnF l k t (min a t) = (f1, f2) ∧ 0 ≤ f1 ∧ f1 ≤ f2 ∧ f2 ≤ 75394027566 ∧ ∀ W, Calls Try.prog 37 #[.int .i64 l, .int .i64 k, .int .i64 t, .int .i64 ((min a t : Nat) : Int)] W fun e w' => e = .returned (.agg #[.int .i64 f1, .int .i64 f2]) ∧ Below W.heap.size W w') := Lib.hid (fun t h1 h2 => by
    have hb := ch_bd (lot := l) (weak := k) (tested := t) (allowed := min a t) b2 b3 (by omega) (by omega) (by omega)
    exact ⟨_, _, rfl, by omega, by omega, by omega, fun W => l19Chance_any l k t (min a t) b2 b3 (by omega) (by omega) (by omega) W⟩)
  clear c3 hF hQ h0 H3 hM
  go_enter Try.func16, Try.ntmps16
  go_wp2_with fail
  refine (I1.out _).mono ?_
  rintro e w1 ⟨rfl, rfl⟩
  go_wp2_with fail
  refine (I2.out _).mono ?_
  rintro e w1 ⟨rfl, rfl⟩
  go_wp2_with fail
  refine (I3.out _).mono ?_
  rintro e w1 ⟨rfl, rfl⟩
  go_wp2_with fail
  refine (HC.out _).mono ?_
  rintro e w1 ⟨rfl, hb1⟩
  have q0 : w1.cell? ⟨w.heap.size, 0, none⟩ = some (.int .i64 num) := by rw [hb1.cell (p := ⟨w.heap.size, 0, none⟩) (by simp)]; go_simp
  have q1 : w1.cell? ⟨w.heap.size, 1, none⟩ = some (.int .i64 den) := by rw [hb1.cell (p := ⟨w.heap.size, 1, none⟩) (by simp)]; go_simp
  have hsz := hb1.size
  simp at hsz
  have HB1 := Lib.hid (bthen hb0 (Nat.le_refl _) hb1)
  clear hb1 hb0
  go_wp2_with fail
  go_loopw [10] (fun i wr => ∃ j : Nat, j ≤ M ∧ i = .int .i64 ((j : Int) + 1) ∧ Hid (Q = fstN (tfQ l k a (num, den)) (M - j) j) ∧ Hid (Below w1.heap.size w1 wr)) (fun i _ => M + 1 - (intOf i).toNat)
  case atStart => exact ⟨0, by omega, rfl, HQ, Lib.hid (Below.refl _ _)⟩
  case round =>
    obtain ⟨j, hj, rfl, HJ, HBR⟩ := hrel
    have hsr := HBR.out.size
    have k0 : wr.cell? ⟨w.heap.size, 0, none⟩ = some (.int .i64 num) := by rw [HBR.out.cell (p := ⟨w.heap.size, 0, none⟩) (by simp; omega)]; exact q0
    have k1 : wr.cell? ⟨w.heap.size, 1, none⟩ = some (.int .i64 den) := by rw [HBR.out.cell (p := ⟨w.heap.size, 1, none⟩) (by simp; omega)]; exact q1
    have hg3 : w.heap.size < wr.heap.size := by omega
    by_cases hlt : j < M
    · have hji : (j : Int) + 1 ≤ M := by omega
      obtain ⟨f1, f2, hcn, g0, g1, g2, hc⟩ := HPC.out (j + 1) (by omega) (by omega)
      have hmi : min (a : Int) ((j : Int) + 1) = ((min a (j + 1) : Nat) : Int) := by omega
      have hj1 : (((j + 1 : Nat)) : Int) = (j : Int) + 1 := by omega
      rw [hj1] at hc
      obtain ⟨MA, hMA⟩ : ∃ MA, MA = min a (j + 1) := ⟨_, rfl⟩
      rw [← hMA] at hc hmi
      have HC2 := Lib.hid hc
      have HM2 := Lib.hid (fun W => l00Min_any (a : Int) ((j : Int) + 1) W)
      rw [hmi] at HM2
      clear hc
      obtain ⟨p1, p2, p3, p4⟩ := prod_bd g0 g1 g2 n0 n1 n3
      have hq : tfQ l k a (num, den) j = !lssB (num, den) (f1, f2) := by unfold tfQ; rw [hcn]
      have HLS := Lib.hid (fun W => less2_any num den f1 f2 p3 p4 p1 p2 W)
      clear p1 p2 p3 p4 hMA
      cases huv : lssB (num, den) (f1, f2)
      · have HR : Hid (Q = j) := Lib.hid (by rw [HJ.out, fst_yes (by rw [hq, huv]; rfl)])
        have HR2 : Hid (FIN = ((j : Int) + 1, 0)) := Lib.hid (by rw [HP.out, HR.out, if_pos hlt, hj1])
        rw [huv] at HLS
        clear hq huv hcn
        go_wp2_with (go_at_call 46; (with_reducible refine (HMI.out _).mono ?_); rintro e w5 ⟨rfl, rfl⟩)
        go_region_held3 (fun X => X.cell? ⟨w.heap.size, 0, none⟩ = some (.int .i64 num) ∧ X.cell? ⟨w.heap.size, 1, none⟩ = some (.int .i64 den))
          (first | go_keep | (go_split_ands; have hs3 := hb3.size; (try simp at hs3); refine ⟨?_, ?_⟩ <;> (refine (hb4.cell ?_).trans ?_; (focus (simp <;> omega)); (first | assumption | (go_simp; assumption)))) | (go_split_ands; refine ⟨?_, ?_⟩ <;> (refine (hb3.cell ?_).trans ?_; (focus (simp <;> omega)); (first | assumption | (go_simp; assumption)))))
          (first | (go_at_call 46; (with_reducible refine (HM2.out _).mono ?_); rintro e w5 ⟨rfl, rfl⟩) | (go_at_call 37; (with_reducible refine (HC2.out _).mono ?_); rintro e w3 ⟨rfl, hb3⟩) | (go_at_call 41; (with_reducible refine (HLS.out _).mono ?_); rintro e w4 ⟨rfl, hb4⟩))
        have HB3 := Lib.hid (by first | exact bthen (bthen HBR.out (Nat.le_refl _) hb3) (Nat.le_refl _) hb4 | exact bthen (bthen HBR.out.drew (Nat.le_refl _) hb3) (Nat.le_refl _) hb4)
        clear hb3 hb4
        go_wp2_with fail
        go_ret2
        exact ⟨by rw [HR2.out]; rfl, bthen HB1.out (Nat.le_refl _) HB3.out⟩
      · have HR : Hid (Q = fstN (tfQ l k a (num, den)) (M - (j + 1)) (j + 1)) := Lib.hid (by rw [HJ.out, show M - j = (M - (j + 1)) + 1 by omega, fst_no (by rw [hq, huv]; rfl)])
        rw [huv] at HLS
        clear hq huv hcn
        go_wp2_with (go_at_call 46; (with_reducible refine (HMI.out _).mono ?_); rintro e w5 ⟨rfl, rfl⟩)
        go_region_held3 (fun X => X.cell? ⟨w.heap.size, 0, none⟩ = some (.int .i64 num) ∧ X.cell? ⟨w.heap.size, 1, none⟩ = some (.int .i64 den))
          (first | go_keep | (go_split_ands; have hs3 := hb3.size; (try simp at hs3); refine ⟨?_, ?_⟩ <;> (refine (hb4.cell ?_).trans ?_; (focus (simp <;> omega)); (first | assumption | (go_simp; assumption)))) | (go_split_ands; refine ⟨?_, ?_⟩ <;> (refine (hb3.cell ?_).trans ?_; (focus (simp <;> omega)); (first | assumption | (go_simp; assumption)))))
          (first | (go_at_call 46; (with_reducible refine (HM2.out _).mono ?_); rintro e w5 ⟨rfl, rfl⟩) | (go_at_call 37; (with_reducible refine (HC2.out _).mono ?_); rintro e w3 ⟨rfl, hb3⟩) | (go_at_call 41; (with_reducible refine (HLS.out _).mono ?_); rintro e w4 ⟨rfl, hb4⟩))
        have HB3 := Lib.hid (by first | exact bthen (bthen HBR.out (Nat.le_refl _) hb3) (Nat.le_refl _) hb4 | exact bthen (bthen HBR.out.drew (Nat.le_refl _) hb3) (Nat.le_refl _) hb4)
        clear hb3 hb4
        go_wp2_with fail
        go_roundw
        case rel => exact ⟨j + 1, by omega, by go_num, HR, HB3⟩
        case measure => simp [intOf]; omega
    · have hji : (M : Int) < (j : Int) + 1 := by omega
      have HR : Hid (Q = j) := Lib.hid (by rw [HJ.out, show M - j = 0 by omega]; rfl)
      have HR2 : Hid (FIN = (0, 3)) := Lib.hid (by rw [HP.out, HR.out, if_neg hlt])
      have HB3 := Lib.hid (bthen HB1.out (Nat.le_refl _) HBR.out)
      go_wp2_with (go_at_call 46; (with_reducible refine (HMI.out _).mono ?_); rintro e w5 ⟨rfl, rfl⟩)
      go_ret2
      exact ⟨by rw [HR2.out]; rfl, HB3.out⟩
end Go.Proofs.Ytpafdnclhenklaa
