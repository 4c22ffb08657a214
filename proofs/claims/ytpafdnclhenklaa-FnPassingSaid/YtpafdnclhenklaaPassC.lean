/-
  Chances: WeakUntil and TestsFor of both.
-/
import Derived.Test.YtpafdnclhenklaaPassB
namespace Go.Proofs.Ytpafdnclhenklaa
open Go.ChangeShapes Go.WideShapes Go.RowKit

/-- the first of m from i on -/
def fstN (p : Nat → Bool) : Nat → Nat → Nat
  | 0, i => i
  | m + 1, i => if p i = true then i else fstN p m (i + 1)
theorem fst_z (p : Nat → Bool) (i : Nat) : fstN p 0 i = i := rfl
theorem fst_yes {p : Nat → Bool} {m i : Nat} (h : p i = true) : fstN p m i = i := by
  cases m with
  | zero => rfl
  | succ m => exact if_pos h
theorem fst_no {p : Nat → Bool} {m i : Nat} (h : p i = false) : fstN p (m + 1) i = fstN p m (i + 1) := if_neg (by rw [h]; decide)
theorem fst_all (p : Nat → Bool) : ∀ (m i : Nat), i ≤ fstN p m i ∧ fstN p m i ≤ i + m ∧ (∀ j, i ≤ j → j < fstN p m i → p j = false) ∧ (fstN p m i < i + m → p (fstN p m i) = true)
  | 0, i => ⟨Nat.le_refl _, Nat.le_refl _, fun j h1 h2 => absurd (show j < i from h2) (by omega), fun h => absurd (show i < i + 0 from h) (by omega)⟩
  | m + 1, i => by
    cases h : p i
    · obtain ⟨h1, h2, h3, h4⟩ := fst_all p m (i + 1)
      rw [fst_no h]
      refine ⟨by omega, by omega, fun j a b => ?_, fun a => h4 (by omega)⟩
      by_cases e : j = i
      · rw [e]; exact h
      · exact h3 j (by omega) b
    · rw [fst_yes h]
      exact ⟨Nat.le_refl _, by omega, fun j a b => absurd b (by omega), fun _ => h⟩
def cnF (l k t a : Nat) : Int × Int := (((chN l k t a).1 : Nat), ((chN l k t a).2 : Nat))
def wuQ (l t a : Nat) (c : Int × Int) (i : Nat) : Bool := lssB (cnF l (i + 1) t a) c
def wuP (lot tested allowed num den : Int) : Int × Int :=
  if chcB num den = true ∧ plC lot 0 tested allowed = 0 then ((fstN (wuQ lot.toNat tested.toNat allowed.toNat (num, den)) lot.toNat 0 : Nat), 0) else (0, if chcB num den = true then plC lot 0 tested allowed else 2)
theorem wuP_no1 {lot tested allowed num den : Int} (h : chcB num den = false) : wuP lot tested allowed num den = (0, 2) := by unfold wuP; rw [if_neg (by rw [h]; simp), if_neg (by rw [h]; simp)]
theorem wuP_no2 {lot tested allowed num den : Int} (h : chcB num den = true) (h2 : plC lot 0 tested allowed ≠ 0) : wuP lot tested allowed num den = (0, plC lot 0 tested allowed) := by unfold wuP; rw [if_neg (by simp [h2]), if_pos h]
theorem wuP_ok {num den : Int} {l t a : Nat} (h : chcB num den = true) (h2 : plC l 0 t a = 0) : wuP l t a num den = (((fstN (wuQ l t a (num, den)) l 0 : Nat) : Int), 0) := by unfold wuP; rw [if_pos ⟨h, h2⟩]; simp
theorem plC0_ok {lot tested allowed : Int} (h : plC lot 0 tested allowed = 0) : ∃ l t a : Nat, lot = l ∧ tested = t ∧ allowed = a ∧ 1 ≤ l ∧ l ≤ 60 ∧ 1 ≤ t ∧ t ≤ l ∧ t ≤ 10 ∧ a ≤ t := by
  obtain ⟨l, k, t, a, h1, h2, h3, h4, h5, h6, h7, h8, h9, h10, h11⟩ := plC_ok h
  exact ⟨l, t, a, h1, h3, h4, h5, h6, h8, h9, h10, h11⟩
theorem chcB_yes {num den : Int} (h : chcB num den = true) : 0 ≤ num ∧ num ≤ den ∧ 1 ≤ den ∧ den ≤ 1000 := by
  unfold chcB at h
  rw [Bool.and_eq_true] at h
  have a1 := inB_yes h.1
  have a2 := inB_yes h.2
  omega
/-- products of a chance and a limit -/
theorem prod_bd {f1 f2 c1 c2 : Int} (hf1 : 0 ≤ f1) (hf2 : f1 ≤ f2) (hf3 : f2 ≤ 75394027566) (hc1 : 0 ≤ c1) (hc2 : c1 ≤ c2) (hc3 : c2 ≤ 1000) : 0 ≤ f1 * c2 ∧ f1 * c2 ≤ 75394027566000 ∧ 0 ≤ c1 * f2 ∧ c1 * f2 ≤ 75394027566000 := by
  have p1 : f1 * c2 ≤ 75394027566 * 1000 := Int.mul_le_mul (by omega) hc3 (by omega) (by omega)
  have p2 : c1 * f2 ≤ 1000 * 75394027566 := Int.mul_le_mul (by omega) hf3 (by omega) (by omega)
  have p3 := Int.mul_nonneg hf1 (show 0 ≤ c2 by omega)
  have p4 := Int.mul_nonneg hc1 (show 0 ≤ f2 by omega)
  omega
theorem less2_any (f1 f2 c1 c2 : Int) (h1 : 0 ≤ f1 * c2) (h2 : f1 * c2 ≤ 75394027566000) (h3 : 0 ≤ c1 * f2) (h4 : c1 * f2 ≤ 75394027566000) (w : World) :
    Calls Try.prog 41 #[.agg #[.int .i64 f1, .int .i64 f2], .agg #[.int .i64 c1, .int .i64 c2]] w fun e w' => e = .returned (.bool (lssB (f1, f2) (c1, c2))) ∧ Below w.heap.size w w' := by
  have hb0 : Below w.heap.size w ((w.alloc (.cells #[.int .i64 f1, .int .i64 f2] 27)).alloc (.cells #[.int .i64 c1, .int .i64 c2] 27)) := ((Below.refl _ w).alloc (Nat.le_refl _) _).alloc (by simp) _
  obtain ⟨u, hu⟩ : ∃ u, u = f1 * c2 := ⟨_, rfl⟩
  obtain ⟨v, hv⟩ : ∃ v, v = c1 * f2 := ⟨_, rfl⟩
  have e1 : IntKind.i64.wrap (f1 * c2) = u := by rw [hu]; exact wrapS (by omega) (by omega)
  have e2 : IntKind.i64.wrap (c1 * f2) = v := by rw [hv]; exact wrapS (by omega) (by omega)
  have HL : Hid (lssB (f1, f2) (c1, c2) = decide (u < v)) := Lib.hid (by rw [hu, hv]; rfl)
  rw [HL.out]
  clear hu hv h1 h2 h3 h4
  go_enter Try.func41, Try.ntmps41
  go_wp2_with fail
  go_ret
  exact ⟨rfl, hb0⟩
set_option maxRecDepth 100000 in
set_option maxHeartbeats 1600000 in
theorem implWeakUntil_any (lot tested allowed num den : Int) (w : World) :
    Calls Try.prog 12 #[.int .i64 lot, .int .i64 tested, .int .i64 allowed, .agg #[.int .i64 num, .int .i64 den]] w fun e w' => e = .returned (.tuple #[.int .i64 (wuP lot tested allowed num den).1, .int .i64 (wuP lot tested allowed num den).2]) ∧ Below w.heap.size w w' := by
  have H1 := Lib.hid (fun W => isLot_any lot 0 W)
  have H2 := Lib.hid (fun W => isTest_any tested allowed W)
  have H3 := Lib.hid (fun W => isChance_any num den W)
  obtain ⟨FIN, hF⟩ : ∃ F, F = wuP lot tested allowed num den := ⟨_, rfl⟩
  rw [← hF]
  have hb0 : Below w.heap.size w (w.alloc (.cells #[.int .i64 num, .int .i64 den] 27)) := (Below.refl _ w).alloc (Nat.le_refl _) _
  cases c1 : lotB lot 0
  · have HP : Hid (FIN = (0, 2)) := Lib.hid (by
      have h : plC lot 0 tested allowed = 2 := by simp [plC, c1]
      rw [hF]
      cases c : chcB num den
      · exact wuP_no1 c
      · rw [wuP_no2 c (by omega), h])
    have HA : Hid (∀ W, Calls Try.prog 33 #[.int .i64 lot, .int .i64 0] W fun e w' => e = .returned (.bool false) ∧ W = w') := Lib.hid fun W => by rw [← c1]; exact H1.out W
    clear c1 hF
    rw [HP.out]
    go_enter Try.func12, Try.ntmps12
    go_wp2_with fail
    refine (HA.out _).mono ?_
    rintro e w1 ⟨rfl, rfl⟩
    go_wp2_with fail
    go_ret2
    exact ⟨rfl, hb0⟩
  have HA : Hid (∀ W, Calls Try.prog 33 #[.int .i64 lot, .int .i64 0] W fun e w' => e = .returned (.bool true) ∧ W = w') := Lib.hid fun W => by rw [← c1]; exact H1.out W
  cases c2 : tstB tested allowed
  · have HP : Hid (FIN = (0, 2)) := Lib.hid (by
      have h : plC lot 0 tested allowed = 2 := by simp [plC, c2]
      rw [hF]
      cases c : chcB num den
      · exact wuP_no1 c
      · rw [wuP_no2 c (by omega), h])
    have HB : Hid (∀ W, Calls Try.prog 34 #[.int .i64 tested, .int .i64 allowed] W fun e w' => e = .returned (.bool false) ∧ W = w') := Lib.hid fun W => by rw [← c2]; exact H2.out W
    clear c1 c2 hF
    rw [HP.out]
    go_enter Try.func12, Try.ntmps12
    go_wp2_with fail
    refine (HA.out _).mono ?_
    rintro e w1 ⟨rfl, rfl⟩
    go_wp2_with fail
    refine (HB.out _).mono ?_
    rintro e w1 ⟨rfl, rfl⟩
    go_wp2_with fail
    go_ret2
    exact ⟨rfl, hb0⟩
  have HB : Hid (∀ W, Calls Try.prog 34 #[.int .i64 tested, .int .i64 allowed] W fun e w' => e = .returned (.bool true) ∧ W = w') := Lib.hid fun W => by rw [← c2]; exact H2.out W
  cases c3 : chcB num den
  · have HP : Hid (FIN = (0, 2)) := Lib.hid (by rw [hF]; exact wuP_no1 c3)
    have HC : Hid (∀ W, Calls Try.prog 39 #[.agg #[.int .i64 num, .int .i64 den]] W fun e w' => e = .returned (.bool false) ∧ Below W.heap.size W w') := Lib.hid fun W => by rw [← c3]; exact H3.out W
    clear c1 c2 c3 hF
    rw [HP.out]
    go_enter Try.func12, Try.ntmps12
    go_wp2_with fail
    refine (HA.out _).mono ?_
    rintro e w1 ⟨rfl, rfl⟩
    go_wp2_with fail
    refine (HB.out _).mono ?_
    rintro e w1 ⟨rfl, rfl⟩
    go_wp2_with fail
    refine (HC.out _).mono ?_
    rintro e w1 ⟨rfl, hb1⟩
    have HB1 := Lib.hid (bthen hb0 (Nat.le_refl _) hb1)
    go_wp2_with fail
    go_ret2
    exact ⟨rfl, HB1.out⟩
  have HC : Hid (∀ W, Calls Try.prog 39 #[.agg #[.int .i64 num, .int .i64 den]] W fun e w' => e = .returned (.bool true) ∧ Below W.heap.size W w') := Lib.hid fun W => by rw [← c3]; exact H3.out W
  by_cases c4 : lot < tested
  · have HP : Hid (FIN = (0, 6)) := Lib.hid (by
      have h : plC lot 0 tested allowed = 6 := by simp [plC, c1, c2, c4]
      rw [hF, wuP_no2 c3 (by omega), h])
    clear c1 c2 c3 hF
    rw [HP.out]
    go_enter Try.func12, Try.ntmps12
    go_wp2_with fail
    refine (HA.out _).mono ?_
    rintro e w1 ⟨rfl, rfl⟩
    go_wp2_with fail
    refine (HB.out _).mono ?_
    rintro e w1 ⟨rfl, rfl⟩
    go_wp2_with fail
    refine (HC.out _).mono ?_
    rintro e w1 ⟨rfl, hb1⟩
    have HB1 := Lib.hid (bthen hb0 (Nat.le_refl _) hb1)
    go_wp2_with fail
    go_ret2
    exact ⟨rfl, HB1.out⟩
  have h0 : plC lot 0 tested allowed = 0 := by simp [plC, c1, c2, c4]
  have c5 : tested ≤ lot := by omega
  obtain ⟨l, t, a, rfl, rfl, rfl, b1, b2, b3, b4, b5, b6⟩ := plC0_ok h0
  obtain ⟨n0, n1, n2, n3⟩ := chcB_yes c3
  obtain ⟨Q, hQ⟩ : ∃ Q, Q = fstN (wuQ l t a (num, den)) l 0 := ⟨_, rfl⟩
  have HP : Hid (FIN = ((Q : Int), 0)) := Lib.hid (by rw [hF, wuP_ok c3 h0, hQ])
  have HQ := Lib.hid hQ
  have HPC : Hid (∀ (k : Nat), k ≤ l → ∃ f1 f2 : Int, cnF l k t a = (f1, f2) ∧ 0 ≤ f1 ∧ f1 ≤ f2 ∧ f2 ≤ 75394027566 ∧ ∀ W, Calls Try.prog 35 #[.int .i64 l, .int .i64 k, .int .i64 t, .int .i64 a] W fun e w' => e = .returned (.agg #[.int .i64 f1, .int .i64 f2]) ∧ Below W.heap.size W w') := Lib.hid (fun k hk => by
    have hb := ch_bd (lot := l) (weak := k) (tested := t) (allowed := a) b2 hk b4 b5 b6
    exact ⟨_, _, rfl, by omega, by omega, by omega, fun W => passChance_any l k t a b2 hk b4 b5 b6 W⟩)
  have d1 : decide (l < t) = false := by simp; omega
  clear c1 c2 c3 hF hQ h0 H1 H2 H3 c4
  rw [HP.out]
  go_enter Try.func12, Try.ntmps12
  go_wp2_with fail
  refine (HA.out _).mono ?_
  rintro e w1 ⟨rfl, rfl⟩
  go_wp2_with fail
  refine (HB.out _).mono ?_
  rintro e w1 ⟨rfl, rfl⟩
  go_wp2_with fail
  refine (HC.out _).mono ?_
  rintro e w1 ⟨rfl, hb1⟩
  have q0 : w1.cell? ⟨w.heap.size, 0, none⟩ = some (.int .i64 num) := by rw [hb1.cell (p := ⟨w.heap.size, 0, none⟩) (by simp)]; go_simp
  have q1 : w1.cell? ⟨w.heap.size, 1, none⟩ = some (.int .i64 den) := by rw [hb1.cell (p := ⟨w.heap.size, 1, none⟩) (by simp)]; go_simp
  have hsz := hb1.size
  simp at hsz
  have HB1 := Lib.hid (bthen hb0 (Nat.le_refl _) hb1)
  clear hb1 hb0
  go_wp2_with fail
  go_loopw [10] (fun i wr => ∃ j : Nat, j ≤ l ∧ i = .int .i64 j ∧ Hid (Q = fstN (wuQ l t a (num, den)) (l - j) j) ∧ Hid (Below w1.heap.size w1 wr)) (fun i _ => l - (intOf i).toNat)
  case atStart => exact ⟨0, by omega, rfl, HQ, Lib.hid (Below.refl _ _)⟩
  case round =>
    obtain ⟨j, hj, rfl, HJ, HBR⟩ := hrel
    have hsr := HBR.out.size
    by_cases hlt : j < l
    · have hji : (j : Int) < l := by omega
      obtain ⟨f1, f2, hcn, g0, g1, g2, hc⟩ := HPC.out (j + 1) (by omega)
      have HC2 := Lib.hid hc
      clear hc
      obtain ⟨p1, p2, p3, p4⟩ := prod_bd g0 g1 g2 n0 n1 n3
      obtain ⟨u, hu⟩ : ∃ u, u = f1 * den := ⟨_, rfl⟩
      obtain ⟨v, hv⟩ : ∃ v, v = num * f2 := ⟨_, rfl⟩
      have e1 : IntKind.i64.wrap (f1 * den) = u := by rw [hu]; exact wrapS (by omega) (by omega)
      have e2 : IntKind.i64.wrap (num * f2) = v := by rw [hv]; exact wrapS (by omega) (by omega)
      have hq : wuQ l t a (num, den) j = decide (u < v) := by unfold wuQ; rw [hcn, hu, hv]; rfl
      clear hu hv p1 p2 p3 p4
      by_cases huv : u < v
      · have HR : Hid (Q = j) := Lib.hid (by rw [HJ.out, fst_yes (by rw [hq]; simpa using huv)])
        clear hq
        go_wp2_with fail
        refine (HC2.out _).mono ?_
        rintro e w3 ⟨rfl, hb3⟩
        have k0 : w3.cell? ⟨w.heap.size, 0, none⟩ = some (.int .i64 num) := by rw [hb3.cell (p := ⟨w.heap.size, 0, none⟩) (by simp; omega), HBR.out.cell (p := ⟨w.heap.size, 0, none⟩) (by simp; omega)]; exact q0
        have k1 : w3.cell? ⟨w.heap.size, 1, none⟩ = some (.int .i64 den) := by rw [hb3.cell (p := ⟨w.heap.size, 1, none⟩) (by simp; omega), HBR.out.cell (p := ⟨w.heap.size, 1, none⟩) (by simp; omega)]; exact q1
        have hs3 := hb3.size
        have hg3 : w.heap.size < w3.heap.size := by omega
        have HB3 := Lib.hid (bthen (bthen HB1.out (Nat.le_refl _) HBR.out) (Nat.le_refl _) hb3)
        have hbz := HB3.out.size
        clear hb3
        go_wp2_with fail
        go_ret2
        exact ⟨by rw [HR.out]; rfl, HB3.out.alloc hbz _⟩
      · have huv2 : v ≤ u := by omega
        have HR : Hid (Q = fstN (wuQ l t a (num, den)) (l - (j + 1)) (j + 1)) := Lib.hid (by rw [HJ.out, show l - j = (l - (j + 1)) + 1 by omega, fst_no (by rw [hq]; simpa using huv2)])
        clear hq huv
        go_wp2_with fail
        refine (HC2.out _).mono ?_
        rintro e w3 ⟨rfl, hb3⟩
        have k0 : w3.cell? ⟨w.heap.size, 0, none⟩ = some (.int .i64 num) := by rw [hb3.cell (p := ⟨w.heap.size, 0, none⟩) (by simp; omega), HBR.out.cell (p := ⟨w.heap.size, 0, none⟩) (by simp; omega)]; exact q0
        have k1 : w3.cell? ⟨w.heap.size, 1, none⟩ = some (.int .i64 den) := by rw [hb3.cell (p := ⟨w.heap.size, 1, none⟩) (by simp; omega), HBR.out.cell (p := ⟨w.heap.size, 1, none⟩) (by simp; omega)]; exact q1
        have hs3 := hb3.size
        have hg3 : w.heap.size < w3.heap.size := by omega
        have HB3 := Lib.hid (bthen HBR.out (Nat.le_refl _) hb3)
        have hbz := HB3.out.size
        clear hb3
        go_wp2_with fail
        go_roundw
        case rel => exact ⟨j + 1, by omega, by go_num, HR, Lib.hid (HB3.out.alloc hbz _)⟩
        case measure => simp [intOf]; omega
    · have hji : (l : Int) ≤ j := by omega
      have HR : Hid (Q = j) := Lib.hid (by rw [HJ.out, show l - j = 0 by omega]; rfl)
      have HB3 := Lib.hid (bthen HB1.out (Nat.le_refl _) HBR.out)
      go_wp2_with fail
      go_ret2
      exact ⟨by rw [HR.out]; rfl, HB3.out⟩
end Go.Proofs.Ytpafdnclhenklaa
