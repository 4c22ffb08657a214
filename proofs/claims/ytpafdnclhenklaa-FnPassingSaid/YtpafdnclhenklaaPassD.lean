/-
  Chances: TestsFor of the program.
-/
import Derived.Test.YtpafdnclhenklaaPassC
import Derived.Lib.MinMax
namespace Go.Proofs.Ytpafdnclhenklaa
open Go.ChangeShapes Go.WideShapes Go.RowKit

def tfQ (l k a : Nat) (c : Int × Int) (i : Nat) : Bool := !lssB c (cnF l k (i + 1) (min a (i + 1)))
def tfB (lot weak allowed num den : Int) : Bool := lotB lot weak && inB allowed 0 9 && chcB num den
def tfN (l k a : Nat) (c : Int × Int) : Int × Int := if fstN (tfQ l k a c) (min 10 l) 0 < min 10 l then ((((fstN (tfQ l k a c) (min 10 l) 0 + 1 : Nat)) : Int), 0) else (0, 3)
def tfP (lot weak allowed num den : Int) : Int × Int :=
  if tfB lot weak allowed num den = true then tfN lot.toNat weak.toNat allowed.toNat (num, den) else (0, 2)
theorem tfP_no {lot weak allowed num den : Int} (h : tfB lot weak allowed num den = false) : tfP lot weak allowed num den = (0, 2) := if_neg (by rw [h]; decide)
theorem tfB_ok {lot weak allowed num den : Int} (h : tfB lot weak allowed num den = true) : ∃ l k a : Nat, lot = l ∧ weak = k ∧ allowed = a ∧ 1 ≤ l ∧ l ≤ 60 ∧ k ≤ l ∧ a ≤ 9 ∧ 0 ≤ num ∧ num ≤ den ∧ 1 ≤ den ∧ den ≤ 1000 := by
  unfold tfB at h
  rw [Bool.and_eq_true, Bool.and_eq_true] at h
  obtain ⟨⟨h1, h2⟩, h3⟩ := h
  unfold lotB at h1
  rw [Bool.and_eq_true] at h1
  have a1 := inB_yes h1.1
  have a2 := inB_yes h1.2
  have a3 := inB_yes h2
  have a4 := chcB_yes h3
  exact ⟨lot.toNat, weak.toNat, allowed.toNat, by omega, by omega, by omega, by omega, by omega, by omega, by omega, by omega, by omega, by omega, by omega⟩
theorem tfP_ok {num den : Int} {l k a : Nat} (h : tfB l k a num den = true) : tfP l k a num den = tfN l k a (num, den) := by unfold tfP; rw [if_pos h]; simp
set_option maxRecDepth 100000 in
set_option maxHeartbeats 1600000 in
theorem implTestsFor_any (lot weak allowed num den : Int) (w : World) :
    Calls Try.prog 15 #[.int .i64 lot, .int .i64 weak, .int .i64 allowed, .agg #[.int .i64 num, .int .i64 den]] w fun e w' => e = .returned (.tuple #[.int .i64 (tfP lot weak allowed num den).1, .int .i64 (tfP lot weak allowed num den).2]) ∧ Below w.heap.size w w' := by
  have H1 := Lib.hid (fun W => isLot_any lot weak W)
  have H3 := Lib.hid (fun W => isChance_any num den W)
  obtain ⟨FIN, hF⟩ : ∃ F, F = tfP lot weak allowed num den := ⟨_, rfl⟩
  rw [← hF]
  have hb0 : Below w.heap.size w (w.alloc (.cells #[.int .i64 num, .int .i64 den] 27)) := (Below.refl _ w).alloc (Nat.le_refl _) _
  cases c1 : lotB lot weak
  · have HP : Hid (FIN = (0, 2)) := Lib.hid (by rw [hF]; exact tfP_no (by simp [tfB, c1]))
    have HA : Hid (∀ W, Calls Try.prog 33 #[.int .i64 lot, .int .i64 weak] W fun e w' => e = .returned (.bool false) ∧ W = w') := Lib.hid fun W => by rw [← c1]; exact H1.out W
    clear c1 hF
    rw [HP.out]
    go_enter Try.func15, Try.ntmps15
    go_wp2_with fail
    refine (HA.out _).mono ?_
    rintro e w1 ⟨rfl, rfl⟩
    go_wp2_with fail
    go_ret2
    exact ⟨rfl, hb0⟩
  have HA : Hid (∀ W, Calls Try.prog 33 #[.int .i64 lot, .int .i64 weak] W fun e w' => e = .returned (.bool true) ∧ W = w') := Lib.hid fun W => by rw [← c1]; exact H1.out W
  have HI := Lib.hid (fun W => within_any allowed 0 9 W)
  cases c2 : inB allowed 0 9
  · have HP : Hid (FIN = (0, 2)) := Lib.hid (by rw [hF]; exact tfP_no (by simp [tfB, c2]))
    rw [c2] at HI
    clear c1 c2 hF
    rw [HP.out]
    go_enter Try.func15, Try.ntmps15
    go_wp2_with fail
    refine (HA.out _).mono ?_
    rintro e w1 ⟨rfl, rfl⟩
    go_wp2_with fail
    refine (HI.out _).mono ?_
    rintro e w1 ⟨rfl, rfl⟩
    go_wp2_with fail
    go_ret2
    exact ⟨rfl, hb0⟩
  rw [c2] at HI
  cases c3 : chcB num den
  · have HP : Hid (FIN = (0, 2)) := Lib.hid (by rw [hF]; exact tfP_no (by simp [tfB, c3]))
    have HC : Hid (∀ W, Calls Try.prog 39 #[.agg #[.int .i64 num, .int .i64 den]] W fun e w' => e = .returned (.bool false) ∧ Below W.heap.size W w') := Lib.hid fun W => by rw [← c3]; exact H3.out W
    clear c1 c2 c3 hF
    rw [HP.out]
    go_enter Try.func15, Try.ntmps15
    go_wp2_with fail
    refine (HA.out _).mono ?_
    rintro e w1 ⟨rfl, rfl⟩
    go_wp2_with fail
    refine (HI.out _).mono ?_
    rintro e w1 ⟨rfl, rfl⟩
    go_wp2_with fail
    refine (HC.out _).mono ?_
    rintro e w1 ⟨rfl, hb1⟩
    have HB1 := Lib.hid (bthen hb0 (Nat.le_refl _) hb1)
    go_wp2_with fail
    go_ret2
    exact ⟨rfl, HB1.out⟩
  have HC : Hid (∀ W, Calls Try.prog 39 #[.agg #[.int .i64 num, .int .i64 den]] W fun e w' => e = .returned (.bool true) ∧ Below W.heap.size W w') := Lib.hid fun W => by rw [← c3]; exact H3.out W
  have h0 : tfB lot weak allowed num den = true := by simp [tfB, c1, c2, c3]
  obtain ⟨l, k, a, rfl, rfl, rfl, b1, b2, b3, b4, n0, n1, n2, n3⟩ := tfB_ok h0
  obtain ⟨Q, hQ⟩ : ∃ Q, Q = fstN (tfQ l k a (num, den)) (min 10 l) 0 := ⟨_, rfl⟩
  obtain ⟨M, hM⟩ : ∃ M, M = min 10 l := ⟨_, rfl⟩
  have HP : Hid (FIN = if Q < M then (((Q + 1 : Nat) : Int), 0) else (0, 3)) := Lib.hid (by rw [hF, tfP_ok h0, hQ, hM]; rfl)
  rw [← hM] at hQ
  have hMl : M ≤ l := by omega
  have hM10 : M ≤ 10 := by omega
  have hMi : min 10 (l : Int) = (M : Int) := by omega
  have HQ := Lib.hid hQ
  have HPC : Hid (∀ (t : Nat), 1 ≤ t → t ≤ M → ∃ f1 f2 : Int, cnF l k t (min a t) = (f1, f2) ∧ 0 ≤ f1 ∧ f1 ≤ f2 ∧ f2 ≤ 75394027566 ∧ ∀ W, Calls Try.prog 35 #[.int .i64 l, .int .i64 k, .int .i64 t, .int .i64 ((min a t : Nat) : Int)] W fun e w' => e = .returned (.agg #[.int .i64 f1, .int .i64 f2]) ∧ Below W.heap.size W w') := Lib.hid (fun t h1 h2 => by
    have hb := ch_bd (lot := l) (weak := k) (tested := t) (allowed := min a t) b2 b3 (by omega) (by omega) (by omega)
    exact ⟨_, _, rfl, by omega, by omega, by omega, fun W => passChance_any l k t (min a t) b2 b3 (by omega) (by omega) (by omega) W⟩)
  clear c1 c2 c3 hF hQ h0 H1 H3 hM
  go_enter Try.func15, Try.ntmps15
  go_wp2_with fail
  refine (HA.out _).mono ?_
  rintro e w1 ⟨rfl, rfl⟩
  go_wp2_with fail
  refine (HI.out _).mono ?_
  rintro e w1 ⟨rfl, rfl⟩
  go_wp2_with fail
  refine (HC.out _).mono ?_
  rintro e w1 ⟨rfl, hb1⟩
  have q0 : w1.cell? ⟨w.heap.size, 0, none⟩ = some (.int .i64 num) := by rw [hb1.cell (p := ⟨w.heap.size, 0, none⟩) (by simp)]; go_simp
  have q1 : w1.cell? ⟨w.heap.size, 1, none⟩ = some (.int .i64 den) := by rw [hb1.cell (p := ⟨w.heap.size, 1, none⟩) (by simp)]; go_simp
  have hsz := hb1.size
  simp at hsz
  have HB1 := Lib.hid (bthen hb0 (Nat.le_refl _) hb1)
  clear hb1 hb0
  go_wp2_with fail
  go_loopw [10] (fun i wr => ∃ j : Nat, j ≤ M ∧ i = .int .i64 ((j : Int) + 1) ∧ Hid (Q = fstN (tfQ l k a (num, den)) (M - j) j) ∧ Hid (Below w1.heap.size w1 wr)) (fun i _ => M + 1 - (intOf i).toNat)
  case atStart => exact ⟨0, by omega, rfl, HQ, Lib.hid (Below.refl _ _)⟩
  case round =>
    obtain ⟨j, hj, rfl, HJ, HBR⟩ := hrel
    have hsr := HBR.out.size
    by_cases hlt : j < M
    · have hji : (j : Int) + 1 ≤ M := by omega
      obtain ⟨f1, f2, hcn, g0, g1, g2, hc⟩ := HPC.out (j + 1) (by omega) (by omega)
      have hmi : min (a : Int) ((j : Int) + 1) = ((min a (j + 1) : Nat) : Int) := by omega
      have hj1 : (((j + 1 : Nat)) : Int) = (j : Int) + 1 := by omega
      obtain ⟨MA, hMA⟩ : ∃ MA, MA = min a (j + 1) := ⟨_, rfl⟩
      rw [← hMA] at hc hmi
      have HC2 := Lib.hid hc
      clear hc
      obtain ⟨p1, p2, p3, p4⟩ := prod_bd g0 g1 g2 n0 n1 n3
      obtain ⟨u, hu⟩ : ∃ u, u = f1 * den := ⟨_, rfl⟩
      obtain ⟨v, hv⟩ : ∃ v, v = num * f2 := ⟨_, rfl⟩
      have e1 : IntKind.i64.wrap (f1 * den) = u := by rw [hu]; exact wrapS (by omega) (by omega)
      have e2 : IntKind.i64.wrap (num * f2) = v := by rw [hv]; exact wrapS (by omega) (by omega)
      have hq : tfQ l k a (num, den) j = !decide (v < u) := by unfold tfQ; rw [hcn, hu, hv]; rfl
      clear hu hv p1 p2 p3 p4 hMA
      by_cases huv : u ≤ v
      · have HR : Hid (Q = j) := Lib.hid (by rw [HJ.out, fst_yes (by rw [hq]; simpa using huv)])
        have HR2 : Hid (FIN = ((j : Int) + 1, 0)) := Lib.hid (by rw [HP.out, HR.out, if_pos hlt, hj1])
        clear hq
        go_wp2_with fail
        refine (HC2.out _).mono ?_
        rintro e w3 ⟨rfl, hb3⟩
        have k0 : w3.cell? ⟨w.heap.size, 0, none⟩ = some (.int .i64 num) := by rw [hb3.cell (p := ⟨w.heap.size, 0, none⟩) (by simp; omega), HBR.out.cell (p := ⟨w.heap.size, 0, none⟩) (by simp; omega)]; exact q0
        have k1 : w3.cell? ⟨w.heap.size, 1, none⟩ = some (.int .i64 den) := by rw [hb3.cell (p := ⟨w.heap.size, 1, none⟩) (by simp; omega), HBR.out.cell (p := ⟨w.heap.size, 1, none⟩) (by simp; omega)]; exact q1
        have hs3 := hb3.size
        have hg3 : w.heap.size < w3.heap.size := by omega
        have HB3 := Lib.hid (bthen (bthen HB1.out (Nat.le_refl _) HBR.out) (Nat.le_refl _) hb3)
        have hbz := HB3.out.size
        clear hb3
        go_wp2_with fail
        go_ret2
        exact ⟨by rw [HR2.out]; rfl, HB3.out.alloc hbz _⟩
      · have huv2 : v < u := by omega
        have HR : Hid (Q = fstN (tfQ l k a (num, den)) (M - (j + 1)) (j + 1)) := Lib.hid (by rw [HJ.out, show M - j = (M - (j + 1)) + 1 by omega, fst_no (by rw [hq]; simpa using huv2)])
        clear hq huv
        go_wp2_with fail
        refine (HC2.out _).mono ?_
        rintro e w3 ⟨rfl, hb3⟩
        have k0 : w3.cell? ⟨w.heap.size, 0, none⟩ = some (.int .i64 num) := by rw [hb3.cell (p := ⟨w.heap.size, 0, none⟩) (by simp; omega), HBR.out.cell (p := ⟨w.heap.size, 0, none⟩) (by simp; omega)]; exact q0
        have k1 : w3.cell? ⟨w.heap.size, 1, none⟩ = some (.int .i64 den) := by rw [hb3.cell (p := ⟨w.heap.size, 1, none⟩) (by simp; omega), HBR.out.cell (p := ⟨w.heap.size, 1, none⟩) (by simp; omega)]; exact q1
        have hs3 := hb3.size
        have hg3 : w.heap.size < w3.heap.size := by omega
        have HB3 := Lib.hid (bthen HBR.out (Nat.le_refl _) hb3)
        have hbz := HB3.out.size
        clear hb3
        go_wp2_with fail
        go_roundw
        case rel => exact ⟨j + 1, by omega, by go_num, HR, Lib.hid (HB3.out.alloc hbz _)⟩
        case measure => simp [intOf]; omega
    · have hji : (M : Int) < (j : Int) + 1 := by omega
      have HR : Hid (Q = j) := Lib.hid (by rw [HJ.out, show M - j = 0 by omega]; rfl)
      have HR2 : Hid (FIN = (0, 3)) := Lib.hid (by rw [HP.out, HR.out, if_neg hlt])
      have HB3 := Lib.hid (bthen HB1.out (Nat.le_refl _) HBR.out)
      go_wp2_with fail
      go_ret2
      exact ⟨by rw [HR2.out]; rfl, HB3.out⟩
end Go.Proofs.Ytpafdnclhenklaa
