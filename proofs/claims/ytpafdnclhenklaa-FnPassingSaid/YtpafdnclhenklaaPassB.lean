/-
  Chances: the codes; PassChance of both; isChance, less.
-/
import Derived.Test.YtpafdnclhenklaaPassA
namespace Go.Proofs.Ytpafdnclhenklaa
open Go.ChangeShapes Go.WideShapes Go.RowKit

def lotB (lot weak : Int) : Bool := inB lot 1 60 && inB weak 0 lot
def tstB (tested allowed : Int) : Bool := inB tested 1 10 && inB allowed 0 tested
def plC (lot weak tested allowed : Int) : Int := if lotB lot weak = true ∧ tstB tested allowed = true then (if lot < tested then 6 else 0) else 2
def pcF (lot weak tested allowed : Int) : Int × Int := (((chN lot.toNat weak.toNat tested.toNat allowed.toNat).1 : Nat), ((chN lot.toNat weak.toNat tested.toNat allowed.toNat).2 : Nat))
def pcP (lot weak tested allowed : Int) : (Int × Int) × Int := if plC lot weak tested allowed = 0 then (pcF lot weak tested allowed, 0) else ((0, 0), plC lot weak tested allowed)
theorem plC_ok {lot weak tested allowed : Int} (h : plC lot weak tested allowed = 0) : ∃ l k t a : Nat, lot = l ∧ weak = k ∧ tested = t ∧ allowed = a ∧ 1 ≤ l ∧ l ≤ 60 ∧ k ≤ l ∧ 1 ≤ t ∧ t ≤ l ∧ t ≤ 10 ∧ a ≤ t := by
  unfold plC at h
  split at h
  · rename_i h1
    split at h
    · omega
    · rename_i h2
      obtain ⟨h3, h4⟩ := h1
      unfold lotB at h3
      unfold tstB at h4
      rw [Bool.and_eq_true] at h3 h4
      have a1 := inB_yes h3.1
      have a2 := inB_yes h3.2
      have a3 := inB_yes h4.1
      have a4 := inB_yes h4.2
      exact ⟨lot.toNat, weak.toNat, tested.toNat, allowed.toNat, by omega, by omega, by omega, by omega, by omega, by omega, by omega, by omega, by omega, by omega, by omega⟩
  · omega
theorem isLot_any (lot weak : Int) (w : World) : Calls Try.prog 33 #[.int .i64 lot, .int .i64 weak] w fun e w' => e = .returned (.bool (lotB lot weak)) ∧ w = w' := by
  cases h1 : inB lot 1 60
  · have HV : Hid (lotB lot weak = false) := Lib.hid (by simp [lotB, h1])
    rw [HV.out]
    go_enter Try.func33, Try.ntmps33
    go_wp2_with (go_at_call 44; refine (within_any _ _ _ _).mono ?_; rintro e w' ⟨rfl, rfl⟩)
    go_ret
    exact ⟨rfl, rfl⟩
  · have HV : Hid (lotB lot weak = inB weak 0 lot) := Lib.hid (by simp [lotB, h1])
    rw [HV.out]
    go_enter Try.func33, Try.ntmps33
    go_wp2_with (go_at_call 44; refine (within_any _ _ _ _).mono ?_; rintro e w' ⟨rfl, rfl⟩)
    go_ret
    exact ⟨rfl, rfl⟩
theorem isTest_any (tested allowed : Int) (w : World) : Calls Try.prog 34 #[.int .i64 tested, .int .i64 allowed] w fun e w' => e = .returned (.bool (tstB tested allowed)) ∧ w = w' := by
  cases h1 : inB tested 1 10
  · have HV : Hid (tstB tested allowed = false) := Lib.hid (by simp [tstB, h1])
    rw [HV.out]
    go_enter Try.func34, Try.ntmps34
    go_wp2_with (go_at_call 44; refine (within_any _ _ _ _).mono ?_; rintro e w' ⟨rfl, rfl⟩)
    go_ret
    exact ⟨rfl, rfl⟩
  · have HV : Hid (tstB tested allowed = inB allowed 0 tested) := Lib.hid (by simp [tstB, h1])
    rw [HV.out]
    go_enter Try.func34, Try.ntmps34
    go_wp2_with (go_at_call 44; refine (within_any _ _ _ _).mono ?_; rintro e w' ⟨rfl, rfl⟩)
    go_ret
    exact ⟨rfl, rfl⟩
set_option maxHeartbeats 800000 in
theorem l19Lot_any (lot weak tested allowed : Int) (w : World) : Calls Try.prog 36 #[.int .i64 lot, .int .i64 weak, .int .i64 tested, .int .i64 allowed] w fun e w' => e = .returned (.int .i64 (plC lot weak tested allowed)) ∧ w = w' := by
  cases h1 : inB lot 1 60
  · have HV : Hid (plC lot weak tested allowed = 2) := Lib.hid (by simp [plC, lotB, h1])
    rw [HV.out]
    go_enter Try.func36, Try.ntmps36
    go_wp2_with (go_at_call 45; refine (l00In_any _ _ _ _).mono ?_; rintro e w' ⟨rfl, rfl⟩)
    go_ret
    exact ⟨rfl, rfl⟩
  cases h2 : inB weak 0 lot
  · have HV : Hid (plC lot weak tested allowed = 2) := Lib.hid (by simp [plC, lotB, h1, h2])
    rw [HV.out]
    go_enter Try.func36, Try.ntmps36
    go_wp2_with (go_at_call 45; refine (l00In_any _ _ _ _).mono ?_; rintro e w' ⟨rfl, rfl⟩)
    go_ret
    exact ⟨rfl, rfl⟩
  cases h3 : inB tested 1 10
  · have HV : Hid (plC lot weak tested allowed = 2) := Lib.hid (by simp [plC, tstB, h3])
    rw [HV.out]
    go_enter Try.func36, Try.ntmps36
    go_wp2_with (go_at_call 45; refine (l00In_any _ _ _ _).mono ?_; rintro e w' ⟨rfl, rfl⟩)
    go_ret
    exact ⟨rfl, rfl⟩
  cases h4 : inB allowed 0 tested
  · have HV : Hid (plC lot weak tested allowed = 2) := Lib.hid (by simp [plC, tstB, h3, h4])
    rw [HV.out]
    go_enter Try.func36, Try.ntmps36
    go_wp2_with (go_at_call 45; refine (l00In_any _ _ _ _).mono ?_; rintro e w' ⟨rfl, rfl⟩)
    go_ret
    exact ⟨rfl, rfl⟩
  have HV : Hid (plC lot weak tested allowed = if lot < tested then 6 else 0) := Lib.hid (by simp [plC, lotB, tstB, h1, h2, h3, h4])
  by_cases h5 : lot < tested
  · rw [HV.out, if_pos h5]
    go_enter Try.func36, Try.ntmps36
    go_wp2_with (go_at_call 45; refine (l00In_any _ _ _ _).mono ?_; rintro e w' ⟨rfl, rfl⟩)
    go_ret
    exact ⟨rfl, rfl⟩
  · rw [HV.out, if_neg h5]
    have h6 : tested ≤ lot := by omega
    go_enter Try.func36, Try.ntmps36
    go_wp2_with (go_at_call 45; refine (l00In_any _ _ _ _).mono ?_; rintro e w' ⟨rfl, rfl⟩)
    go_ret
    exact ⟨rfl, rfl⟩
/-- the parts of the chance's answer -/
theorem pcP_no {lot weak tested allowed : Int} (h : plC lot weak tested allowed ≠ 0) : pcP lot weak tested allowed = ((0, 0), plC lot weak tested allowed) := if_neg h
theorem pcP_ok {lot weak tested allowed : Int} (h : plC lot weak tested allowed = 0) : pcP lot weak tested allowed = (pcF lot weak tested allowed, 0) := if_pos h
theorem pcF_nat (l k t a : Nat) : pcF l k t a = ((((chN l k t a).1 : Nat) : Int), (((chN l k t a).2 : Nat) : Int)) := by unfold pcF; simp
set_option maxRecDepth 100000 in
set_option maxHeartbeats 1600000 in
theorem specPassChance_any (lot weak tested allowed : Int) (w : World) :
    Calls Try.prog 10 #[.int .i64 lot, .int .i64 weak, .int .i64 tested, .int .i64 allowed] w fun e w' => e = .returned (.tuple #[.agg #[.int .i64 (pcP lot weak tested allowed).1.1, .int .i64 (pcP lot weak tested allowed).1.2], .int .i64 (pcP lot weak tested allowed).2]) ∧ Below w.heap.size w w' := by
  have hl := fun W => l19Lot_any lot weak tested allowed W
  have hb0 : Below w.heap.size w (w.alloc (.cells #[.int .i64 0, .int .i64 0] 27)) := (Below.refl _ w).alloc (Nat.le_refl _) _
  by_cases h0 : plC lot weak tested allowed = 0
  · rw [pcP_ok h0]
    obtain ⟨l, k, t, a, rfl, rfl, rfl, rfl, b1, b2, b3, b4, b5, b6, b7⟩ := plC_ok h0
    rw [h0] at hl
    rw [pcF_nat]
    have hc := fun W => l19Chance_any l k t a b2 b3 b5 b6 b7 W
    have HL := Lib.hid hl
    have HC := Lib.hid hc
    clear hl hc h0
    generalize (chN l k t a).1 = f1 at *
    generalize (chN l k t a).2 = f2 at *
    go_enter Try.func10, Try.ntmps10
    go_wp2_with fail
    refine (HL.out _).mono ?_
    rintro e w1 ⟨rfl, rfl⟩
    go_wp2_with fail
    refine (HC.out _).mono ?_
    rintro e w3 ⟨rfl, hb3⟩
    have q0 : w3.cell? ⟨w.heap.size, 0, none⟩ = some (.int .i64 0) := by rw [hb3.cell (p := ⟨w.heap.size, 0, none⟩) (by simp)]; go_simp
    have q1 : w3.cell? ⟨w.heap.size, 1, none⟩ = some (.int .i64 0) := by rw [hb3.cell (p := ⟨w.heap.size, 1, none⟩) (by simp)]; go_simp
    have qf : ∀ j, w3.frozen? ⟨w.heap.size, j, none⟩ = false := fun j => by rw [hb3.frozen (p := ⟨w.heap.size, j, none⟩) (by simp)]; go_simp
    have hsz := hb3.size
    simp at hsz
    have HB3 := Lib.hid (hb0.trans (hb3.mono (by simp)))
    go_wp2_with fail
    exact bodyPost_ret (v := .tuple #[.agg #[.int .i64 (f1 : Int), .int .i64 (f2 : Int)], .int .i64 0]) (by simp [results, Try.results10, go_sem, q0, q1, hsz]) rfl ⟨rfl, (HB3.out.setCell (p := ⟨w.heap.size, 0, none⟩) (Nat.le_refl _) _).setCell (p := ⟨w.heap.size, 1, none⟩) (Nat.le_refl _) _⟩
  · rw [pcP_no h0]
    have hne : (plC lot weak tested allowed != 0) = true := by rw [bne_iff_ne]; exact h0
    have HL := Lib.hid hl
    clear h0 hl
    generalize plC lot weak tested allowed = c at *
    go_enter Try.func10, Try.ntmps10
    go_wp2_with fail
    refine (HL.out _).mono ?_
    rintro e w1 ⟨rfl, rfl⟩
    go_wp2_with fail
    exact bodyPost_ret (v := .tuple #[.agg #[.int .i64 0, .int .i64 0], .int .i64 c]) (by simp [results, Try.results10, go_sem]) rfl ⟨rfl, hb0⟩
set_option maxRecDepth 100000 in
set_option maxHeartbeats 1600000 in
theorem implPassChance_any (lot weak tested allowed : Int) (w : World) :
    Calls Try.prog 9 #[.int .i64 lot, .int .i64 weak, .int .i64 tested, .int .i64 allowed] w fun e w' => e = .returned (.tuple #[.agg #[.int .i64 (pcP lot weak tested allowed).1.1, .int .i64 (pcP lot weak tested allowed).1.2], .int .i64 (pcP lot weak tested allowed).2]) ∧ Below w.heap.size w w' := by
  have h1 := fun W => isLot_any lot weak W
  have h2 := fun W => isTest_any tested allowed W
  have hb0 : Below w.heap.size w (w.alloc (.cells #[.int .i64 0, .int .i64 0] 27)) := (Below.refl _ w).alloc (Nat.le_refl _) _
  have H1 := Lib.hid h1
  have H2 := Lib.hid h2
  clear h1 h2
  cases c1 : lotB lot weak
  · have HP : Hid (pcP lot weak tested allowed = ((0, 0), 2)) := Lib.hid (by
      have h : plC lot weak tested allowed = 2 := by simp [plC, c1]
      rw [pcP_no (by omega), h])
    have HA : Hid (∀ W, Calls Try.prog 33 #[.int .i64 lot, .int .i64 weak] W fun e w' => e = .returned (.bool false) ∧ W = w') := Lib.hid fun W => by rw [← c1]; exact H1.out W
    rw [HP.out]
    clear c1
    go_enter Try.func9, Try.ntmps9
    go_wp2_with fail
    refine (HA.out _).mono ?_
    rintro e w1 ⟨rfl, rfl⟩
    go_wp2_with fail
    exact bodyPost_ret (v := .tuple #[.agg #[.int .i64 0, .int .i64 0], .int .i64 2]) (by simp [results, Try.results9, go_sem]) rfl ⟨rfl, hb0⟩
  have HA : Hid (∀ W, Calls Try.prog 33 #[.int .i64 lot, .int .i64 weak] W fun e w' => e = .returned (.bool true) ∧ W = w') := Lib.hid fun W => by rw [← c1]; exact H1.out W
  cases c2 : tstB tested allowed
  · have HP : Hid (pcP lot weak tested allowed = ((0, 0), 2)) := Lib.hid (by
      have h : plC lot weak tested allowed = 2 := by simp [plC, c2]
      rw [pcP_no (by omega), h])
    have HB : Hid (∀ W, Calls Try.prog 34 #[.int .i64 tested, .int .i64 allowed] W fun e w' => e = .returned (.bool false) ∧ W = w') := Lib.hid fun W => by rw [← c2]; exact H2.out W
    rw [HP.out]
    clear c1 c2
    go_enter Try.func9, Try.ntmps9
    go_wp2_with fail
    refine (HA.out _).mono ?_
    rintro e w1 ⟨rfl, rfl⟩
    go_wp2_with fail
    refine (HB.out _).mono ?_
    rintro e w1 ⟨rfl, rfl⟩
    go_wp2_with fail
    exact bodyPost_ret (v := .tuple #[.agg #[.int .i64 0, .int .i64 0], .int .i64 2]) (by simp [results, Try.results9, go_sem]) rfl ⟨rfl, hb0⟩
  have HB : Hid (∀ W, Calls Try.prog 34 #[.int .i64 tested, .int .i64 allowed] W fun e w' => e = .returned (.bool true) ∧ W = w') := Lib.hid fun W => by rw [← c2]; exact H2.out W
  by_cases c3 : lot < tested
  · have HP : Hid (pcP lot weak tested allowed = ((0, 0), 6)) := Lib.hid (by
      have h : plC lot weak tested allowed = 6 := by simp [plC, c1, c2, c3]
      rw [pcP_no (by omega), h])
    rw [HP.out]
    clear c1 c2
    go_enter Try.func9, Try.ntmps9
    go_wp2_with fail
    refine (HA.out _).mono ?_
    rintro e w1 ⟨rfl, rfl⟩
    go_wp2_with fail
    refine (HB.out _).mono ?_
    rintro e w1 ⟨rfl, rfl⟩
    go_wp2_with fail
    exact bodyPost_ret (v := .tuple #[.agg #[.int .i64 0, .int .i64 0], .int .i64 6]) (by simp [results, Try.results9, go_sem]) rfl ⟨rfl, hb0⟩
  have h0 : plC lot weak tested allowed = 0 := by simp [plC, c1, c2, c3]
  have c4 : tested ≤ lot := by omega
  rw [pcP_ok h0]
  obtain ⟨l, k, t, a, rfl, rfl, rfl, rfl, b1, b2, b3, b4, b5, b6, b7⟩ := plC_ok h0
  rw [pcF_nat]
  have hc := fun W => passChance_any l k t a b2 b3 b5 b6 b7 W
  have HC := Lib.hid hc
  clear hc h0 c1 c2 c3 H1 H2
  generalize (chN l k t a).1 = f1 at *
  generalize (chN l k t a).2 = f2 at *
  go_enter Try.func9, Try.ntmps9
  go_wp2_with fail
  refine (HA.out _).mono ?_
  rintro e w1 ⟨rfl, rfl⟩
  go_wp2_with fail
  refine (HB.out _).mono ?_
  rintro e w1 ⟨rfl, rfl⟩
  go_wp2_with fail
  refine (HC.out _).mono ?_
  rintro e w3 ⟨rfl, hb3⟩
  have q0 : w3.cell? ⟨w.heap.size, 0, none⟩ = some (.int .i64 0) := by rw [hb3.cell (p := ⟨w.heap.size, 0, none⟩) (by simp)]; go_simp
  have q1 : w3.cell? ⟨w.heap.size, 1, none⟩ = some (.int .i64 0) := by rw [hb3.cell (p := ⟨w.heap.size, 1, none⟩) (by simp)]; go_simp
  have qf : ∀ j, w3.frozen? ⟨w.heap.size, j, none⟩ = false := fun j => by rw [hb3.frozen (p := ⟨w.heap.size, j, none⟩) (by simp)]; go_simp
  have hsz := hb3.size
  simp at hsz
  have HB3 := Lib.hid (hb0.trans (hb3.mono (by simp)))
  go_wp2_with fail
  exact bodyPost_ret (v := .tuple #[.agg #[.int .i64 (f1 : Int), .int .i64 (f2 : Int)], .int .i64 0]) (by simp [results, Try.results9, go_sem, q0, q1, hsz]) rfl ⟨rfl, (HB3.out.setCell (p := ⟨w.heap.size, 0, none⟩) (Nat.le_refl _) _).setCell (p := ⟨w.heap.size, 1, none⟩) (Nat.le_refl _) _⟩

/-- a chance -/
def chcB (num den : Int) : Bool := inB den 1 1000 && inB num 0 den
theorem isChance_any (num den : Int) (w : World) : Calls Try.prog 39 #[.agg #[.int .i64 num, .int .i64 den]] w fun e w' => e = .returned (.bool (chcB num den)) ∧ Below w.heap.size w w' := by
  have hb0 : Below w.heap.size w (w.alloc (.cells #[.int .i64 num, .int .i64 den] 27)) := (Below.refl _ w).alloc (Nat.le_refl _) _
  cases h1 : inB den 1 1000
  · have HV : Hid (chcB num den = false) := Lib.hid (by simp [chcB, h1])
    rw [HV.out]
    go_enter Try.func39, Try.ntmps39
    go_wp2_with (go_at_call 44; refine (within_any _ _ _ _).mono ?_; rintro e w' ⟨rfl, rfl⟩)
    go_ret
    exact ⟨rfl, hb0⟩
  · have HV : Hid (chcB num den = inB num 0 den) := Lib.hid (by simp [chcB, h1])
    rw [HV.out]
    go_enter Try.func39, Try.ntmps39
    go_wp2_with (go_at_call 44; refine (within_any _ _ _ _).mono ?_; rintro e w' ⟨rfl, rfl⟩)
    go_ret
    exact ⟨rfl, hb0⟩
theorem l19Fraction_any (num den : Int) (w : World) : Calls Try.prog 40 #[.agg #[.int .i64 num, .int .i64 den]] w fun e w' => e = .returned (.bool (chcB num den)) ∧ Below w.heap.size w w' := by
  have hb0 : Below w.heap.size w (w.alloc (.cells #[.int .i64 num, .int .i64 den] 27)) := (Below.refl _ w).alloc (Nat.le_refl _) _
  cases h1 : inB den 1 1000
  · have HV : Hid (chcB num den = false) := Lib.hid (by simp [chcB, h1])
    rw [HV.out]
    go_enter Try.func40, Try.ntmps40
    go_wp2_with (go_at_call 45; refine (l00In_any _ _ _ _).mono ?_; rintro e w' ⟨rfl, rfl⟩)
    go_ret
    exact ⟨rfl, hb0⟩
  · have HV : Hid (chcB num den = inB num 0 den) := Lib.hid (by simp [chcB, h1])
    rw [HV.out]
    go_enter Try.func40, Try.ntmps40
    go_wp2_with (go_at_call 45; refine (l00In_any _ _ _ _).mono ?_; rintro e w' ⟨rfl, rfl⟩)
    go_ret
    exact ⟨rfl, hb0⟩
/-- less -/
def lssB (f c : Int × Int) : Bool := decide (f.1 * c.2 < c.1 * f.2)
theorem l19Less_any (f1 f2 c1 c2 : Int) (hf1 : 0 ≤ f1) (hf2 : f1 ≤ f2) (hf3 : f2 ≤ 75394027566) (hc1 : 0 ≤ c1) (hc2 : c1 ≤ c2) (hc3 : c2 ≤ 1000) (w : World) :
    Calls Try.prog 41 #[.agg #[.int .i64 f1, .int .i64 f2], .agg #[.int .i64 c1, .int .i64 c2]] w fun e w' => e = .returned (.bool (lssB (f1, f2) (c1, c2))) ∧ Below w.heap.size w w' := by
  have hb0 : Below w.heap.size w ((w.alloc (.cells #[.int .i64 f1, .int .i64 f2] 27)).alloc (.cells #[.int .i64 c1, .int .i64 c2] 27)) := ((Below.refl _ w).alloc (Nat.le_refl _) _).alloc (by simp) _
  have p1 : f1 * c2 ≤ 75394027566 * 1000 := Int.mul_le_mul (by omega) hc3 (by omega) (by omega)
  have p2 : c1 * f2 ≤ 1000 * 75394027566 := Int.mul_le_mul (by omega) hf3 (by omega) (by omega)
  have p3 := Int.mul_nonneg hf1 (show 0 ≤ c2 by omega)
  have p4 := Int.mul_nonneg hc1 (show 0 ≤ f2 by omega)
  obtain ⟨u, hu⟩ : ∃ u, u = f1 * c2 := ⟨_, rfl⟩
  obtain ⟨v, hv⟩ : ∃ v, v = c1 * f2 := ⟨_, rfl⟩
  have e1 : IntKind.i64.wrap (f1 * c2) = u := by rw [hu]; exact wrapS (by omega) (by omega)
  have e2 : IntKind.i64.wrap (c1 * f2) = v := by rw [hv]; exact wrapS (by omega) (by omega)
  have HL : Hid (lssB (f1, f2) (c1, c2) = decide (u < v)) := Lib.hid (by rw [hu, hv]; rfl)
  rw [HL.out]
  clear hu hv p1 p2 p3 p4
  go_enter Try.func41, Try.ntmps41
  go_wp2_with fail
  go_ret
  exact ⟨rfl, hb0⟩
end Go.Proofs.Ytpafdnclhenklaa
