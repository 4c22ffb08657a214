/-
  The middle of numbers: by counting, as the reference does, and by sorting, as the program does.
-/
import Derived.Test.YtehmghlhljocbaaGreatDoorPlain
namespace Go.Proofs.YtehmghlhljocbaaGreatDoor

theorem mid_cnt_le {p : Int → Bool} {S : List Int} {a : Nat} (h : ∀ i (hi : i < S.length), a ≤ i → p S[i] = false) : S.countP p ≤ a := by
  have h2 : (S.drop a).countP p = 0 := by
    rw [List.countP_eq_zero]
    intro x hx
    obtain ⟨i, hi, rfl⟩ := List.getElem_of_mem hx
    simp only [List.length_drop] at hi
    rw [List.getElem_drop, h (a + i) (by omega) (by omega)]
    simp
  have h1 := List.countP_le_length (p := p) (l := S.take a)
  have h3 : S.countP p = (S.take a).countP p + (S.drop a).countP p := by rw [← List.countP_append, List.take_append_drop]
  simp only [List.length_take] at h1
  omega
theorem mid_le_cnt {p : Int → Bool} {S : List Int} {a : Nat} (ha : a < S.length) (h : ∀ i (hi : i < S.length), i ≤ a → p S[i] = true) : a < S.countP p := by
  have h2 : (S.take (a + 1)).countP p = (S.take (a + 1)).length := by
    rw [List.countP_eq_length]
    intro x hx
    obtain ⟨i, hi, rfl⟩ := List.getElem_of_mem hx
    simp only [List.length_take] at hi
    rw [List.getElem_take, h i (by omega) (by omega)]
  have h3 : S.countP p = (S.take (a + 1)).countP p + (S.drop (a + 1)).countP p := by rw [← List.countP_append, List.take_append_drop]
  simp only [List.length_take] at h2
  omega
/-- how many are less; how many are the same -/
def belC (xs : List Int) (v : Int) : Nat := xs.countP fun y => decide (y < v)
def samC (xs : List Int) (v : Int) : Nat := xs.countP fun y => decide (y = v)
theorem bel_sam (xs : List Int) (v : Int) : belC xs v + samC xs v = xs.countP fun y => decide (y ≤ v) := by
  unfold belC samC
  induction xs with
  | nil => rfl
  | cons x xs ih =>
    simp only [List.countP_cons]
    rw [← ih]
    by_cases h1 : x < v
    · simp [h1, show ¬ x = v by omega, show x ≤ v by omega]; omega
    · by_cases h2 : x = v
      · simp [h2]; omega
      · simp [h1, h2, show ¬ x ≤ v by omega]
def midC (xs : List Int) (v : Int) : Bool := decide (belC xs v ≤ (xs.length - 1) / 2 ∧ (xs.length - 1) / 2 < belC xs v + samC xs v)
def sortI (xs : List Int) : List Int := xs.mergeSort fun x y => decide (x ≤ y)
theorem sortI_len (xs : List Int) : (sortI xs).length = xs.length := List.length_mergeSort xs
theorem sortI_perm (xs : List Int) : (sortI xs).Perm xs := List.mergeSort_perm xs _
theorem sortI_le (xs : List Int) {i j : Nat} (h : i ≤ j) (hj : j < (sortI xs).length) : (sortI xs)[i]'(by omega) ≤ (sortI xs)[j] := by
  have hp : (sortI xs).Pairwise fun x y => decide (x ≤ y) = true := List.pairwise_mergeSort (le := fun x y => decide (x ≤ y)) (fun a b c h1 h2 => by simp only [decide_eq_true_eq] at *; omega) (fun a b => by simp only [Bool.or_eq_true, decide_eq_true_eq]; omega) xs
  by_cases e : i = j
  · subst e; exact Int.le_refl _
  · have := List.pairwise_iff_getElem.1 hp i j (by omega) hj (by omega)
    simpa using this
theorem belC_perm {xs ys : List Int} (h : xs.Perm ys) (v : Int) : belC xs v = belC ys v := h.countP_eq _
theorem mid_iff {xs : List Int} (h0 : 0 < xs.length) (v : Int) : midC xs v = true ↔ v = (sortI xs).getD ((xs.length - 1) / 2) 0 := by
  have ha : (xs.length - 1) / 2 < (sortI xs).length := by rw [sortI_len]; omega
  have e1 : belC xs v = (sortI xs).countP fun y => decide (y < v) := belC_perm (sortI_perm xs).symm v
  have e2 : belC xs v + samC xs v = (sortI xs).countP fun y => decide (y ≤ v) := by rw [bel_sam]; exact (sortI_perm xs).symm.countP_eq _
  rw [getD_lt (sortI xs) 0 ha]
  unfold midC
  rw [decide_eq_true_iff, e2, e1]
  generalize (xs.length - 1) / 2 = a at *
  constructor
  · rintro ⟨h1, h2⟩
    rcases Int.lt_trichotomy v (sortI xs)[a] with h | h | h
    · exfalso
      have := mid_cnt_le (p := fun y => decide (y ≤ v)) (S := sortI xs) (a := a) fun i hi hai => by
        have := sortI_le xs hai hi
        simp only [decide_eq_false_iff_not]
        omega
      omega
    · exact h
    · exfalso
      have := mid_le_cnt (p := fun y => decide (y < v)) (S := sortI xs) ha fun i hi hai => by
        have := sortI_le xs hai ha
        simp only [decide_eq_true_eq]
        omega
      omega
  · rintro rfl
    refine ⟨mid_cnt_le fun i hi hai => ?_, mid_le_cnt ha fun i hi hai => ?_⟩
    · have := sortI_le xs hai hi
      simp only [decide_eq_false_iff_not]
      omega
    · have := sortI_le xs hai ha
      simp only [decide_eq_true_eq]
      exact this
/-- one of the numbers is the middle -/
theorem mid_mem {xs : List Int} (h0 : 0 < xs.length) : ∃ i, ∃ h : i < xs.length, midC xs xs[i] = true := by
  have ha : (xs.length - 1) / 2 < (sortI xs).length := by rw [sortI_len]; omega
  have hm : (sortI xs)[(xs.length - 1) / 2] ∈ xs := (sortI_perm xs).mem_iff.1 (List.getElem_mem ha)
  obtain ⟨i, hi, e⟩ := List.getElem_of_mem hm
  refine ⟨i, hi, ?_⟩
  rw [mid_iff h0, e, getD_lt (sortI xs) 0 ha]
theorem belC_succ (xs : List Int) (v : Int) {k : Nat} (h : k < xs.length) : belC (xs.take (k + 1)) v = belC (xs.take k) v + if xs[k] < v then 1 else 0 := by
  unfold belC
  rw [List.take_succ_eq_append_getElem h, List.countP_append]
  by_cases e : xs[k] < v <;> simp [e]
theorem samC_succ (xs : List Int) (v : Int) {k : Nat} (h : k < xs.length) : samC (xs.take (k + 1)) v = samC (xs.take k) v + if xs[k] = v then 1 else 0 := by
  unfold samC
  rw [List.take_succ_eq_append_getElem h, List.countP_append]
  by_cases e : xs[k] = v <;> simp [e]
theorem belC_le (xs : List Int) (v : Int) : belC xs v ≤ xs.length := List.countP_le_length
theorem samC_le (xs : List Int) (v : Int) : samC xs v ≤ xs.length := List.countP_le_length
end Go.Proofs.YtehmghlhljocbaaGreatDoor
