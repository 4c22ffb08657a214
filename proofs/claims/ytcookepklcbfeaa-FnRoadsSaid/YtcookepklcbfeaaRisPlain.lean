/-
  Rising lists of numbers.
-/
import Derived.Test.YtcookepklcbfeaaPlain
namespace Go.Proofs.Ytcookepklcbfeaa

/-! rising lists -/
def Ris (lo hi : Int) (xs : List Int) : Prop := ∀ i (h : i < xs.length), (lo ≤ xs[i] ∧ xs[i] ≤ hi) ∧ (∀ h0 : 0 < i, xs[i - 1] < xs[i])
theorem Ris.up {lo hi : Int} {xs : List Int} (h : Ris lo hi xs) {i : Nat} (hi' : i < xs.length) : lo + i ≤ xs[i] := by
  induction i with
  | zero => have := (h 0 hi').1; omega
  | succ i ih =>
    have := ih (by omega)
    have h2 := (h (i + 1) hi').2 (by omega)
    simp only [Nat.add_sub_cancel] at h2
    omega
theorem Ris.len {lo hi : Int} {xs : List Int} (h : Ris lo hi xs) : (xs.length : Int) ≤ hi - lo + 1 ∨ xs.length = 0 := by
  by_cases e : xs.length = 0
  · exact .inr e
  · have := h.up (i := xs.length - 1) (by omega)
    have := (h (xs.length - 1) (by omega)).1
    omega
theorem Ris.tail {lo hi x : Int} {xs : List Int} (h : Ris lo hi (x :: xs)) : Ris (x + 1) hi xs := by
  intro i hi'
  have h1 := h (i + 1) (by simpa using hi')
  simp only [List.getElem_cons_succ] at h1
  have h2 : x + i < xs[i] := by
    clear h1
    induction i with
    | zero => have := (h 1 (by simpa using hi')).2 (by omega); simp at this; omega
    | succ i ih =>
      have := ih (by omega)
      have h3 := (h (i + 2) (by simp; omega)).2 (by omega)
      simp only [show i + 2 - 1 = i + 1 by omega, List.getElem_cons_succ] at h3
      omega
  refine ⟨⟨by omega, h1.1.2⟩, fun h0 => ?_⟩
  have h3 := h1.2 (by omega)
  obtain ⟨j, rfl⟩ : ∃ j, i = j + 1 := ⟨i - 1, by omega⟩
  simpa using h3
/-- 0 can only stand first -/
theorem Ris.zero {hi : Int} {xs : List Int} (h : Ris 0 hi xs) : xs.filter (fun p => !(p == 0)) = xs ∨ xs = 0 :: xs.filter (fun p => !(p == 0)) := by
  cases xs with
  | nil => exact .inl rfl
  | cons x xs =>
    have hx := (h 0 (by simp)).1
    simp only [List.getElem_cons_zero] at hx
    have ht := h.tail
    have hall : xs.filter (fun p => !(p == 0)) = xs := by
      rw [List.filter_eq_self]
      intro y hy
      obtain ⟨i, hi', rfl⟩ := List.getElem_of_mem hy
      have := (ht i hi').1
      simp
      omega
    by_cases e : x = 0
    · subst e
      refine .inr ?_
      rw [List.filter_cons_of_neg (by simp), hall]
    · refine .inl ?_
      rw [List.filter_cons_of_pos (by simpa using e), hall]
noncomputable def risB (lo hi : Int) (xs : List Int) : Bool := dB (Ris lo hi xs)
/-- the first k are right -/
def RisK (lo hi : Int) (xs : List Int) (k : Nat) : Prop := ∀ i (h : i < xs.length), i < k → (lo ≤ xs[i] ∧ xs[i] ≤ hi) ∧ (∀ h0 : 0 < i, xs[i - 1] < xs[i])
theorem RisK.all {lo hi : Int} {xs : List Int} (h : RisK lo hi xs xs.length) : Ris lo hi xs := fun i hi' => h i hi' hi'
theorem RisK.step {lo hi : Int} {xs : List Int} {k : Nat} (h : RisK lo hi xs k) (hk : k < xs.length) (h1 : lo ≤ xs[k] ∧ xs[k] ≤ hi) (h2 : ∀ h0 : 0 < k, xs[k - 1] < xs[k]) : RisK lo hi xs (k + 1) := fun i hi' hik => by
  by_cases e : i = k
  · subst e; exact ⟨h1, h2⟩
  · exact h i hi' (by omega)
end Go.Proofs.Ytcookepklcbfeaa
