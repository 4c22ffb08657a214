/-
  The best pairs: each carrier at most once, and no worse than the straight ones.
-/
import Derived.Test.YtofcmljnckdknaaPairPlain
namespace Go.Proofs.Ytofcmljnckdknaa

theorem injs_mem {n m : Nat} {dn l : List Int} (h : l ∈ injs n (m + 1) dn) : ∃ k : Nat, k < n ∧ dn.contains (k : Int) = false ∧ l ∈ injs n m (dn ++ [(k : Int)]) := by
  unfold injs at h
  obtain ⟨k, hk, h2⟩ := List.mem_flatMap.1 h
  by_cases hc : dn.contains (k : Int) = true
  · rw [if_pos hc] at h2
    cases h2
  · rw [if_neg hc] at h2
    exact ⟨k, List.mem_range.1 hk, by simpa using hc, h2⟩
theorem injs_nodup (n : Nat) : ∀ (m : Nat) (dn : List Int), dn.Nodup → ∀ l ∈ injs n m dn, l.Nodup
  | 0, dn, h, l, hl => by
    rw [injs_zero] at hl
    simp at hl
    rw [hl]
    exact h
  | m + 1, dn, h, l, hl => by
    obtain ⟨k, _, hc, h2⟩ := injs_mem hl
    refine injs_nodup n m (dn ++ [(k : Int)]) ?_ l h2
    rw [List.nodup_append]
    refine ⟨h, by simp, fun a ha b hb => ?_⟩
    simp at hb
    rw [hb]
    intro e
    rw [e] at ha
    simp at hc
    exact hc ha
def iot (j : Nat) : List Int := (List.range j).map fun (k : Nat) => (k : Int)
theorem iot_succ (j : Nat) : iot (j + 1) = iot j ++ [(j : Int)] := by simp [iot, List.range_succ]
theorem iot_len (j : Nat) : (iot j).length = j := by simp [iot]
theorem iot_no (j : Nat) : (iot j).contains (j : Int) = false := by
  rw [Bool.eq_false_iff]
  intro h
  have h2 : (j : Int) ∈ iot j := by simpa using h
  unfold iot at h2
  obtain ⟨k, hk, e⟩ := List.mem_map.1 h2
  have := List.mem_range.1 hk
  omega
/-- the straight pairs are tried -/
theorem injs_iot (n : Nat) : ∀ (m j : Nat), j + m ≤ n → iot (j + m) ∈ injs n m (iot j)
  | 0, j, _ => by rw [injs_zero]; simp
  | m + 1, j, h => by
    unfold injs
    refine List.mem_flatMap.2 ⟨j, List.mem_range.2 (by omega), ?_⟩
    rw [if_neg (by rw [iot_no]; decide), ← iot_succ, show j + (m + 1) = (j + 1) + m by omega]
    exact injs_iot n m (j + 1) (by omega)
theorem stp_up (X : List (List Int)) (st : List Int × Int) (own : List Int) : st.2 ≤ (stp X st own).2 ∧ wS X own ≤ (stp X st own).2 := by
  by_cases h : st.2 < wS X own
  · rw [stp_yes h]; dsimp only; omega
  · rw [stp_no (by omega)]; omega
theorem fold_up (X : List (List Int)) : ∀ (ls : List (List Int)) (st : List Int × Int), st.2 ≤ (ls.foldl (stp X) st).2
  | [], st => Int.le_refl _
  | l :: ls, st => by
    have h1 := fold_up X ls (stp X st l)
    have h2 := (stp_up X st l).1
    rw [List.foldl_cons]
    omega
theorem fold_max (X : List (List Int)) : ∀ (ls : List (List Int)) (st : List Int × Int), ∀ l ∈ ls, wS X l ≤ (ls.foldl (stp X) st).2
  | [], st, l, h => by cases h
  | a :: ls, st, l, h => by
    rw [List.foldl_cons]
    rcases List.mem_cons.1 h with h | h
    · have h1 := fold_up X ls (stp X st a)
      have h2 := (stp_up X st a).2
      rw [h]
      omega
    · exact fold_max X ls _ l h
/-- the worth that is kept is that of the list that is kept -/
theorem fold_own (X : List (List Int)) : ∀ (ls : List (List Int)) (st : List Int × Int), (st.2 = wS X st.1 ∨ st.2 = -1) → (ls.foldl (stp X) st).2 = wS X (ls.foldl (stp X) st).1 ∨ (ls.foldl (stp X) st).2 = -1
  | [], st, h => h
  | a :: ls, st, h => by
    rw [List.foldl_cons]
    refine fold_own X ls _ ?_
    by_cases h1 : st.2 < wS X a
    · rw [stp_yes h1]; exact Or.inl rfl
    · rw [stp_no (by omega)]; exact h
theorem fold_in (X : List (List Int)) : ∀ (ls : List (List Int)) (st : List Int × Int), (ls.foldl (stp X) st).1 ∈ ls ∨ ls.foldl (stp X) st = st
  | [], st => Or.inr rfl
  | a :: ls, st => by
    rw [List.foldl_cons]
    rcases fold_in X ls (stp X st a) with h | h
    · exact Or.inl (List.mem_cons_of_mem _ h)
    · rw [h]
      by_cases h1 : st.2 < wS X a
      · rw [stp_yes h1]; exact Or.inl (List.mem_cons_self)
      · rw [stp_no (by omega)]; exact Or.inr rfl
/-- the best pairs -/
theorem best_law {X : List (List Int)} {n : Nat} (hX : WkX X) (h : X.length ≤ n) :
    ((injs n X.length []).foldl (stp X) ([], -1)).1.Nodup ∧ ((injs n X.length []).foldl (stp X) ([], -1)).1.length = X.length ∧ LtL n ((injs n X.length []).foldl (stp X) ([], -1)).1 ∧ wS X (iot X.length) ≤ wS X ((injs n X.length []).foldl (stp X) ([], -1)).1 := by
  have hi := injs_iot n X.length 0 (by omega)
  rw [Nat.zero_add, show iot 0 = [] from rfl] at hi
  have hm := fold_max X _ ([], -1) _ hi
  have hb := (wS_bd hX (iot X.length)).1
  have ho := fold_own X (injs n X.length []) ([], -1) (Or.inr rfl)
  have hin := fold_in X (injs n X.length []) ([], -1)
  generalize hR : (injs n X.length []).foldl (stp X) ([], -1) = R at *
  have h1 : R.1 ∈ injs n X.length [] := by
    rcases hin with h | h
    · exact h
    · rw [h] at hm
      dsimp only at hm
      omega
  have ha := injs_all n X.length [] (LtL.nil n) _ h1
  refine ⟨injs_nodup n _ [] List.nodup_nil _ h1, by simpa using ha.1, ha.2, ?_⟩
  rcases ho with h | h
  · omega
  · omega
end Go.Proofs.Ytofcmljnckdknaa
