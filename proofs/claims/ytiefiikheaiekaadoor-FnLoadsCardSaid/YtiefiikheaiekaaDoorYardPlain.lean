/-
  Yards, in numbers: what a yard is; places of packs.
-/
import Derived.Test.YtiefiikheaiekaaDoorPlain
namespace Go.Proofs.YtiefiikheaiekaaDoor

def VY (X : List (List Int)) : Prop := (1 ≤ X.length ∧ X.length ≤ 4) ∧ X.flatten.length ≤ 6 ∧ (∀ p ∈ X.flatten, 1 ≤ p ∧ p ≤ 99) ∧ X.flatten.Nodup
noncomputable def vyB (X : List (List Int)) : Bool := dB (VY X)
/-- no two neighbours are equal -/
def AdjN (xs : List Int) : Prop := ∀ k (h : k + 1 < xs.length), xs[k] ≠ xs[k + 1]
theorem adj_nodup {xs : List Int} (hs : xs.Pairwise (fun a b => a ≤ b)) : AdjN xs ↔ xs.Nodup := by
  constructor
  · intro h
    rw [List.nodup_iff_pairwise_ne, List.pairwise_iff_getElem]
    rw [List.pairwise_iff_getElem] at hs
    intro i j hi hj hij e
    have h1 := h i (by omega)
    have h2 := hs i (i + 1) hi (by omega) (by omega)
    by_cases e2 : i + 1 = j
    · subst e2; exact h1 e
    · have h3 := hs (i + 1) j (by omega) hj (by omega)
      omega
  · intro h k hk e
    rw [List.nodup_iff_pairwise_ne, List.pairwise_iff_getElem] at h
    exact h k (k + 1) (by omega) hk (by omega) e
theorem sort_pair (xs : List Int) : (xs.mergeSort fun x y => decide (x ≤ y)).Pairwise (fun a b => a ≤ b) := by
  have := List.pairwise_mergeSort (le := fun (x y : Int) => decide (x ≤ y)) (fun a b c h1 h2 => by simp at *; omega) (fun a b => by simp; omega) xs
  exact this.imp (fun h => by simpa using h)
theorem sort_nodup (xs : List Int) : AdjN (xs.mergeSort fun x y => decide (x ≤ y)) ↔ xs.Nodup := by
  rw [adj_nodup (sort_pair xs)]
  exact (List.mergeSort_perm xs _).nodup_iff
def hasB (xs : List Int) (p : Int) : Bool := xs.any fun x => x == p
theorem hasB_iff {xs : List Int} {p : Int} : hasB xs p = true ↔ p ∈ xs := by
  unfold hasB
  rw [List.any_eq_true]
  constructor
  · rintro ⟨x, hx, h⟩
    have : x = p := by simpa using h
    exact this ▸ hx
  · intro h
    exact ⟨p, h, by simp⟩
/-- the packs of the first i stacks, and of stack i the first k -/
def pre (X : List (List Int)) (i k : Nat) : List Int := (X.take i).flatten ++ (X.getD i []).take k
theorem pre_zero (X : List (List Int)) : pre X 0 0 = [] := by simp [pre]
theorem pre_step (X : List (List Int)) {i k : Nat} (h : k < (X.getD i []).length) : pre X i (k + 1) = pre X i k ++ [(X.getD i [])[k]] := by
  unfold pre
  rw [List.take_succ_eq_append_getElem h, List.append_assoc]
theorem pre_next (X : List (List Int)) {i : Nat} (h : i < X.length) : pre X i (X.getD i []).length = pre X (i + 1) 0 := by
  unfold pre
  rw [List.take_succ_eq_append_getElem h, List.flatten_append, List.take_of_length_le (Nat.le_refl _), getD_lt X [] h]
  simp
theorem pre_end (X : List (List Int)) : pre X X.length 0 = X.flatten := by
  unfold pre
  rw [List.take_of_length_le (Nat.le_refl _)]
  simp
theorem pre_split (X : List (List Int)) {i k : Nat} (hi : i < X.length) (h : k < (X.getD i []).length) : ∃ r, X.flatten = pre X i k ++ (X.getD i [])[k] :: r := by
  refine ⟨(X.getD i []).drop (k + 1) ++ (X.drop (i + 1)).flatten, ?_⟩
  have e : X = X.take i ++ X.getD i [] :: X.drop (i + 1) := by
    rw [getD_lt X [] hi, ← List.drop_eq_getElem_cons hi, List.take_append_drop]
  have e2 : X.getD i [] = (X.getD i []).take k ++ (X.getD i [])[k] :: (X.getD i []).drop (k + 1) := by
    rw [← List.drop_eq_getElem_cons h, List.take_append_drop]
  have e3 : X.flatten = (X.take i).flatten ++ (X.getD i [] ++ (X.drop (i + 1)).flatten) := by
    conv => lhs; rw [e]
    rw [List.flatten_append, List.flatten_cons]
  rw [e3]
  unfold pre
  conv => lhs; rw [e2]
  simp only [List.append_assoc, List.cons_append]
/-- the reference's reading: so far it is right -/
def OkP (X : List (List Int)) (l : List Int) : Prop := (∀ p ∈ l, 1 ≤ p ∧ p ≤ 99) ∧ l.Nodup
theorem OkP.step {X : List (List Int)} {l : List Int} {p : Int} (h : OkP X l) (h1 : 1 ≤ p ∧ p ≤ 99) (h2 : p ∉ l) : OkP X (l ++ [p]) := by
  refine ⟨fun q hq => ?_, ?_⟩
  · rcases List.mem_append.1 hq with hq | hq
    · exact h.1 q hq
    · simp at hq; subst hq; exact h1
  · rw [List.nodup_append]
    exact ⟨h.2, by simp, fun a ha b hb e => by simp at hb; subst hb; exact h2 (e ▸ ha)⟩
theorem vy_bad {X : List (List Int)} {i k : Nat} (hi : i < X.length) (h : k < (X.getD i []).length) (hb : ¬ (1 ≤ (X.getD i [])[k] ∧ (X.getD i [])[k] ≤ 99) ∨ (X.getD i [])[k] ∈ pre X i k) : vyB X = false := by
  refine dB_no fun hv => ?_
  obtain ⟨r, hr⟩ := pre_split X hi h
  rcases hb with hb | hb
  · exact hb (hv.2.2.1 _ (by rw [hr]; simp))
  · have := hv.2.2.2
    rw [hr, List.nodup_append] at this
    exact this.2.2 _ hb _ (List.mem_cons_self ..) rfl
theorem vy_end {X : List (List Int)} (h : OkP X X.flatten) : vyB X = (decide (1 ≤ (X.length : Int) ∧ (X.length : Int) ≤ 4) && decide (X.flatten.length ≤ 6)) := by
  by_cases e : (1 ≤ (X.length : Int) ∧ (X.length : Int) ≤ 4) ∧ X.flatten.length ≤ 6
  · rw [show vyB X = true from dB_yes ⟨by omega, e.2, h.1, h.2⟩]
    rw [decide_eq_true e.1, decide_eq_true e.2]; rfl
  · rw [show vyB X = false from dB_no fun hv => e ⟨by have := hv.1; omega, hv.2.1⟩]
    symm
    rw [Bool.and_eq_false_iff]
    by_cases e1 : (1 ≤ (X.length : Int) ∧ (X.length : Int) ≤ 4)
    · exact .inr (decide_eq_false fun h => e ⟨e1, h⟩)
    · exact .inl (decide_eq_false e1)
end Go.Proofs.YtiefiikheaiekaaDoor
