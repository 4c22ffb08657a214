/-
  Yards, the plain part: packs on top, a move back.
-/
import Derived.Test.YtiefiikheaiekaaDoorYardG
namespace Go.Proofs.YtiefiikheaiekaaDoor

theorem nodup_at {X : List (List Int)} (h : X.flatten.Nodup) : ∀ (i j k m : Nat) (hi : i < X.length) (hj : j < X.length) (hk : k < X[i].length) (hm : m < X[j].length), X[i][k] = X[j][m] → i = j ∧ k = m := by
  induction X with
  | nil => intro i j k m hi; simp at hi
  | cons r Y ih =>
    rw [List.flatten_cons, List.nodup_append] at h
    obtain ⟨h1, h2, h3⟩ := h
    intro i j k m hi hj hk hm e
    cases i with
    | zero =>
      cases j with
      | zero =>
        simp only [List.getElem_cons_zero] at e hk hm
        exact ⟨rfl, (List.getElem_inj h1).1 e⟩
      | succ j =>
        simp only [List.getElem_cons_zero, List.getElem_cons_succ] at e hk hm
        exact absurd e (h3 _ (List.getElem_mem hk) _ (List.mem_flatten.2 ⟨Y[j]'(by simpa using hj), List.getElem_mem _, List.getElem_mem hm⟩))
    | succ i =>
      cases j with
      | zero =>
        simp only [List.getElem_cons_zero, List.getElem_cons_succ] at e hk hm
        exact absurd e.symm (h3 _ (List.getElem_mem hm) _ (List.mem_flatten.2 ⟨Y[i]'(by simpa using hi), List.getElem_mem _, List.getElem_mem hk⟩))
      | succ j =>
        simp only [List.getElem_cons_succ] at e hk hm
        obtain ⟨e1, e2⟩ := ih h2 i j k m (by simpa using hi) (by simpa using hj) hk hm e
        exact ⟨by rw [e1], e2⟩
theorem above_at {X : List (List Int)} (hv : vyB X = true) {i k : Nat} (hi : i < X.length) (hk : k < X[i].length) : pabP X X[i][k] = ((X[i].length : Int) - 1 - k, 0) := by
  have hn := (dB_true hv).2.2.2
  unfold pabP
  rw [if_pos hv]
  rcases fdP_cases X X[i][k] with ⟨_, hno⟩ | ⟨j, m, hj, hm, hf, he, _⟩
  · have := hno i hi
    unfold hasB at this
    rw [List.any_eq_false] at this
    have := this _ (List.getElem_mem hk)
    simp at this
  · obtain ⟨rfl, rfl⟩ := nodup_at hn j i m k hj hi hm hk he
    unfold pabP'
    rw [hf]
    simp only
    rw [if_neg (by omega), Int.toNat_natCast, getD_lt X [] hi]
theorem top_at {X : List (List Int)} (hv : vyB X = true) {i k : Nat} (hi : i < X.length) (hk : k < X[i].length) : (topL X[i] = X[i][k]) ↔ k = X[i].length - 1 := by
  have hn := (dB_true hv).2.2.2
  unfold topL
  rw [if_neg (by omega), getD_lt X[i] 0 (by omega)]
  constructor
  · intro e
    exact (nodup_at hn i i _ k hi hi (by omega) hk e).2.symm
  · intro e
    subst e
    rfl
theorem top_none {r : List Int} (h : r.length = 0) : topL r = 0 := by
  unfold topL
  rw [if_pos h]

/-! ## moves -/
theorem perm_set {X : List (List Int)} {i : Nat} (hi : i < X.length) (a : List Int) : ((X.set i a).flatten ++ X[i]).Perm (X.flatten ++ a) := by
  induction X generalizing i with
  | nil => simp at hi
  | cons r Y ih =>
    cases i with
    | zero =>
      simp only [List.set_cons_zero, List.flatten_cons, List.getElem_cons_zero]
      rw [List.append_assoc, List.append_assoc]
      refine (List.perm_append_comm (l₁ := a)).trans ?_
      rw [List.append_assoc]
      refine List.Perm.trans ?_ (List.perm_append_comm_assoc Y.flatten r a)
      exact List.Perm.refl _
    | succ i =>
      simp only [List.set_cons_succ, List.flatten_cons, List.getElem_cons_succ]
      rw [List.append_assoc, List.append_assoc]
      exact (ih (by simpa using hi)).append_left r
theorem snoc_of {r : List Int} (h : 0 < r.length) : r = r.take (r.length - 1) ++ [topL r] := by
  unfold topL
  rw [if_neg (by omega), getD_lt r 0 (by omega), ← List.take_succ_eq_append_getElem (by omega), List.take_of_length_le (by omega)]
theorem perm_drop {X : List (List Int)} {f : Nat} (hf : f < X.length) (h : 0 < X[f].length) : ((mvX X f (-1)).flatten ++ [topL X[f]]).Perm X.flatten := by
  rw [mvX_drop X hf, getD_lt X [] hf]
  have h1 := perm_set hf (X[f].take (X[f].length - 1))
  have e := snoc_of h
  have h2 : ((X.set f (X[f].take (X[f].length - 1))).flatten ++ [topL X[f]] ++ X[f].take (X[f].length - 1)).Perm (X.flatten ++ X[f].take (X[f].length - 1)) := by
    refine List.Perm.trans ?_ h1
    rw [List.append_assoc]
    refine List.Perm.append_left _ ?_
    conv => rhs; rw [e]
    exact List.perm_append_comm
  exact (List.perm_append_right_iff _).1 h2
theorem vy_drop {X : List (List Int)} (hv : vyB X = true) {f : Nat} (hf : f < X.length) (h : 0 < X[f].length) : vyB (mvX X f (-1)) = true := by
  obtain ⟨h1, h2, h3, h4⟩ := dB_true hv
  have hp := perm_drop hf h
  refine dB_yes ⟨by rw [mvX_len]; exact h1, ?_, fun p hm => ?_, ?_⟩
  · have := hp.length_eq
    rw [List.length_append] at this
    simp at this
    simp at h2 ⊢
    omega
  · exact h3 p (hp.mem_iff.1 (List.mem_append_left _ hm))
  · have := hp.nodup_iff.2 h4
    exact (List.nodup_append.1 this).1
theorem perm_both {X : List (List Int)} {f t : Nat} (hf : f < X.length) (ht : t < X.length) (hne : t ≠ f) (h : 0 < X[f].length) : (mvX X f t).flatten.Perm X.flatten := by
  have h1 := perm_drop hf h
  rw [mvX_drop X hf, getD_lt X [] hf] at h1
  rw [mvX_both X hf ht hne, getD_lt X [] hf, getD_lt X [] ht]
  have ht2 : t < (X.set f (X[f].take (X[f].length - 1))).length := by rw [List.length_set]; exact ht
  have h2 := perm_set ht2 (X[t] ++ [topL X[f]])
  have e : (X.set f (X[f].take (X[f].length - 1)))[t] = X[t] := List.getElem_set_ne (Ne.symm hne) _
  rw [e] at h2
  have h3 : (((X.set f (X[f].take (X[f].length - 1))).set t (X[t] ++ [topL X[f]])).flatten ++ X[t]).Perm (X.flatten ++ X[t]) := by
    refine h2.trans ?_
    refine List.Perm.trans ?_ (h1.append_right X[t])
    rw [List.append_assoc]
    exact List.Perm.append_left _ List.perm_append_comm
  exact (List.perm_append_right_iff _).1 h3
theorem vy_both {X : List (List Int)} (hv : vyB X = true) {f t : Nat} (hf : f < X.length) (ht : t < X.length) (hne : t ≠ f) (h : 0 < X[f].length) : vyB (mvX X f t) = true := by
  obtain ⟨h1, h2, h3, h4⟩ := dB_true hv
  have hp := perm_both hf ht hne h
  exact dB_yes ⟨by rw [mvX_len]; exact h1, by rw [hp.length_eq]; exact h2, fun p hm => h3 p (hp.mem_iff.1 hm), hp.nodup_iff.2 h4⟩
theorem topL_snoc (r : List Int) (p : Int) : topL (r ++ [p]) = p := by
  unfold topL
  rw [if_neg (by simp)]
  simp
theorem mv_back {X : List (List Int)} {f t : Nat} (hf : f < X.length) (ht : t < X.length) (hne : t ≠ f) (h : 0 < X[f].length) : mvX (mvX X f t) t f = X := by
  have hl := mvX_len X f t
  have hb := mvX_both X hf ht hne
  rw [getD_lt X [] hf, getD_lt X [] ht] at hb
  have g1 : (mvX X f t).getD t [] = X[t] ++ [topL X[f]] := by
    rw [hb, List.getD_eq_getElem?_getD, List.getElem?_set_self (by simpa using ht)]
    rfl
  have g2 : (mvX X f t).getD f [] = X[f].take (X[f].length - 1) := by
    rw [hb, List.getD_eq_getElem?_getD, List.getElem?_set_ne hne, List.getElem?_set_self (by simpa using hf)]
    rfl
  rw [mvX_both (mvX X f t) (f := t) (t := f) (by omega) (by omega) (Ne.symm hne), g1, g2, topL_snoc]
  rw [show (X[t] ++ [topL X[f]]).take ((X[t] ++ [topL X[f]]).length - 1) = X[t] by simp, ← snoc_of h, hb]
  apply List.ext_getElem
  · simp
  · intro i h1 h2
    rw [List.getElem_set, List.getElem_set, List.getElem_set, List.getElem_set]
    by_cases e : f = i
    · subst e; rw [if_pos rfl]
    · rw [if_neg e]
      by_cases e2 : t = i
      · subst e2; rw [if_pos rfl]
      · rw [if_neg e2, if_neg e2, if_neg e]
theorem mv_ne {X : List (List Int)} {f t : Nat} (hf : f < X.length) (ht : t < X.length) (hne : t ≠ f) (h : 0 < X[f].length) : mvX X f t ≠ X := by
  intro e
  have hb := mvX_both X hf ht hne
  rw [getD_lt X [] hf, e] at hb
  have g2 : X.getD f [] = X[f].take (X[f].length - 1) := by
    conv => lhs; rw [hb]
    rw [List.getD_eq_getElem?_getD, List.getElem?_set_ne hne, List.getElem?_set_self (by simpa using hf)]
    rfl
  rw [getD_lt X [] hf] at g2
  have := congrArg List.length g2
  rw [List.length_take] at this
  omega
theorem mvOk_at {X : List (List Int)} {f t : Nat} (hf : f < X.length) (ht : t < X.length) : mvOk X f t = (decide (t ≠ f) && decide (0 < X[f].length)) := by
  unfold mvOk
  rw [Int.toNat_natCast, getD_lt X [] hf]
  by_cases e : t ≠ f
  · by_cases h : 0 < X[f].length
    · rw [decide_eq_true e, decide_eq_true h, decide_eq_true (by omega)]; rfl
    · rw [decide_eq_false h, decide_eq_false (by omega)]; simp
  · rw [decide_eq_false e, decide_eq_false (by omega)]; simp
theorem mvOk_off {X : List (List Int)} {f : Nat} (hf : f < X.length) (h : 0 < X[f].length) : mvOk X f (-1) = true := by
  unfold mvOk
  rw [Int.toNat_natCast, getD_lt X [] hf]
  exact decide_eq_true ⟨by omega, by omega, h, by omega, by omega, by omega⟩
end Go.Proofs.YtiefiikheaiekaaDoor
