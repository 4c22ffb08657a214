/-
  Loading an order, the plain part: when there is a list of moves; how many yards there are.
-/
import Derived.Test.YtiefiikheaiekaaDoorYardG
import Derived.Test.YtiefiikheaiekaaDoorYardPlain2
/-
  Loading an order, the plain part: greedy lists of moves, the first of the least ones.
-/
namespace Go.Proofs.YtiefiikheaiekaaDoor

/-- the first difference is to the left's favour -/
def mlt (a b : Int × Int) : Prop := a.1 < b.1 ∨ (a.1 = b.1 ∧ a.2 < b.2)
theorem mlt_irrefl (a : Int × Int) : ¬ mlt a a := by unfold mlt; omega
theorem mlt_trans {a b c : Int × Int} (h : mlt a b) (h2 : mlt b c) : mlt a c := by unfold mlt at *; omega
def LexLt (l l' : List (Int × Int)) : Prop := ∃ (p : List (Int × Int)) (a b : Int × Int) (t t' : List (Int × Int)), l = p ++ a :: t ∧ l' = p ++ b :: t' ∧ mlt a b
theorem LexLt.cons {l l' : List (Int × Int)} (x : Int × Int) (h : LexLt l l') : LexLt (x :: l) (x :: l') := by
  obtain ⟨p, a, b, t, t', rfl, rfl, hm⟩ := h
  exact ⟨x :: p, a, b, t, t', rfl, rfl, hm⟩
theorem LexLt.head {a b : Int × Int} (h : mlt a b) (t t' : List (Int × Int)) : LexLt (a :: t) (b :: t') := ⟨[], a, b, t, t', rfl, rfl, h⟩
theorem LexLt.app {l l' : List (Int × Int)} (h : LexLt l l') (x y : List (Int × Int)) : LexLt (l ++ x) (l' ++ y) := by
  obtain ⟨p, a, b, t, t', rfl, rfl, hm⟩ := h
  exact ⟨p, a, b, t ++ x, t' ++ y, by simp, by simp, hm⟩
theorem LexLt.pre {l l' : List (Int × Int)} (h : LexLt l l') (x : List (Int × Int)) : LexLt (x ++ l) (x ++ l') := by
  obtain ⟨p, a, b, t, t', rfl, rfl, hm⟩ := h
  exact ⟨x ++ p, a, b, t, t', by simp, by simp, hm⟩
/-- by the heads -/
theorem lex_cons {a b : Int × Int} {l l' : List (Int × Int)} : LexLt (a :: l) (b :: l') ↔ mlt a b ∨ (a = b ∧ LexLt l l') := by
  constructor
  · rintro ⟨p, x, y, t, t', e1, e2, hm⟩
    cases p with
    | nil =>
      simp only [List.nil_append, List.cons.injEq] at e1 e2
      rw [e1.1, e2.1]
      exact .inl hm
    | cons q p =>
      simp only [List.cons_append, List.cons.injEq] at e1 e2
      exact .inr ⟨e1.1.trans e2.1.symm, p, x, y, t, t', e1.2, e2.2, hm⟩
  · rintro (h | ⟨rfl, h⟩)
    · exact LexLt.head h _ _
    · exact h.cons _
theorem lex_nil (l : List (Int × Int)) : ¬ LexLt [] l := by
  rintro ⟨p, x, y, t, t', e1, _, _⟩
  simp at e1
theorem lex_nil' (l : List (Int × Int)) : ¬ LexLt l [] := by
  rintro ⟨p, x, y, t, t', _, e1, _⟩
  simp at e1
theorem lex_irrefl : ∀ l : List (Int × Int), ¬ LexLt l l
  | [] => lex_nil _
  | a :: l => fun h => by
    rcases lex_cons.1 h with h | h
    · exact mlt_irrefl _ h
    · exact lex_irrefl l h.2
theorem lex_trans : ∀ {l l' l'' : List (Int × Int)}, LexLt l l' → LexLt l' l'' → LexLt l l''
  | [], _, _, h, _ => absurd h (lex_nil _)
  | _ :: _, [], _, h, _ => absurd h (lex_nil' _)
  | _ :: _, _ :: _, [], _, h => absurd h (lex_nil' _)
  | a :: l, b :: l', c :: l'', h, h2 => by
    rcases lex_cons.1 h with h3 | ⟨e3, h3⟩
    · rcases lex_cons.1 h2 with h4 | ⟨e4, h4⟩
      · exact lex_cons.2 (.inl (mlt_trans h3 h4))
      · exact lex_cons.2 (.inl (e4 ▸ h3))
    · rcases lex_cons.1 h2 with h4 | ⟨e4, h4⟩
      · exact lex_cons.2 (.inl (e3 ▸ h4))
      · exact lex_cons.2 (.inr ⟨e3.trans e4, lex_trans h3 h4⟩)
/-- not after -/
def LexLe (l l' : List (Int × Int)) : Prop := l = l' ∨ LexLt l l'
theorem LexLe.refl (l : List (Int × Int)) : LexLe l l := .inl rfl
theorem LexLe.trans {l l' l'' : List (Int × Int)} (h : LexLe l l') (h2 : LexLe l' l'') : LexLe l l'' := by
  rcases h with rfl | h
  · exact h2
  · rcases h2 with rfl | h2
    · exact .inr h
    · exact .inr (lex_trans h h2)
theorem LexLe.cons {l l' : List (Int × Int)} (x : Int × Int) (h : LexLe l l') : LexLe (x :: l) (x :: l') := by
  rcases h with rfl | h
  · exact .inl rfl
  · exact .inr (h.cons x)
theorem LexLe.antisymm {l l' : List (Int × Int)} (h : LexLe l l') (h2 : LexLe l' l) : l = l' := by
  rcases h with h | h
  · exact h
  · rcases h2 with h2 | h2
    · exact h2.symm
    · exact absurd (lex_trans h h2) (lex_irrefl _)

/-! ## greedy lists -/
/-- the stack whose top is the pack -/
def nextK (X : List (List Int)) (p : Int) : Option Nat := X.findIdx? (fun r => topL r == p)
theorem nextK_some {X : List (List Int)} {p : Int} {k : Nat} (h : nextK X p = some k) : ∃ hk : k < X.length, topL X[k] = p := by
  obtain ⟨hk, h2, _⟩ := List.findIdx?_eq_some_iff_getElem.1 h
  exact ⟨hk, by simpa using h2⟩
theorem nextK_none {X : List (List Int)} {p : Int} (h : nextK X p = none) : ∀ k (hk : k < X.length), topL X[k] ≠ p := by
  intro k hk e
  have := List.findIdx?_eq_none_iff.1 h X[k] (List.getElem_mem hk)
  simp [e] at this
/-- a list that loads whenever it can, with n moves between stacks -/
inductive Sol : List (List Int) → List Int → List (Int × Int) → Nat → Prop
  | done {X : List (List Int)} : Sol X [] [] 0
  | load {X : List (List Int)} {p : Int} {r : List Int} {L : List (Int × Int)} {n k : Nat} (h : nextK X p = some k) (s : Sol (mvX X k (-1)) r L n) : Sol X (p :: r) (((k : Int), -1) :: L) n
  | move {X : List (List Int)} {p : Int} {r : List Int} {L : List (Int × Int)} {n i k : Nat} (h : nextK X p = none) (hi : i < X.length) (hk : k < X.length) (hm : mvOk X i k = true) (s : Sol (mvX X i k) (p :: r) L n) : Sol X (p :: r) (((i : Int), (k : Int)) :: L) (n + 1)
/-- the first one of the least -/
structure Best (X : List (List Int)) (o : List Int) (L : List (Int × Int)) (n : Nat) : Prop where
  sol : Sol X o L n
  least : ∀ L' n', Sol X o L' n' → n ≤ n'
  first : ∀ L', Sol X o L' n → LexLe L L'
theorem Best.unique {X : List (List Int)} {o : List Int} {L L' : List (Int × Int)} {n n' : Nat} (h : Best X o L n) (h' : Best X o L' n') : L = L' ∧ n = n' := by
  have e : n = n' := Nat.le_antisymm (h.least _ _ h'.sol) (h'.least _ _ h.sol)
  subst e
  exact ⟨(h.first _ h'.sol).antisymm (h'.first _ h.sol), rfl⟩
theorem best_of {X : List (List Int)} {o : List Int} {L : List (Int × Int)} {n : Nat} (h : Sol X o L n) : ∃ m L', Sol X o L' m ∧ ∀ L' n', Sol X o L' n' → m ≤ n' := by
  induction n using Nat.strongRecOn generalizing L with
  | _ n ih =>
    by_cases h2 : ∃ L' n', Sol X o L' n' ∧ n' < n
    · obtain ⟨L', n', h3, h4⟩ := h2
      exact ih n' h4 h3
    · exact ⟨n, L, h, fun L' n' h3 => by
        by_cases h4 : n' < n
        · exact absurd ⟨L', n', h3, h4⟩ h2
        · omega⟩
end Go.Proofs.YtiefiikheaiekaaDoor
/-
  Yards, the plain part: packs on top, a move back.
-/
namespace Go.Proofs.YtiefiikheaiekaaDoor

theorem nodup_at {X : List (List Int)} (h : X.flatten.Nodup) : ∀ (i j k m : Nat) (hi : i < X.length) (hj : j < X.length) (hk : k < X[i].length) (hm : m < X[j].length), X[i][k] = X[j][m] → i = j ∧ k = m := by
  induction X with
  | nil => intro i j k m hi; simp at hi
  | cons r Y ih =>
    rw [List.flatten_cons, List.nodup_append] at h
    obtain ⟨h1, h2, h3⟩ := h
    intro i j k m hi hj hk hm e
    cases i with
    | zero =>
      cases j with
      | zero =>
        simp only [List.getElem_cons_zero] at e hk hm
        exact ⟨rfl, (List.getElem_inj h1).1 e⟩
      | succ j =>
        simp only [List.getElem_cons_zero, List.getElem_cons_succ] at e hk hm
        exact absurd e (h3 _ (List.getElem_mem hk) _ (List.mem_flatten.2 ⟨Y[j]'(by simpa using hj), List.getElem_mem _, List.getElem_mem hm⟩))
    | succ i =>
      cases j with
      | zero =>
        simp only [List.getElem_cons_zero, List.getElem_cons_succ] at e hk hm
        exact absurd e.symm (h3 _ (List.getElem_mem hm) _ (List.mem_flatten.2 ⟨Y[i]'(by simpa using hi), List.getElem_mem _, List.getElem_mem hk⟩))
      | succ j =>
        simp only [List.getElem_cons_succ] at e hk hm
        obtain ⟨e1, e2⟩ := ih h2 i j k m (by simpa using hi) (by simpa using hj) hk hm e
        exact ⟨by rw [e1], e2⟩
theorem above_at {X : List (List Int)} (hv : vyB X = true) {i k : Nat} (hi : i < X.length) (hk : k < X[i].length) : pabP X X[i][k] = ((X[i].length : Int) - 1 - k, 0) := by
  have hn := (dB_true hv).2.2.2
  unfold pabP
  rw [if_pos hv]
  rcases fdP_cases X X[i][k] with ⟨_, hno⟩ | ⟨j, m, hj, hm, hf, he, _⟩
  · have := hno i hi
    unfold hasB at this
    rw [List.any_eq_false] at this
    have := this _ (List.getElem_mem hk)
    simp at this
  · obtain ⟨rfl, rfl⟩ := nodup_at hn j i m k hj hi hm hk he
    unfold pabP'
    rw [hf]
    simp only
    rw [if_neg (by omega), Int.toNat_natCast, getD_lt X [] hi]
theorem top_at {X : List (List Int)} (hv : vyB X = true) {i k : Nat} (hi : i < X.length) (hk : k < X[i].length) : (topL X[i] = X[i][k]) ↔ k = X[i].length - 1 := by
  have hn := (dB_true hv).2.2.2
  unfold topL
  rw [if_neg (by omega), getD_lt X[i] 0 (by omega)]
  constructor
  · intro e
    exact (nodup_at hn i i _ k hi hi (by omega) hk e).2.symm
  · intro e
    subst e
    rfl
theorem top_none {r : List Int} (h : r.length = 0) : topL r = 0 := by
  unfold topL
  rw [if_pos h]

/-! ## moves -/
theorem perm_set {X : List (List Int)} {i : Nat} (hi : i < X.length) (a : List Int) : ((X.set i a).flatten ++ X[i]).Perm (X.flatten ++ a) := by
  induction X generalizing i with
  | nil => simp at hi
  | cons r Y ih =>
    cases i with
    | zero =>
      simp only [List.set_cons_zero, List.flatten_cons, List.getElem_cons_zero]
      rw [List.append_assoc, List.append_assoc]
      refine (List.perm_append_comm (l₁ := a)).trans ?_
      rw [List.append_assoc]
      refine List.Perm.trans ?_ (List.perm_append_comm_assoc Y.flatten r a)
      exact List.Perm.refl _
    | succ i =>
      simp only [List.set_cons_succ, List.flatten_cons, List.getElem_cons_succ]
      rw [List.append_assoc, List.append_assoc]
      exact (ih (by simpa using hi)).append_left r
theorem snoc_of {r : List Int} (h : 0 < r.length) : r = r.take (r.length - 1) ++ [topL r] := by
  unfold topL
  rw [if_neg (by omega), getD_lt r 0 (by omega), ← List.take_succ_eq_append_getElem (by omega), List.take_of_length_le (by omega)]
theorem perm_drop {X : List (List Int)} {f : Nat} (hf : f < X.length) (h : 0 < X[f].length) : ((mvX X f (-1)).flatten ++ [topL X[f]]).Perm X.flatten := by
  rw [mvX_drop X hf, getD_lt X [] hf]
  have h1 := perm_set hf (X[f].take (X[f].length - 1))
  have e := snoc_of h
  have h2 : ((X.set f (X[f].take (X[f].length - 1))).flatten ++ [topL X[f]] ++ X[f].take (X[f].length - 1)).Perm (X.flatten ++ X[f].take (X[f].length - 1)) := by
    refine List.Perm.trans ?_ h1
    rw [List.append_assoc]
    refine List.Perm.append_left _ ?_
    conv => rhs; rw [e]
    exact List.perm_append_comm
  exact (List.perm_append_right_iff _).1 h2
theorem vy_drop {X : List (List Int)} (hv : vyB X = true) {f : Nat} (hf : f < X.length) (h : 0 < X[f].length) : vyB (mvX X f (-1)) = true := by
  obtain ⟨h1, h2, h3, h4⟩ := dB_true hv
  have hp := perm_drop hf h
  refine dB_yes ⟨by rw [mvX_len]; exact h1, ?_, fun p hm => ?_, ?_⟩
  · have := hp.length_eq
    rw [List.length_append] at this
    simp at this
    simp at h2 ⊢
    omega
  · exact h3 p (hp.mem_iff.1 (List.mem_append_left _ hm))
  · have := hp.nodup_iff.2 h4
    exact (List.nodup_append.1 this).1
theorem perm_both {X : List (List Int)} {f t : Nat} (hf : f < X.length) (ht : t < X.length) (hne : t ≠ f) (h : 0 < X[f].length) : (mvX X f t).flatten.Perm X.flatten := by
  have h1 := perm_drop hf h
  rw [mvX_drop X hf, getD_lt X [] hf] at h1
  rw [mvX_both X hf ht hne, getD_lt X [] hf, getD_lt X [] ht]
  have ht2 : t < (X.set f (X[f].take (X[f].length - 1))).length := by rw [List.length_set]; exact ht
  have h2 := perm_set ht2 (X[t] ++ [topL X[f]])
  have e : (X.set f (X[f].take (X[f].length - 1)))[t] = X[t] := List.getElem_set_ne (Ne.symm hne) _
  rw [e] at h2
  have h3 : (((X.set f (X[f].take (X[f].length - 1))).set t (X[t] ++ [topL X[f]])).flatten ++ X[t]).Perm (X.flatten ++ X[t]) := by
    refine h2.trans ?_
    refine List.Perm.trans ?_ (h1.append_right X[t])
    rw [List.append_assoc]
    exact List.Perm.append_left _ List.perm_append_comm
  exact (List.perm_append_right_iff _).1 h3
theorem vy_both {X : List (List Int)} (hv : vyB X = true) {f t : Nat} (hf : f < X.length) (ht : t < X.length) (hne : t ≠ f) (h : 0 < X[f].length) : vyB (mvX X f t) = true := by
  obtain ⟨h1, h2, h3, h4⟩ := dB_true hv
  have hp := perm_both hf ht hne h
  exact dB_yes ⟨by rw [mvX_len]; exact h1, by rw [hp.length_eq]; exact h2, fun p hm => h3 p (hp.mem_iff.1 hm), hp.nodup_iff.2 h4⟩
theorem topL_snoc (r : List Int) (p : Int) : topL (r ++ [p]) = p := by
  unfold topL
  rw [if_neg (by simp)]
  simp
theorem mv_back {X : List (List Int)} {f t : Nat} (hf : f < X.length) (ht : t < X.length) (hne : t ≠ f) (h : 0 < X[f].length) : mvX (mvX X f t) t f = X := by
  have hl := mvX_len X f t
  have hb := mvX_both X hf ht hne
  rw [getD_lt X [] hf, getD_lt X [] ht] at hb
  have g1 : (mvX X f t).getD t [] = X[t] ++ [topL X[f]] := by
    rw [hb, List.getD_eq_getElem?_getD, List.getElem?_set_self (by simpa using ht)]
    rfl
  have g2 : (mvX X f t).getD f [] = X[f].take (X[f].length - 1) := by
    rw [hb, List.getD_eq_getElem?_getD, List.getElem?_set_ne hne, List.getElem?_set_self (by simpa using hf)]
    rfl
  rw [mvX_both (mvX X f t) (f := t) (t := f) (by omega) (by omega) (Ne.symm hne), g1, g2, topL_snoc]
  rw [show (X[t] ++ [topL X[f]]).take ((X[t] ++ [topL X[f]]).length - 1) = X[t] by simp, ← snoc_of h, hb]
  apply List.ext_getElem
  · simp
  · intro i h1 h2
    rw [List.getElem_set, List.getElem_set, List.getElem_set, List.getElem_set]
    by_cases e : f = i
    · subst e; rw [if_pos rfl]
    · rw [if_neg e]
      by_cases e2 : t = i
      · subst e2; rw [if_pos rfl]
      · rw [if_neg e2, if_neg e2, if_neg e]
theorem mv_ne {X : List (List Int)} {f t : Nat} (hf : f < X.length) (ht : t < X.length) (hne : t ≠ f) (h : 0 < X[f].length) : mvX X f t ≠ X := by
  intro e
  have hb := mvX_both X hf ht hne
  rw [getD_lt X [] hf, e] at hb
  have g2 : X.getD f [] = X[f].take (X[f].length - 1) := by
    conv => lhs; rw [hb]
    rw [List.getD_eq_getElem?_getD, List.getElem?_set_ne hne, List.getElem?_set_self (by simpa using hf)]
    rfl
  rw [getD_lt X [] hf] at g2
  have := congrArg List.length g2
  rw [List.length_take] at this
  omega
theorem mvOk_at {X : List (List Int)} {f t : Nat} (hf : f < X.length) (ht : t < X.length) : mvOk X f t = (decide (t ≠ f) && decide (0 < X[f].length)) := by
  unfold mvOk
  rw [Int.toNat_natCast, getD_lt X [] hf]
  by_cases e : t ≠ f
  · by_cases h : 0 < X[f].length
    · rw [decide_eq_true e, decide_eq_true h, decide_eq_true (by omega)]; rfl
    · rw [decide_eq_false h, decide_eq_false (by omega)]; simp
  · rw [decide_eq_false e, decide_eq_false (by omega)]; simp
theorem mvOk_off {X : List (List Int)} {f : Nat} (hf : f < X.length) (h : 0 < X[f].length) : mvOk X f (-1) = true := by
  unfold mvOk
  rw [Int.toNat_natCast, getD_lt X [] hf]
  exact decide_eq_true ⟨by omega, by omega, h, by omega, by omega, by omega⟩
end Go.Proofs.YtiefiikheaiekaaDoor
/-
  Loading an order, the plain part: what is in the way is a lower bound; a list exists.
-/
namespace Go.Proofs.YtiefiikheaiekaaDoor

/-- a yard and what is still to be loaded from it -/
structure Inv (X : List (List Int)) (o : List Int) : Prop where
  vy : vyB X = true
  mem : ∀ p ∈ o, p ∈ X.flatten
  nd : o.Nodup
theorem Inv.pos {X : List (List Int)} {o : List Int} (h : Inv X o) {p : Int} (hp : p ∈ o) : 1 ≤ p := ((dB_true h.vy).2.2.1 p (h.mem p hp)).1
theorem Inv.next {X : List (List Int)} {p : Int} {r : List Int} {k : Nat} (h : Inv X (p :: r)) (hk : nextK X p = some k) : ∃ hk : k < X.length, topL X[k] = p ∧ 0 < X[k].length := by
  obtain ⟨h1, h2⟩ := nextK_some hk
  refine ⟨h1, h2, ?_⟩
  by_cases h3 : X[k].length = 0
  · rw [top_none h3] at h2
    have := h.pos (p := p) List.mem_cons_self
    omega
  · omega
theorem Inv.load {X : List (List Int)} {p : Int} {r : List Int} {k : Nat} (h : Inv X (p :: r)) (hk : nextK X p = some k) : Inv (mvX X k (-1)) r ∧ p ∉ (mvX X k (-1)).flatten := by
  obtain ⟨h1, h2, h3⟩ := h.next hk
  have hp := perm_drop h1 h3
  rw [h2] at hp
  have hn := hp.nodup_iff.2 (dB_true h.vy).2.2.2
  have hpn : p ∉ (mvX X k (-1)).flatten := fun hm => (List.nodup_append.1 hn).2.2 p hm p (by simp) rfl
  have hnd := List.nodup_cons.1 h.nd
  refine ⟨⟨vy_drop h.vy h1 h3, fun q hq => ?_, hnd.2⟩, hpn⟩
  have hm := hp.mem_iff.2 (h.mem q (List.mem_cons_of_mem _ hq))
  rcases List.mem_append.1 hm with hm | hm
  · exact hm
  · simp at hm
    subst hm
    exact absurd hq hnd.1
theorem mvOk_parts {X : List (List Int)} {i k : Nat} (hi : i < X.length) (hk : k < X.length) (h : mvOk X i k = true) : k ≠ i ∧ 0 < X[i].length := by
  rw [mvOk_at hi hk, Bool.and_eq_true, decide_eq_true_eq, decide_eq_true_eq] at h
  exact h
theorem Inv.move {X : List (List Int)} {o : List Int} {i k : Nat} (h : Inv X o) (hi : i < X.length) (hk : k < X.length) (hm : mvOk X i k = true) : Inv (mvX X i k) o := by
  obtain ⟨h1, h2⟩ := mvOk_parts hi hk hm
  exact ⟨vy_both h.vy hi hk h1 h2, fun p hp => (perm_both hi hk h1 h2).mem_iff.2 (h.mem p hp), h.nd⟩

/-! ## in the way -/
theorem inWay_pre {o r1 r2 : List Int} {m k : Nat} (h1 : m ≤ r1.length) (h2 : m ≤ r2.length) (e : r1.take m = r2.take m) (hk : k < m) : inWay o r1 k = inWay o r2 k := by
  have e1 : r1.take k = r2.take k := by
    have := congrArg (List.take k) e
    rw [List.take_take, List.take_take, Nat.min_eq_left (by omega)] at this
    exact this
  have e2 : r1.getD k 0 = r2.getD k 0 := by
    have := congrArg (fun l => l.getD k 0) e
    rw [getD_lt _ 0 (by rw [List.length_take]; omega), getD_lt _ 0 (by rw [List.length_take]; omega), List.getElem_take, List.getElem_take] at this
    rw [getD_lt _ 0 (by omega), getD_lt _ 0 (by omega)]
    exact this
  unfold inWay
  rw [e1, e2]
theorem wayR_pre {o r1 r2 : List Int} {m : Nat} (h1 : m ≤ r1.length) (h2 : m ≤ r2.length) (e : r1.take m = r2.take m) : wayR o r1 m = wayR o r2 m := by
  unfold wayR
  congr 1
  apply List.filter_congr
  intro k hk
  exact inWay_pre h1 h2 e (List.mem_range.1 hk)
theorem wayR_top {o r : List Int} (h : 0 < r.length) : wayR o r r.length = wayR o (r.take (r.length - 1)) (r.take (r.length - 1)).length + if inWay o r (r.length - 1) = true then 1 else 0 := by
  have h1 : (r.take (r.length - 1)).length = r.length - 1 := by rw [List.length_take]; omega
  obtain ⟨m, hm⟩ : ∃ m, r.length = m + 1 := ⟨r.length - 1, by omega⟩
  have h2 := wayR_succ o r m
  rw [h1, hm]
  rw [hm] at h1
  simp only [Nat.add_sub_cancel] at h1 ⊢
  rw [h2, wayR_pre (o := o) (r1 := r) (r2 := r.take m) (m := m) (by omega) (by omega) (by rw [List.take_take, Nat.min_self])]
theorem wayR_snoc (o r : List Int) (q : Int) : wayR o r r.length ≤ wayR o (r ++ [q]) (r ++ [q]).length := by
  have h := wayR_top (o := o) (r := r ++ [q]) (by simp)
  rw [h]
  have e : (r ++ [q]).take ((r ++ [q]).length - 1) = r := by simp
  rw [e]
  omega
theorem wayX_set (o : List Int) {X : List (List Int)} {i : Nat} (hi : i < X.length) (a : List Int) : wayX o (X.set i a) + wayR o X[i] X[i].length = wayX o X + wayR o a a.length := by
  induction X generalizing i with
  | nil => simp at hi
  | cons r Y ih =>
    cases i with
    | zero =>
      simp only [wayX, List.set_cons_zero, List.map_cons, List.sum_cons, List.getElem_cons_zero]
      omega
    | succ i =>
      have := ih (i := i) (by simpa using hi)
      simp only [wayX, List.set_cons_succ, List.map_cons, List.sum_cons, List.getElem_cons_succ] at this ⊢
      omega
theorem way_move (o : List Int) {X : List (List Int)} {i k : Nat} (hi : i < X.length) (hk : k < X.length) (hne : k ≠ i) (h : 0 < X[i].length) : wayX o X ≤ wayX o (mvX X i k) + 1 := by
  rw [mvX_both X hi hk hne, getD_lt X [] hi, getD_lt X [] hk]
  have h1 := wayX_set o hi (X[i].take (X[i].length - 1))
  have hk2 : k < (X.set i (X[i].take (X[i].length - 1))).length := by rw [List.length_set]; exact hk
  have h2 := wayX_set o hk2 (X[k] ++ [topL X[i]])
  have e : (X.set i (X[i].take (X[i].length - 1)))[k] = X[k] := List.getElem_set_ne (Ne.symm hne) _
  rw [e] at h2
  have h3 := wayR_snoc o X[k] (topL X[i])
  have h4 := wayR_top (o := o) h
  split at h4 <;> omega
theorem plc_cons (p : Int) (r : List Int) (b : Int) : plc (p :: r) b = if b = p then 0 else plc r b + 1 := by
  unfold plc
  rw [List.findIdx?_cons]
  by_cases h : b = p
  · subst h; simp
  · have h2 : (p == b) = false := by rw [beq_eq_false_iff_ne]; exact fun e => h e.symm
    rw [h2, if_neg h]
    cases r.findIdx? (fun x => x == b) <;> simp
theorem way_drop {p : Int} {r : List Int} {X : List (List Int)} (h : p ∉ X.flatten) : wayX (p :: r) X = wayX r X := by
  unfold wayX
  congr 1
  apply List.map_congr_left
  intro s hs
  unfold wayR
  congr 1
  apply List.filter_congr
  intro k hk
  have hk' := List.mem_range.1 hk
  have hne : ∀ b ∈ s, b ≠ p := fun b hb e => h (List.mem_flatten.2 ⟨s, hs, e ▸ hb⟩)
  unfold inWay
  rw [Bool.eq_iff_iff, List.any_eq_true, List.any_eq_true]
  have hkb : s.getD k 0 ≠ p := by
    rw [getD_lt _ 0 hk']
    exact hne _ (List.getElem_mem _)
  constructor
  · rintro ⟨b, hb, hd⟩
    refine ⟨b, hb, ?_⟩
    rw [decide_eq_true_eq, plc_cons, plc_cons, if_neg (hne b (List.mem_of_mem_take hb)), if_neg hkb] at hd
    rw [decide_eq_true_eq]
    omega
  · rintro ⟨b, hb, hd⟩
    refine ⟨b, hb, ?_⟩
    rw [decide_eq_true_eq] at hd
    rw [decide_eq_true_eq, plc_cons, plc_cons, if_neg (hne b (List.mem_of_mem_take hb)), if_neg hkb]
    omega
theorem way_load {X : List (List Int)} {p : Int} {r : List Int} {k : Nat} (h : Inv X (p :: r)) (hk : nextK X p = some k) : wayX (p :: r) X = wayX r (mvX X k (-1)) := by
  obtain ⟨h1, h2, h3⟩ := h.next hk
  rw [← way_drop (h.load hk).2, mvX_drop X h1, getD_lt X [] h1]
  have h4 := wayX_set (p :: r) h1 (X[k].take (X[k].length - 1))
  have h5 := wayR_top (o := p :: r) h3
  have h6 : inWay (p :: r) X[k] (X[k].length - 1) = false := by
    unfold inWay
    rw [List.any_eq_false]
    intro b _
    have h7 : X[k].getD (X[k].length - 1) 0 = p := by
      unfold topL at h2
      rw [if_neg (by omega)] at h2
      exact h2
    rw [h7, plc_cons, plc_cons p r p, if_pos rfl]
    simp
  rw [h6, if_neg (by simp)] at h5
  omega
theorem wayNil : ∀ X : List (List Int), (X.map fun r => wayR [] r r.length).sum = 0
  | [] => rfl
  | s :: X => by
    have h0 : wayR [] s s.length = 0 := by
      unfold wayR
      rw [List.length_eq_zero_iff, List.filter_eq_nil_iff]
      intro k _
      unfold inWay plc
      simp
    rw [List.map_cons, List.sum_cons, h0, wayNil X]
/-- no list has fewer moves than packs are in the way -/
theorem way_le {X : List (List Int)} {o : List Int} {L : List (Int × Int)} {n : Nat} (s : Sol X o L n) (h : Inv X o) : wayX o X ≤ n := by
  induction s with
  | @done X =>
    have : wayX [] X = 0 := by
      exact wayNil X
    omega
  | load hk _ ih =>
    rw [way_load h hk]
    exact ih (h.load hk).1
  | @move X p r L n i k _ hi hk hm _ ih =>
    obtain ⟨h1, h2⟩ := mvOk_parts hi hk hm
    have := way_move (p :: r) hi hk h1 h2
    have := ih (h.move hi hk hm)
    omega
end Go.Proofs.YtiefiikheaiekaaDoor
/-
  Loading an order, the plain part: a list exists; the search in depth finds the first of the least.
-/
namespace Go.Proofs.YtiefiikheaiekaaDoor

/-! ## two moves of one pack -/
theorem mv_comp {X : List (List Int)} {i k j : Nat} (hi : i < X.length) (hk : k < X.length) (hj : j < X.length) (h1 : k ≠ i) (h2 : j ≠ k) (h3 : j ≠ i) : mvX (mvX X i k) k j = mvX X i j := by
  have hl := mvX_len X i k
  have hb := mvX_both X hi hk h1
  rw [getD_lt X [] hi, getD_lt X [] hk] at hb
  have g1 : (mvX X i k).getD k [] = X[k] ++ [topL X[i]] := by
    rw [hb, List.getD_eq_getElem?_getD, List.getElem?_set_self (by simpa using hk)]
    rfl
  have g2 : (mvX X i k).getD j [] = X[j] := by
    rw [hb, List.getD_eq_getElem?_getD, List.getElem?_set_ne (Ne.symm h2), List.getElem?_set_ne (Ne.symm h3), List.getElem?_eq_getElem hj]
    rfl
  rw [mvX_both (mvX X i k) (f := k) (t := j) (by omega) (by omega) h2, g1, g2, topL_snoc, mvX_both X hi hj h3, getD_lt X [] hi, getD_lt X [] hj]
  rw [show (X[k] ++ [topL X[i]]).take ((X[k] ++ [topL X[i]]).length - 1) = X[k] by simp, hb]
  apply List.ext_getElem
  · simp
  · intro m m1 m2
    simp only [List.getElem_set]
    by_cases e1 : j = m
    · subst e1; simp
    · by_cases e2 : k = m
      · subst e2
        rw [if_neg e1, if_pos rfl, if_neg e1, if_neg (fun e => h1 e.symm)]
      · rw [if_neg e1, if_neg e2, if_neg e2, if_neg e1]
/-- no pack is moved that has just been moved -/
inductive SolC : List (List Int) → List Int → Int → List (Int × Int) → Nat → Prop
  | done {X : List (List Int)} {last : Int} : SolC X [] last [] 0
  | load {X : List (List Int)} {p : Int} {r : List Int} {last : Int} {L : List (Int × Int)} {n k : Nat} (h : nextK X p = some k) (s : SolC (mvX X k (-1)) r (-1) L n) : SolC X (p :: r) last (((k : Int), -1) :: L) n
  | move {X : List (List Int)} {p : Int} {r : List Int} {last : Int} {L : List (Int × Int)} {n i k : Nat} (h : nextK X p = none) (hi : i < X.length) (hk : k < X.length) (hm : mvOk X i k = true) (hl : (i : Int) ≠ last) (s : SolC (mvX X i k) (p :: r) (k : Int) L n) : SolC X (p :: r) last (((i : Int), (k : Int)) :: L) (n + 1)
theorem SolC.sol {X : List (List Int)} {o : List Int} {last : Int} {L : List (Int × Int)} {n : Nat} (h : SolC X o last L n) : Sol X o L n := by
  induction h with
  | done => exact .done
  | load h _ ih => exact .load h ih
  | move h hi hk hm _ _ ih => exact .move h hi hk hm ih
/-- a least one moves no pack twice -/
theorem Sol.clean {X : List (List Int)} {o : List Int} {L : List (Int × Int)} {n : Nat} (s : Sol X o L n) : ∀ last : Int, (∀ L' n', Sol X o L' n' → n ≤ n') → (∀ (i k : Nat) (L' : List (Int × Int)) , L = ((i : Int), (k : Int)) :: L' → (i : Int) ≠ last) → SolC X o last L n := by
  induction s with
  | done => intro last _ _; exact .done
  | @load X p r L n k h s ih =>
    intro last hmin _
    refine .load h (ih (-1) (fun L' n' s' => hmin _ _ (.load h s')) (fun i k' L' _ => ?_))
    omega
  | @move X p r L n i k h hi hk hm s ih =>
    intro last hmin hlast
    obtain ⟨m1, m2⟩ := mvOk_parts hi hk hm
    refine .move h hi hk hm (hlast i k L rfl) (ih k (fun L' n' s' => ?_) (fun a b L' e => ?_))
    · have := hmin _ _ (.move h hi hk hm s')
      omega
    · subst e
      intro e
      have ea : a = k := by omega
      subst ea
      cases s with
      | @move _ _ _ _ n2 _ _ _ hi2 hk2 hmm s2 =>
        obtain ⟨q1, q2⟩ := mvOk_parts hi2 hk2 hmm
        have hb : b < X.length := by rw [mvX_len] at hk2; exact hk2
        by_cases e3 : b = i
        · subst e3
          rw [mv_back hi hk m1 m2] at s2
          have := hmin _ _ s2
          omega
        · rw [mv_comp hi hk hb m1 q1 e3] at s2
          have hm3 : mvOk X i b = true := by rw [mvOk_at hi hb, decide_eq_true e3, decide_eq_true m2]; rfl
          have := hmin _ _ (.move h hi hb hm3 s2)
          omega

/-! ## the search in depth -/
def tryAt (X : List (List Int)) (more : Nat) (last : Int) (f : List (List Int) → Int → Option (List (Int × Int))) (i k : Nat) : Option (List (Int × Int)) :=
  if mvOk X i k = true ∧ more ≠ 0 ∧ (i : Int) ≠ last then (f (mvX X i k) k).map (((i : Int), (k : Int)) :: ·) else none
def tryRow (X : List (List Int)) (more : Nat) (last : Int) (f : List (List Int) → Int → Option (List (Int × Int))) (i : Nat) (ks : List Nat) : Option (List (Int × Int)) := ks.findSome? (tryAt X more last f i)
def tryAll (X : List (List Int)) (more : Nat) (last : Int) (f : List (List Int) → Int → Option (List (Int × Int))) (is : List Nat) : Option (List (Int × Int)) := is.findSome? fun i => tryRow X more last f i (List.range X.length)
def srch : Nat → List (List Int) → List Int → Nat → Int → Option (List (Int × Int))
  | _, _, [], _, _ => some []
  | 0, _, _ :: _, _, _ => none
  | f + 1, X, p :: r, more, last =>
    if more < wayX (p :: r) X then none else
    match nextK X p with
    | some k => (srch f (mvX X k (-1)) r more (-1)).map (((k : Int), -1) :: ·)
    | none => tryAll X more last (fun Y l => srch f Y (p :: r) (more - 1) l) (List.range X.length)
theorem try_some {X : List (List Int)} {more : Nat} {last : Int} {f : List (List Int) → Int → Option (List (Int × Int))} {is : List Nat} {L : List (Int × Int)} (h : tryAll X more last f is = some L) :
    ∃ i k M, i ∈ is ∧ k < X.length ∧ mvOk X i k = true ∧ more ≠ 0 ∧ (i : Int) ≠ last ∧ f (mvX X i k) k = some M ∧ L = ((i : Int), (k : Int)) :: M := by
  obtain ⟨l1, i, l2, e, h1, _⟩ := List.findSome?_eq_some_iff.1 h
  obtain ⟨l3, k, l4, e2, h2, _⟩ := List.findSome?_eq_some_iff.1 h1
  unfold tryAt at h2
  split at h2
  · rename_i hc
    obtain ⟨M, hM, rfl⟩ := Option.map_eq_some_iff.1 h2
    exact ⟨i, k, M, by rw [e]; simp, List.mem_range.1 (by rw [e2]; simp), hc.1, hc.2.1, hc.2.2, hM, rfl⟩
  · cases h2
theorem srch_sound : ∀ (f : Nat) {X : List (List Int)} {o : List Int} {m : Nat} {last : Int} {L : List (Int × Int)}, srch f X o m last = some L → ∃ n, n ≤ m ∧ SolC X o last L n
  | f, X, [], m, last, L, h => by
    have : L = [] := by
      cases f <;> simp [srch] at h <;> exact h
    subst this
    exact ⟨0, by omega, .done⟩
  | 0, X, p :: r, m, last, L, h => by simp [srch] at h
  | f + 1, X, p :: r, m, last, L, h => by
    unfold srch at h
    split at h
    · cases h
    · split at h
      · rename_i k hk
        obtain ⟨M, hM, rfl⟩ := Option.map_eq_some_iff.1 h
        obtain ⟨n, hn, s⟩ := srch_sound f hM
        exact ⟨n, hn, .load hk s⟩
      · rename_i hk
        obtain ⟨i, k, M, hi, hkl, hm, hm0, hl, hM, rfl⟩ := try_some h
        obtain ⟨n, hn, s⟩ := srch_sound f hM
        exact ⟨n + 1, by omega, .move hk (List.mem_range.1 hi) hkl hm hl s⟩
/-- the first that is found is not after one that is there -/
theorem find_first {α : Type} (f : Nat → Option α) (n i : Nat) (hi : i < n) {a : α} (h : f i = some a) : ∃ j b, j ≤ i ∧ f j = some b ∧ (List.range n).findSome? f = some b ∧ ∀ m, m < j → f m = none := by
  cases hf : (List.range n).findSome? f with
  | none =>
    have := List.findSome?_eq_none_iff.1 hf i (List.mem_range.2 hi)
    rw [h] at this
    cases this
  | some b =>
    obtain ⟨l1, j, l2, e, h1, h2⟩ := List.findSome?_eq_some_iff.1 hf
    have hj : j = l1.length := by
      have := congrArg (fun l => l[l1.length]?) e
      simp only [List.getElem?_append_right (Nat.le_refl _), Nat.sub_self, List.getElem?_cons_zero] at this
      obtain ⟨hlt, e2⟩ := List.getElem?_eq_some_iff.1 this
      rw [List.getElem_range] at e2
      exact e2.symm
    have hl1 : l1 = List.range j := by
      have h3 := congrArg (List.take j) e
      rw [List.take_append_of_le_length (by omega), List.take_of_length_le (l := l1) (by omega)] at h3
      have hjn : j ≤ n := by
        have := congrArg List.length e
        simp at this
        omega
      rw [← h3, List.take_range, Nat.min_eq_left hjn]
    refine ⟨j, b, ?_, h1, rfl, fun m hm => h2 m (by rw [hl1]; exact List.mem_range.2 hm)⟩
    by_cases hij : j ≤ i
    · exact hij
    · have := h2 i (by rw [hl1]; exact List.mem_range.2 (by omega))
      rw [h] at this
      cases this
theorem srch_first : ∀ (f : Nat) {X : List (List Int)} {o : List Int} {m : Nat} {last : Int} {L' : List (Int × Int)} {n' : Nat}, m + o.length ≤ f → Inv X o → SolC X o last L' n' → n' ≤ m → ∃ L, srch f X o m last = some L ∧ LexLe L L'
  | f, X, [], m, last, L', n', _, _, s, _ => by
    cases s
    exact ⟨[], by cases f <;> rfl, LexLe.refl _⟩
  | 0, X, p :: r, m, last, L', n', hf, _, _, _ => by simp at hf
  | f + 1, X, p :: r, m, last, L', n', hf, hv, s, hn => by
    have hw := way_le s.sol hv
    unfold srch
    rw [if_neg (by omega)]
    cases s with
    | @load _ _ _ _ L n k h s =>
      obtain ⟨M, hM, hle⟩ := srch_first f (by simp at hf; omega) (hv.load h).1 s hn
      rw [h]
      exact ⟨((k : Int), -1) :: M, by simp [hM], hle.cons _⟩
    | @move _ _ _ _ L n i k h hi hk hm hl s =>
      obtain ⟨M, hM, hle⟩ := srch_first f (m := m - 1) (by simp at hf ⊢; omega) (hv.move hi hk hm) s (by omega)
      rw [h]
      dsimp only
      have hat : tryAt X m last (fun Y l => srch f Y (p :: r) (m - 1) l) i k = some (((i : Int), (k : Int)) :: M) := by
        unfold tryAt
        rw [if_pos ⟨hm, by omega, hl⟩]
        show (srch f (mvX X i k) (p :: r) (m - 1) k).map _ = _
        rw [hM]
        rfl
      obtain ⟨k2, M2, hk2, hat2, hrow, _⟩ := find_first (tryAt X m last (fun Y l => srch f Y (p :: r) (m - 1) l) i) X.length k hk hat
      obtain ⟨i2, M3, hi2, hrow3, hall, hno⟩ := find_first (fun i => tryRow X m last (fun Y l => srch f Y (p :: r) (m - 1) l) i (List.range X.length)) X.length i hi hrow
      refine ⟨M3, hall, ?_⟩
      by_cases e : i2 = i
      · subst e
        have e3 : M3 = M2 := by
          have h4 : tryRow X m last (fun Y l => srch f Y (p :: r) (m - 1) l) i2 (List.range X.length) = some M2 := hrow
          rw [h4] at hrow3
          exact (Option.some.inj hrow3).symm
        subst e3
        by_cases e2 : k2 = k
        · subst e2
          rw [hat] at hat2
          cases hat2
          exact hle.cons _
        · unfold tryAt at hat2
          split at hat2
          · obtain ⟨N, _, rfl⟩ := Option.map_eq_some_iff.1 hat2
            exact .inr (LexLt.head (a := ((i2 : Int), (k2 : Int))) (b := ((i2 : Int), (k : Int))) (.inr ⟨rfl, by show (k2 : Int) < k; omega⟩) _ _)
          · cases hat2
      · obtain ⟨l3, k3, l4, _, h5, _⟩ := List.findSome?_eq_some_iff.1 hrow3
        unfold tryAt at h5
        split at h5
        · obtain ⟨N, _, rfl⟩ := Option.map_eq_some_iff.1 h5
          exact .inr (LexLt.head (a := ((i2 : Int), (k3 : Int))) (b := ((i : Int), (k : Int))) (.inl (by show (i2 : Int) < i; omega)) _ _)
        · cases h5
/-- the search at the least number finds the best list -/
theorem srch_best {X : List (List Int)} {o : List Int} {L0 : List (Int × Int)} {n f : Nat} (hv : Inv X o) (s : Sol X o L0 n) (hmin : ∀ L' n', Sol X o L' n' → n ≤ n') (hf : n + o.length ≤ f) : ∃ L, srch f X o n (-1) = some L ∧ Best X o L n := by
  have hcl : ∀ L', Sol X o L' n → SolC X o (-1) L' n := fun L' s' => s'.clean (-1) hmin (fun i k L'' _ => by omega)
  obtain ⟨L, hL, _⟩ := srch_first f hf hv (hcl _ s) (Nat.le_refl _)
  obtain ⟨m, hm, sc⟩ := srch_sound f hL
  have e : m = n := Nat.le_antisymm hm (hmin _ _ sc.sol)
  subst e
  refine ⟨L, hL, sc.sol, hmin, fun L' s' => ?_⟩
  obtain ⟨L2, hL2, hle⟩ := srch_first f hf hv (hcl _ s') (Nat.le_refl _)
  rw [hL] at hL2
  cases hL2
  exact hle
/-- below it there is none -/
theorem srch_none {X : List (List Int)} {o : List Int} {n m f : Nat} (hmin : ∀ L' n', Sol X o L' n' → n ≤ n') (hm : m < n) : srch f X o m (-1) = none := by
  cases h : srch f X o m (-1) with
  | none => rfl
  | some L =>
    obtain ⟨k, hk, s⟩ := srch_sound f h
    have := hmin _ _ s.sol
    omega
end Go.Proofs.YtiefiikheaiekaaDoor
/-
  Loading an order, the plain part: the levels of the program's search.
-/
namespace Go.Proofs.YtiefiikheaiekaaDoor

/-- a yard, what has been loaded, the moves that led to it -/
structure St where
  Y : List (List Int)
  d : Nat
  M : List (Int × Int)
def stl (o : List Int) : Nat → St → St
  | 0, s => s
  | f + 1, s => match o[s.d]? with
    | none => s
    | some p => match nextK s.Y p with
      | none => s
      | some k => stl o f ⟨mvX s.Y k (-1), s.d + 1, s.M ++ [((k : Int), -1)]⟩
/-- all is loaded that is the next one and on top -/
def settle (o : List Int) (s : St) : St := stl o (o.length - s.d) s
theorem settle_next {o : List Int} {s : St} {k : Nat} (h : s.d < o.length) (hk : nextK s.Y o[s.d] = some k) : settle o s = settle o ⟨mvX s.Y k (-1), s.d + 1, s.M ++ [((k : Int), -1)]⟩ := by
  unfold settle
  obtain ⟨m, hm⟩ : ∃ m, o.length - s.d = m + 1 := ⟨o.length - s.d - 1, by omega⟩
  have h2 : o.length - (s.d + 1) = m := by omega
  rw [hm]
  simp only [stl]
  rw [List.getElem?_eq_getElem h]
  simp only [hk]
  rw [h2]
theorem settle_stop {o : List Int} {s : St} (h : ∀ hd : s.d < o.length, nextK s.Y o[s.d] = none) : settle o s = s := by
  unfold settle
  cases hm : o.length - s.d with
  | zero => rfl
  | succ m =>
    have hd : s.d < o.length := by omega
    simp only [stl]
    rw [List.getElem?_eq_getElem hd]
    simp only [h hd]
theorem settle_ind {o : List Int} {C : St → St → Prop} (hstop : ∀ s : St, (∀ hd : s.d < o.length, nextK s.Y o[s.d] = none) → C s s)
    (hnext : ∀ (s : St) (k : Nat) (hd : s.d < o.length), nextK s.Y o[s.d] = some k → C ⟨mvX s.Y k (-1), s.d + 1, s.M ++ [((k : Int), -1)]⟩ (settle o ⟨mvX s.Y k (-1), s.d + 1, s.M ++ [((k : Int), -1)]⟩) → C s (settle o ⟨mvX s.Y k (-1), s.d + 1, s.M ++ [((k : Int), -1)]⟩)) : ∀ s : St, C s (settle o s) := by
  suffices ∀ (n : Nat) (s : St), o.length - s.d = n → C s (settle o s) from fun s => this _ s rfl
  intro n
  induction n with
  | zero =>
    intro s hs
    rw [settle_stop (fun hd => by omega)]
    exact hstop s (fun hd => by omega)
  | succ n ih =>
    intro s hs
    have hd : s.d < o.length := by omega
    cases hk : nextK s.Y o[s.d] with
    | none =>
      rw [settle_stop (fun _ => hk)]
      exact hstop s (fun _ => hk)
    | some k =>
      rw [settle_next hd hk]
      exact hnext s k hd hk (ih _ (by show o.length - (s.d + 1) = n; omega))
theorem settle_set (o : List Int) (s : St) : ∀ hd : (settle o s).d < o.length, nextK (settle o s).Y o[(settle o s).d] = none :=
  settle_ind (o := o) (C := fun _ t => ∀ hd : t.d < o.length, nextK t.Y o[t.d] = none) (fun _ h => h) (fun _ _ _ _ h => h) s
theorem drop_at {o : List Int} {d : Nat} (h : d < o.length) : o.drop d = o[d] :: o.drop (d + 1) := List.drop_eq_getElem_cons h
/-- what settling does -/
def Shape (o : List Int) (s t : St) : Prop := ∃ T : List (Int × Int), t.M = s.M ++ T ∧ (∀ M2, settle o ⟨s.Y, s.d, M2⟩ = ⟨t.Y, t.d, M2 ++ T⟩) ∧ t.d = s.d + T.length ∧
  (∀ L n, Sol t.Y (o.drop t.d) L n → Sol s.Y (o.drop s.d) (T ++ L) n) ∧ (∀ L n, Sol s.Y (o.drop s.d) L n → ∃ L', L = T ++ L' ∧ Sol t.Y (o.drop t.d) L' n)
theorem settle_shape (o : List Int) (s : St) : Shape o s (settle o s) := by
  refine settle_ind (o := o) (C := Shape o) ?_ ?_ s
  · intro s hs
    exact ⟨[], by simp, fun M2 => by rw [settle_stop (s := ⟨s.Y, s.d, M2⟩) hs]; simp, by simp, fun L n h => h, fun L n h => ⟨L, rfl, h⟩⟩
  · rintro s k hd hk ⟨T, h1, h2, h3, h4, h5⟩
    refine ⟨((k : Int), -1) :: T, by rw [h1]; simp, fun M2 => ?_, by rw [h3]; simp only [List.length_cons]; omega, fun L n h => ?_, fun L n h => ?_⟩
    · rw [settle_next (s := ⟨s.Y, s.d, M2⟩) hd hk]
      have := h2 (M2 ++ [((k : Int), -1)])
      simp only at this
      rw [this]
      simp
    · rw [drop_at hd]
      exact .load hk (h4 L n h)
    · rw [drop_at hd] at h
      cases h with
      | @load _ _ _ L' _ k2 hk2 s2 =>
        rw [hk] at hk2
        cases hk2
        obtain ⟨L2, rfl, h6⟩ := h5 _ _ s2
        exact ⟨L2, rfl, h6⟩
      | move hn => rw [hk] at hn; cases hn

/-! ## what holds of a state -/
structure Good (X : List (List Int)) (o : List Int) (s : St) : Prop where
  inv : Inv s.Y (o.drop s.d)
  dle : s.d ≤ o.length
  len : s.Y.length = X.length
  fl : s.Y.flatten.length + s.d = X.flatten.length
  sub : ∀ p ∈ s.Y.flatten, p ∈ X.flatten
theorem Good.load {X : List (List Int)} {o : List Int} {s : St} (h : Good X o s) {k : Nat} (hd : s.d < o.length) (hk : nextK s.Y o[s.d] = some k) (M : List (Int × Int)) : Good X o ⟨mvX s.Y k (-1), s.d + 1, M⟩ := by
  have hi := h.inv
  rw [drop_at hd] at hi
  obtain ⟨h1, h2, h3⟩ := hi.next hk
  have hp := perm_drop h1 h3
  have hl := hp.length_eq
  have hfl := h.fl
  simp only [List.length_append, List.length_cons, List.length_nil] at hl
  exact ⟨(hi.load hk).1, hd, (mvX_len _ _ _).trans h.len, by show (mvX s.Y k (-1)).flatten.length + (s.d + 1) = _; omega, fun p hp2 => h.sub p (hp.mem_iff.1 (List.mem_append_left _ hp2))⟩
theorem Good.move {X : List (List Int)} {o : List Int} {s : St} (h : Good X o s) {i k : Nat} (hi : i < X.length) (hk : k < X.length) (hm : mvOk s.Y i k = true) (M : List (Int × Int)) : Good X o ⟨mvX s.Y i k, s.d, M⟩ := by
  have hi2 : i < s.Y.length := by rw [h.len]; exact hi
  have hk2 : k < s.Y.length := by rw [h.len]; exact hk
  obtain ⟨h1, h2⟩ := mvOk_parts hi2 hk2 hm
  have hp := perm_both hi2 hk2 h1 h2
  exact ⟨h.inv.move hi2 hk2 hm, h.dle, (mvX_len _ _ _).trans h.len, by show (mvX s.Y i k).flatten.length + s.d = _; rw [hp.length_eq]; exact h.fl, fun p hp2 => h.sub p (hp.mem_iff.1 hp2)⟩
theorem Good.settle {X : List (List Int)} {o : List Int} {s : St} (h : Good X o s) : Good X o (settle o s) := by
  refine settle_ind (o := o) (C := fun s t => Good X o s → Good X o t) (fun _ _ h => h) (fun s k hd hk ih h => ih (h.load hd hk _)) s h
theorem Good.start {X : List (List Int)} {o : List Int} (h : Inv X o) : Good X o ⟨X, 0, []⟩ := ⟨h, Nat.zero_le _, rfl, rfl, fun _ h => h⟩

/-! ## paths -/
/-- the state behind a move between stacks -/
def child (o : List Int) (s : St) (i k : Nat) : St := settle o ⟨mvX s.Y i k, s.d, s.M ++ [((i : Int), (k : Int))]⟩
inductive Path (X : List (List Int)) (o : List Int) : Nat → St → Prop
  | base : Path X o 0 (settle o ⟨X, 0, []⟩)
  | step {c : Nat} {s : St} {i k : Nat} (h : Path X o c s) (hd : s.d < o.length) (hi : i < X.length) (hk : k < X.length) (hm : mvOk s.Y i k = true) : Path X o (c + 1) (child o s i k)
theorem Path.good {X : List (List Int)} {o : List Int} (hv : Inv X o) {c : Nat} {s : St} (h : Path X o c s) : Good X o s := by
  induction h with
  | base => exact (Good.start hv).settle
  | step _ _ hi hk hm ih => exact (ih.move hi hk hm _).settle
theorem Path.set {X : List (List Int)} {o : List Int} {c : Nat} {s : St} (h : Path X o c s) : ∀ hd : s.d < o.length, nextK s.Y o[s.d] = none := by
  cases h with
  | base => exact settle_set _ _
  | step => exact settle_set _ _
theorem Path.mlen {X : List (List Int)} {o : List Int} {c : Nat} {s : St} (h : Path X o c s) : s.M.length = c + s.d := by
  induction h with
  | base =>
    obtain ⟨T, h1, _, h3, _⟩ := settle_shape o ⟨X, 0, []⟩
    rw [h1, h3]; simp
  | @step c s i k _ _ _ _ _ ih =>
    obtain ⟨T, h1, _, h3, _⟩ := settle_shape o ⟨mvX s.Y i k, s.d, s.M ++ [((i : Int), (k : Int))]⟩
    unfold child
    rw [h1, h3]
    simp only [List.length_append, List.length_cons, List.length_nil, ih]
    omega
theorem Path.sol {X : List (List Int)} {o : List Int} (hv : Inv X o) {c : Nat} {s : St} (h : Path X o c s) : ∀ {L : List (Int × Int)} {n : Nat}, Sol s.Y (o.drop s.d) L n → Sol X o (s.M ++ L) (c + n) := by
  induction h with
  | base =>
    intro L n hs
    obtain ⟨T, h1, _, _, h4, _⟩ := settle_shape o ⟨X, 0, []⟩
    have := h4 _ _ hs
    rw [h1]
    simpa using this
  | @step c s i k h hd hi hk hm ih =>
    intro L n hs
    obtain ⟨T, h1, _, _, h4, _⟩ := settle_shape o ⟨mvX s.Y i k, s.d, s.M ++ [((i : Int), (k : Int))]⟩
    have h5 := h4 _ _ hs
    have hg := h.good hv
    have h6 := h.set hd
    have h7 : Sol s.Y (o.drop s.d) (((i : Int), (k : Int)) :: (T ++ L)) (n + 1) := by
      simp only at h5
      rw [drop_at hd] at h5 ⊢
      exact .move h6 (by rw [hg.len]; exact hi) (by rw [hg.len]; exact hk) hm h5
    have h8 := ih h7
    unfold child
    rw [h1, show c + 1 + n = c + (n + 1) by omega]
    simpa using h8
theorem Path.ext {X : List (List Int)} {o : List Int} (hv : Inv X o) : ∀ {n c : Nat} {s : St} {L : List (Int × Int)}, Path X o c s → Sol s.Y (o.drop s.d) L n → ∃ t, Path X o (c + n) t ∧ t.d = o.length ∧ t.M = s.M ++ L := by
  intro n
  induction n with
  | zero =>
    intro c s L h hs
    by_cases hd : s.d < o.length
    · have h6 := h.set hd
      rw [drop_at hd] at hs
      cases hs with
      | load hk _ => rw [h6] at hk; cases hk
    · have hg := h.good hv
      have e : s.d = o.length := by have := hg.dle; omega
      rw [e, List.drop_length] at hs
      cases hs
      exact ⟨s, h, e, by simp⟩
  | succ n ih =>
    intro c s L h hs
    have hg := h.good hv
    by_cases hd : s.d < o.length
    · have h6 := h.set hd
      rw [drop_at hd] at hs
      cases hs with
      | load hk _ => rw [h6] at hk; cases hk
      | @move _ _ _ L' _ i k _ hi hk hm s2 =>
        rw [← drop_at hd] at s2
        rw [hg.len] at hi hk
        obtain ⟨T, h1, _, _, _, h5⟩ := settle_shape o ⟨mvX s.Y i k, s.d, s.M ++ [((i : Int), (k : Int))]⟩
        obtain ⟨L2, rfl, h7⟩ := h5 _ _ s2
        obtain ⟨t, t1, t2, t3⟩ := ih (h.step hd hi hk hm) h7
        refine ⟨t, by rw [show c + (n + 1) = c + 1 + n by omega]; exact t1, t2, ?_⟩
        rw [t3]
        unfold child
        rw [h1]
        simp
    · have e : s.d = o.length := by have := hg.dle; omega
      rw [e, List.drop_length] at hs
      cases hs
theorem Path.done {X : List (List Int)} {o : List Int} (hv : Inv X o) {c : Nat} {s : St} (h : Path X o c s) (hd : s.d = o.length) : Sol X o s.M c := by
  have := h.sol hv (L := []) (n := 0) (by rw [hd, List.drop_length]; exact .done)
  simpa using this
theorem sol_path {X : List (List Int)} {o : List Int} (hv : Inv X o) {L : List (Int × Int)} {n : Nat} (h : Sol X o L n) : ∃ t, Path X o n t ∧ t.d = o.length ∧ t.M = L := by
  obtain ⟨T, h1, _, _, _, h5⟩ := settle_shape o ⟨X, 0, []⟩
  obtain ⟨L2, rfl, h7⟩ := h5 L n h
  obtain ⟨t, t1, t2, t3⟩ := Path.ext hv (Path.base (X := X) (o := o)) h7
  refine ⟨t, by rw [Nat.zero_add] at t1; exact t1, t2, ?_⟩
  rw [t3, h1]
  rfl
theorem Path.split {X : List (List Int)} {o : List Int} (hv : Inv X o) : ∀ (m : Nat) {c j : Nat} {t : St} {L : List (Int × Int)}, Path X o (c + m) t → Sol t.Y (o.drop t.d) L j → ∃ s L', Path X o c s ∧ Sol s.Y (o.drop s.d) L' (j + m) := by
  intro m
  induction m with
  | zero => intro c j t L h hs; exact ⟨t, L, h, hs⟩
  | succ m ih =>
    intro c j t L h hs
    generalize hcm : c + (m + 1) = N at h
    cases h with
    | base => omega
    | @step c2 s i k h hd hi hk hm =>
      have e : c2 = c + m := by omega
      subst e
      obtain ⟨T, _, _, _, h4, _⟩ := settle_shape o ⟨mvX s.Y i k, s.d, s.M ++ [((i : Int), (k : Int))]⟩
      have h5 := h4 _ _ hs
      have hg := h.good hv
      have h7 : Sol s.Y (o.drop s.d) (((i : Int), (k : Int)) :: (T ++ L)) (j + 1) := by
        have h6 := h.set hd
        simp only at h5
        rw [drop_at hd] at h5 ⊢
        exact .move h6 (by rw [hg.len]; exact hi) (by rw [hg.len]; exact hk) hm h5
      obtain ⟨s2, L2, p1, p2⟩ := ih h h7
      exact ⟨s2, L2, p1, by rw [show j + (m + 1) = j + 1 + m by omega]; exact p2⟩
/-- what has been loaded is told by what is left -/
theorem told {X : List (List Int)} {o : List Int} (hv : Inv X o) {c c' : Nat} {s s' : St} (h : Path X o c s) (h' : Path X o c' s') (e : s.Y = s'.Y) : s.d = s'.d := by
  have h1 := (h.good hv).fl
  have h2 := (h'.good hv).fl
  rw [e] at h1
  omega
theorem child_eq (o : List Int) {s s' : St} (e : s.Y = s'.Y) (e2 : s.d = s'.d) (i k : Nat) : (child o s i k).Y = (child o s' i k).Y ∧ ∃ T, (child o s i k).M = s.M ++ ((i : Int), (k : Int)) :: T ∧ (child o s' i k).M = s'.M ++ ((i : Int), (k : Int)) :: T := by
  obtain ⟨T, h1, h2, _⟩ := settle_shape o ⟨mvX s.Y i k, s.d, s.M ++ [((i : Int), (k : Int))]⟩
  have h3 := h2 (s'.M ++ [((i : Int), (k : Int))])
  simp only at h3
  unfold child
  rw [← e, ← e2, h3]
  exact ⟨rfl, T, by rw [h1]; simp, by simp⟩
theorem LexLe.app {l l' : List (Int × Int)} (h : LexLe l l') (x : List (Int × Int)) : LexLe (l ++ x) (l' ++ x) := by
  rcases h with rfl | h
  · exact .inl rfl
  · exact .inr (h.app x x)

/-! ## a level -/
def cand (o : List Int) (s : St) (i k : Nat) : List St := if mvOk s.Y i k = true then [child o s i k] else []
def candI (o : List Int) (s : St) (i n : Nat) : List St := (List.range n).flatMap (cand o s i)
def candS (o : List Int) (n : Nat) (s : St) (m : Nat) : List St := (List.range m).flatMap fun i => candI o s i n
def cands (o : List Int) (n : Nat) (L : List St) : List St := L.flatMap fun s => candS o n s n
theorem candI_succ (o : List Int) (s : St) (i n : Nat) : candI o s i (n + 1) = candI o s i n ++ cand o s i n := by
  unfold candI
  rw [List.range_succ, List.flatMap_append]
  simp
theorem candS_succ (o : List Int) (n : Nat) (s : St) (m : Nat) : candS o n s (m + 1) = candS o n s m ++ candI o s m n := by
  unfold candS
  rw [List.range_succ, List.flatMap_append]
  simp
theorem cands_snoc (o : List Int) (n : Nat) (L : List St) (s : St) : cands o n (L ++ [s]) = cands o n L ++ candS o n s n := by
  unfold cands
  rw [List.flatMap_append]
  simp
theorem mem_cands {o : List Int} {n : Nat} {L : List St} {c : St} : c ∈ cands o n L ↔ ∃ s i k, s ∈ L ∧ i < n ∧ k < n ∧ mvOk s.Y i k = true ∧ c = child o s i k := by
  unfold cands candS candI cand
  simp only [List.mem_flatMap, List.mem_range]
  constructor
  · rintro ⟨s, hs, i, hi, k, hk, hc⟩
    split at hc
    · rename_i hm
      exact ⟨s, i, k, hs, hi, hk, hm, by simpa using hc⟩
    · cases hc
  · rintro ⟨s, i, k, hs, hi, hk, hm, rfl⟩
    exact ⟨s, hs, i, hi, k, hk, by rw [if_pos hm]; simp⟩
def MLt (a b : St) : Prop := LexLt a.M b.M
theorem child_M (o : List Int) (s : St) (i k : Nat) : ∃ T, (child o s i k).M = s.M ++ ((i : Int), (k : Int)) :: T := by
  obtain ⟨_, T, h, _⟩ := child_eq o (rfl : s.Y = s.Y) rfl i k
  exact ⟨T, h⟩
theorem mem_cand {o : List Int} {s c : St} {i k : Nat} (h : c ∈ cand o s i k) : c = child o s i k := by
  unfold cand at h
  split at h
  · simpa using h
  · cases h
theorem sort_candI (o : List Int) (s : St) (i n : Nat) : (candI o s i n).Pairwise MLt := by
  induction n with
  | zero => exact List.Pairwise.nil
  | succ n ih =>
    rw [candI_succ]
    refine List.pairwise_append.2 ⟨ih, ?_, fun a ha b hb => ?_⟩
    · unfold cand
      split
      · exact List.pairwise_singleton _ _
      · exact List.Pairwise.nil
    · obtain ⟨k, hk, ha⟩ := List.mem_flatMap.1 ha
      have hk := List.mem_range.1 hk
      rw [mem_cand ha, mem_cand hb]
      obtain ⟨T, h1⟩ := child_M o s i k
      obtain ⟨T2, h2⟩ := child_M o s i n
      unfold MLt
      rw [h1, h2]
      exact (LexLt.head (a := ((i : Int), (k : Int))) (b := ((i : Int), (n : Int))) (.inr ⟨rfl, by show (k : Int) < n; omega⟩) _ _).pre _
theorem sort_candS (o : List Int) (n : Nat) (s : St) (m : Nat) : (candS o n s m).Pairwise MLt := by
  induction m with
  | zero => exact List.Pairwise.nil
  | succ m ih =>
    rw [candS_succ]
    refine List.pairwise_append.2 ⟨ih, sort_candI o s m n, fun a ha b hb => ?_⟩
    obtain ⟨i, hi, ha⟩ := List.mem_flatMap.1 ha
    obtain ⟨k, _, ha⟩ := List.mem_flatMap.1 ha
    obtain ⟨k2, _, hb⟩ := List.mem_flatMap.1 hb
    have hi := List.mem_range.1 hi
    rw [mem_cand ha, mem_cand hb]
    obtain ⟨T, h1⟩ := child_M o s i k
    obtain ⟨T2, h2⟩ := child_M o s m k2
    unfold MLt
    rw [h1, h2]
    exact (LexLt.head (a := ((i : Int), (k : Int))) (b := ((m : Int), (k2 : Int))) (.inl (by show (i : Int) < m; omega)) _ _).pre _
theorem sort_cands (o : List Int) (n : Nat) {L : List St} (h : L.Pairwise MLt) : (cands o n L).Pairwise MLt := by
  induction L with
  | nil => exact List.Pairwise.nil
  | cons s L ih =>
    obtain ⟨h1, h2⟩ := List.pairwise_cons.1 h
    show (candS o n s n ++ cands o n L).Pairwise MLt
    refine List.pairwise_append.2 ⟨sort_candS o n s n, ih h2, fun a ha b hb => ?_⟩
    obtain ⟨i, _, ha⟩ := List.mem_flatMap.1 ha
    obtain ⟨k, _, ha⟩ := List.mem_flatMap.1 ha
    obtain ⟨t, i2, k2, ht, _, _, _, rfl⟩ := mem_cands.1 hb
    rw [mem_cand ha]
    obtain ⟨T, e1⟩ := child_M o s i k
    obtain ⟨T2, e2⟩ := child_M o t i2 k2
    unfold MLt
    rw [e1, e2]
    exact (h1 t ht).app _ _
def stepc (kn : List (List (List Int)) × List St) (c : St) : List (List (List Int)) × List St := if c.Y ∈ kn.1 then kn else (kn.1 ++ [c.Y], kn.2 ++ [c])
def runc (K : List (List (List Int))) (cs : List St) : List (List (List Int)) × List St := cs.foldl stepc (K, [])
theorem runc_app (K : List (List (List Int))) (cs ds : List St) : runc K (cs ++ ds) = ds.foldl stepc (runc K cs) := by
  unfold runc
  rw [List.foldl_append]
theorem fold_spec : ∀ (cs : List St) (K : List (List (List Int))) (N : List St), cs.Pairwise MLt → ∃ S : List St, cs.foldl stepc (K, N) = (K ++ S.map St.Y, N ++ S) ∧ S.Sublist cs ∧ (∀ s ∈ S, s.Y ∉ K) ∧ (S.map St.Y).Nodup ∧ (∀ c ∈ cs, c.Y ∈ K ∨ ∃ s ∈ S, s.Y = c.Y ∧ LexLe s.M c.M)
  | [], K, N, _ => ⟨[], by simp, by simp, by simp, by simp, by simp⟩
  | a :: cs, K, N, h => by
    obtain ⟨h1, h2⟩ := List.pairwise_cons.1 h
    by_cases hm : a.Y ∈ K
    · obtain ⟨S, e, s1, s2, s3, s4⟩ := fold_spec cs K N h2
      refine ⟨S, ?_, s1.cons _, s2, s3, fun c hc => ?_⟩
      · rw [List.foldl_cons, stepc, if_pos hm, e]
      · rcases List.mem_cons.1 hc with rfl | hc
        · exact .inl hm
        · exact s4 c hc
    · obtain ⟨S, e, s1, s2, s3, s4⟩ := fold_spec cs (K ++ [a.Y]) (N ++ [a]) h2
      have hna : ∀ s ∈ S, s.Y ≠ a.Y ∧ s.Y ∉ K := fun s hs => by
        have := s2 s hs
        simp only [List.mem_append, List.mem_singleton, not_or] at this
        exact ⟨this.2, this.1⟩
      refine ⟨a :: S, ?_, s1.cons_cons _, fun s hs => ?_, ?_, fun c hc => ?_⟩
      · rw [List.foldl_cons, stepc, if_neg hm, e]
        simp
      · rcases List.mem_cons.1 hs with rfl | hs
        · exact hm
        · exact (hna s hs).2
      · rw [List.map_cons, List.nodup_cons]
        refine ⟨fun hmm => ?_, s3⟩
        obtain ⟨s, hs, e2⟩ := List.mem_map.1 hmm
        exact (hna s hs).1 e2
      · by_cases he : c.Y = a.Y
        · refine .inr ⟨a, List.mem_cons_self, he.symm, ?_⟩
          rcases List.mem_cons.1 hc with rfl | hc
          · exact .inl rfl
          · exact .inr (h1 c hc)
        · rcases List.mem_cons.1 hc with rfl | hc
          · exact absurd rfl he
          · rcases s4 c hc with h3 | ⟨s, hs, h3⟩
            · rcases List.mem_append.1 h3 with h3 | h3
              · exact .inl h3
              · exact absurd (by simpa using h3) he
            · exact .inr ⟨s, List.mem_cons_of_mem _ hs, h3⟩
/-- what holds of a level and of what is known -/
structure Lev (X : List (List Int)) (o : List Int) (c : Nat) (K : List (List (List Int))) (L : List St) : Prop where
  path : ∀ s ∈ L, Path X o c s
  sort : L.Pairwise MLt
  know : ∀ Y, Y ∈ K ↔ ∃ c' s, c' ≤ c ∧ Path X o c' s ∧ s.Y = Y
  all : ∀ s, Path X o c s → (∀ c' s', c' < c → Path X o c' s' → s'.Y ≠ s.Y) → ∃ t ∈ L, t.Y = s.Y ∧ LexLe t.M s.M
  nod : ∀ c' s, c' < c → Path X o c' s → s.d ≠ o.length
  nodup : K.Nodup
  le : L.length ≤ K.length
theorem Lev.start (X : List (List Int)) (o : List Int) : Lev X o 0 [(settle o ⟨X, 0, []⟩).Y] [settle o ⟨X, 0, []⟩] := by
  have h0 : ∀ s, Path X o 0 s → s = settle o ⟨X, 0, []⟩ := fun s h => by cases h; rfl
  refine ⟨fun s hs => ?_, List.pairwise_singleton _ _, fun Y => ⟨fun h => ?_, ?_⟩, fun s hs _ => ?_, fun c' s h => by omega, by simp, by simp⟩
  · rw [List.mem_singleton] at hs
    subst hs
    exact .base
  · rw [List.mem_singleton] at h
    exact ⟨0, _, Nat.le_refl _, .base, h.symm⟩
  · rintro ⟨c', s, hc, hp, rfl⟩
    have : c' = 0 := by omega
    subst this
    rw [h0 s hp]
    simp
  · rw [h0 s hs]
    exact ⟨_, List.mem_singleton.2 rfl, rfl, .inl rfl⟩
theorem Lev.step {X : List (List Int)} {o : List Int} (hv : Inv X o) {c : Nat} {K : List (List (List Int))} {L : List St} (h : Lev X o c K L) (hd : ∀ s ∈ L, s.d ≠ o.length) : Lev X o (c + 1) (runc K (cands o X.length L)).1 (runc K (cands o X.length L)).2 := by
  obtain ⟨S, e, s1, s2, s3, s4⟩ := fold_spec (cands o X.length L) K [] (sort_cands o X.length h.sort)
  have hsc := sort_cands o X.length h.sort
  unfold runc
  rw [e]
  simp only [List.nil_append]
  have hlt : ∀ s ∈ L, s.d < o.length := fun s hs => by
    have h1 := ((h.path s hs).good hv).dle
    have h2 := hd s hs
    omega
  have hcp : ∀ t ∈ cands o X.length L, Path X o (c + 1) t := fun t ht => by
    obtain ⟨s, i, k, hs, hi, hk, hm, rfl⟩ := mem_cands.1 ht
    exact (h.path s hs).step (hlt s hs) hi hk hm
  -- a state one move on whose parent is new is among the candidates, with a list that is not after
  have hcand : ∀ s i k, Path X o c s → i < X.length → k < X.length → mvOk s.Y i k = true → (∀ c' s', c' < c → Path X o c' s' → s'.Y ≠ s.Y) → ∃ t ∈ cands o X.length L, t.Y = (child o s i k).Y ∧ LexLe t.M (child o s i k).M := by
    intro s i k hp hi hk hm hno
    obtain ⟨t, ht, e1, e2⟩ := h.all s hp hno
    have e3 := told hv (h.path t ht) hp e1
    obtain ⟨c1, T, c2, c3⟩ := child_eq o e1 e3 i k
    refine ⟨child o t i k, mem_cands.2 ⟨t, i, k, ht, hi, hk, by rw [e1]; exact hm, rfl⟩, c1, ?_⟩
    rw [c2, c3]
    exact e2.app _
  have hdn : ∀ s, Path X o c s → s.d ≠ o.length := fun s hp hds => by
    obtain ⟨t, ht, e1, _⟩ := h.all s hp (fun c' s' hc hp' e1 => h.nod c' s' hc hp' (by rw [told hv hp' hp e1]; exact hds))
    exact hd t ht (by rw [told hv (h.path t ht) hp e1]; exact hds)
  refine ⟨fun s hs => hcp s (s1.subset hs), hsc.sublist s1, fun Y => ⟨fun hY => ?_, ?_⟩, fun s hs hno => ?_, fun c' s hc hp => ?_, ?_, ?_⟩
  · rcases List.mem_append.1 hY with hY | hY
    · obtain ⟨c', s, h1, h2, h3⟩ := (h.know Y).1 hY
      exact ⟨c', s, by omega, h2, h3⟩
    · obtain ⟨s, hs, rfl⟩ := List.mem_map.1 hY
      exact ⟨c + 1, s, Nat.le_refl _, hcp s (s1.subset hs), rfl⟩
  · rintro ⟨c', s, hc, hp, rfl⟩
    by_cases hc2 : c' ≤ c
    · exact List.mem_append_left _ ((h.know _).2 ⟨c', s, hc2, hp, rfl⟩)
    · have e2 : c' = c + 1 := by omega
      subst e2
      cases hp with
      | @step _ p i k hp hdp hi hk hm =>
        by_cases hno : ∀ c' s', c' < c → Path X o c' s' → s'.Y ≠ p.Y
        · obtain ⟨t, ht, e1, _⟩ := hcand p i k hp hi hk hm hno
          rw [← e1]
          rcases s4 t ht with h5 | ⟨u, hu, h5, _⟩
          · exact List.mem_append_left _ h5
          · exact List.mem_append_right _ (List.mem_map.2 ⟨u, hu, h5⟩)
        · have ⟨c2, s2', q1, q2, q3⟩ : ∃ c2 s2', c2 < c ∧ Path X o c2 s2' ∧ s2'.Y = p.Y := by
            apply Classical.byContradiction
            intro hx
            exact hno fun c' s' a b e3 => hx ⟨c', s', a, b, e3⟩
          have e4 := told hv q2 hp q3
          obtain ⟨e5, _⟩ := child_eq o q3 e4 i k
          rw [← e5]
          exact List.mem_append_left _ ((h.know _).2 ⟨c2 + 1, _, by omega, q2.step (by rw [e4]; exact hdp) hi hk (by rw [q3]; exact hm), rfl⟩)
  · cases hs with
    | @step _ p i k hp hdp hi hk hm =>
      have hno2 : ∀ c' s', c' < c → Path X o c' s' → s'.Y ≠ p.Y := fun c' s' hc hp' q3 => by
        have e4 := told hv hp' hp q3
        obtain ⟨e5, _⟩ := child_eq o q3 e4 i k
        exact hno (c' + 1) _ (by omega) (hp'.step (by rw [e4]; exact hdp) hi hk (by rw [q3]; exact hm)) e5
      obtain ⟨t, ht, e1, e2⟩ := hcand p i k hp hi hk hm hno2
      rcases s4 t ht with h5 | ⟨u, hu, h5, h6⟩
      · obtain ⟨c', s', q1, q2, q3⟩ := (h.know _).1 h5
        exact absurd (q3.trans e1) (hno c' s' (by omega) q2)
      · exact ⟨u, hu, h5.trans e1, h6.trans e2⟩
  · by_cases hc2 : c' < c
    · exact h.nod c' s hc2 hp
    · have e2 : c' = c := by omega
      subst e2
      exact hdn s hp
  · refine List.nodup_append.2 ⟨h.nodup, s3, fun a ha b hb e2 => ?_⟩
    subst e2
    obtain ⟨s, hs, rfl⟩ := List.mem_map.1 hb
    exact s2 s hs ha
  · simp
theorem Lev.best {X : List (List Int)} {o : List Int} (hv : Inv X o) {c : Nat} {K : List (List (List Int))} {L : List St} (h : Lev X o c K L) {j : Nat} (hj : j < L.length) (hd : L[j].d = o.length) (hno : ∀ m (hm : m < L.length), m < j → L[m].d ≠ o.length) : Best X o L[j].M c := by
  refine ⟨(h.path _ (List.getElem_mem hj)).done hv hd, fun L' n' hs => ?_, fun L' hs => ?_⟩
  · obtain ⟨t, t1, t2, _⟩ := sol_path hv hs
    by_cases hc : c ≤ n'
    · exact hc
    · exact absurd t2 (h.nod n' t (by omega) t1)
  · obtain ⟨t, t1, t2, rfl⟩ := sol_path hv hs
    obtain ⟨u, hu, e1, e2⟩ := h.all t t1 (fun c' s' hc hp e => h.nod c' s' hc hp (by rw [told hv hp t1 e]; exact t2))
    have hud : u.d = o.length := by rw [told hv (h.path u hu) t1 e1]; exact t2
    obtain ⟨m, hm, rfl⟩ := List.getElem_of_mem hu
    by_cases hmj : m < j
    · exact absurd hud (hno m hm hmj)
    · refine LexLe.trans ?_ e2
      by_cases e3 : m = j
      · subst e3
        exact .inl rfl
      · exact .inr (List.pairwise_iff_getElem.1 h.sort j m hj hm (by omega))
/-- while the least number is not reached the level is not empty -/
theorem Lev.alive {X : List (List Int)} {o : List Int} (hv : Inv X o) {c : Nat} {K : List (List (List Int))} {L : List St} (h : Lev X o c K L) {Lb : List (Int × Int)} {n : Nat} (hb : Sol X o Lb n) (hl : ∀ L' n', Sol X o L' n' → n ≤ n') (hc : c ≤ n) : 0 < L.length ∧ (c = n → ∃ j, ∃ hj : j < L.length, L[j].d = o.length) := by
  obtain ⟨t, t1, t2, _⟩ := sol_path hv hb
  have t1' : Path X o (c + (n - c)) t := by rw [show c + (n - c) = n by omega]; exact t1
  obtain ⟨s, L', p1, p2⟩ := Path.split hv (n - c) t1' (L := []) (j := 0) (by rw [t2, List.drop_length]; exact .done)
  have hno : ∀ c' s', c' < c → Path X o c' s' → s'.Y ≠ s.Y := fun c' s' h1 h2 e => by
    have e2 := told hv h2 p1 e
    have := hl _ _ (h2.sol hv (L := L') (n := 0 + (n - c)) (by rw [e, e2]; exact p2))
    omega
  obtain ⟨u, hu, e1, _⟩ := h.all s p1 hno
  refine ⟨List.length_pos_of_mem hu, fun e => ?_⟩
  subst e
  have hno2 : ∀ c' s', c' < c → Path X o c' s' → s'.Y ≠ t.Y := fun c' s' h1 h2 e => h.nod c' s' h1 h2 (by rw [told hv h2 t1 e]; exact t2)
  obtain ⟨v, hv2, e3, _⟩ := h.all t t1 hno2
  obtain ⟨j, hj, rfl⟩ := List.getElem_of_mem hv2
  exact ⟨j, hj, by rw [told hv (h.path _ hv2) t1 e3]; exact t2⟩
end Go.Proofs.YtiefiikheaiekaaDoor
/-
  Loading an order, the plain part: when there is a list of moves; how many yards there are.
-/
namespace Go.Proofs.YtiefiikheaiekaaDoor

/-! ## a list is there -/
theorem sol_two : ∀ {o : List Int} {X : List (List Int)}, Inv X o → 2 ≤ X.length → ∃ L n, Sol X o L n ∧ n ≤ 6 * o.length
  | [], X, _, _ => ⟨[], 0, .done, by simp⟩
  | p :: r, X, hv, h2 => by
    have key : ∀ (m : Nat) (X : List (List Int)), Inv X (p :: r) → 2 ≤ X.length → (∃ a, ∃ ha : a < X.length, ∃ j, ∃ hj : j < X[a].length, X[a][j] = p ∧ X[a].length - 1 - j = m) → ∃ L n, Sol X (p :: r) L n ∧ n ≤ m + 6 * r.length := by
      intro m
      induction m with
      | zero =>
        rintro X hv h2 ⟨a, ha, j, hj, he, hm⟩
        have ht := (top_at hv.vy ha hj).2 (by omega)
        cases hk : nextK X p with
        | none => exact absurd (ht.trans he) (nextK_none hk a ha)
        | some k =>
          obtain ⟨L, n, hs, hn⟩ := sol_two (hv.load hk).1 (by rw [mvX_len]; exact h2)
          exact ⟨_, n, .load hk hs, by omega⟩
      | succ m ih =>
        rintro X hv h2 ⟨a, ha, j, hj, he, hm⟩
        cases hk : nextK X p with
        | some k =>
          obtain ⟨L, n, hs, hn⟩ := sol_two (hv.load hk).1 (by rw [mvX_len]; exact h2)
          exact ⟨_, n, .load hk hs, by omega⟩
        | none =>
          obtain ⟨b, hb, hne⟩ : ∃ b, b < X.length ∧ b ≠ a := by
            by_cases h0 : a = 0
            · exact ⟨1, by omega, by omega⟩
            · exact ⟨0, by omega, by omega⟩
          have h0 : 0 < X[a].length := by omega
          have hok : mvOk X a b = true := by rw [mvOk_at ha hb, decide_eq_true hne, decide_eq_true h0]; rfl
          have hl := mvX_len X a b
          have e : ∀ h' : a < (mvX X a b).length, (mvX X a b)[a] = X[a].take (X[a].length - 1) := by
            intro h'
            have hbo := mvX_both X ha hb hne
            rw [getD_lt X [] ha, getD_lt X [] hb] at hbo
            have h3 : (mvX X a b)[a]? = some (X[a].take (X[a].length - 1)) := by
              rw [hbo, List.getElem?_set_ne hne, List.getElem?_set_self ha]
            rw [List.getElem?_eq_getElem h'] at h3
            exact Option.some.inj h3
          have ha' : a < (mvX X a b).length := by omega
          obtain ⟨L, n, hs, hn⟩ := ih (mvX X a b) (hv.move ha hb hok) (by omega) ⟨a, ha', j, by rw [e ha', List.length_take]; omega, by simp only [e ha', List.getElem_take]; exact he, by rw [e ha', List.length_take]; omega⟩
          exact ⟨_, n + 1, .move hk ha hb hok hs, by omega⟩
    have hp := hv.mem p List.mem_cons_self
    obtain ⟨s, hs, hps⟩ := List.mem_flatten.1 hp
    obtain ⟨a, ha, rfl⟩ := List.getElem_of_mem hs
    obtain ⟨j, hj, he⟩ := List.getElem_of_mem hps
    have h6 := (vy_rows hv.vy).2 _ hs
    obtain ⟨L, n, h1, h3⟩ := key _ X hv h2 ⟨a, ha, j, hj, he, rfl⟩
    exact ⟨L, n, h1, by simp only [List.length_cons]; omega⟩
theorem wayR_of (o : List Int) {X : List (List Int)} {a : Nat} (ha : a < X.length) : wayR o X[a] X[a].length ≤ wayX o X := by
  have := wayX_set o ha []
  simp only [List.length_nil] at this
  have e : wayR o [] 0 = 0 := rfl
  omega
theorem sol_zero : ∀ {o : List Int} {X : List (List Int)}, Inv X o → wayX o X = 0 → ∃ L, Sol X o L 0
  | [], X, _, _ => ⟨[], .done⟩
  | p :: r, X, hv, h0 => by
    cases hk : nextK X p with
    | some k =>
      obtain ⟨L, hs⟩ := sol_zero (hv.load hk).1 (by rw [← way_load hv hk]; exact h0)
      exact ⟨_, .load hk hs⟩
    | none =>
      exfalso
      have hp := hv.mem p List.mem_cons_self
      obtain ⟨s, hs, hps⟩ := List.mem_flatten.1 hp
      obtain ⟨a, ha, rfl⟩ := List.getElem_of_mem hs
      obtain ⟨j, hj, he⟩ := List.getElem_of_mem hps
      have hnt := nextK_none hk a ha
      have hjt : j ≠ X[a].length - 1 := fun e => hnt (((top_at hv.vy ha hj).2 e).trans he)
      have hw := wayR_top (o := p :: r) (r := X[a]) (by omega)
      have hin : inWay (p :: r) X[a] (X[a].length - 1) = true := by
        unfold inWay
        rw [List.any_eq_true]
        refine ⟨p, by rw [List.mem_take_iff_getElem]; exact ⟨j, by omega, he⟩, ?_⟩
        have h7 : X[a].getD (X[a].length - 1) 0 = topL X[a] := by
          unfold topL
          rw [if_neg (by omega)]
        rw [h7, plc_cons, plc_cons, if_pos rfl, if_neg hnt]
        simp
      rw [hin] at hw
      have := wayR_of (p :: r) ha
      simp at hw
      omega
theorem sol_one {o : List Int} {X : List (List Int)} {L : List (Int × Int)} {n : Nat} (h : Sol X o L n) : X.length = 1 → n = 0 := by
  induction h with
  | done => intro _; rfl
  | load _ _ ih => intro h1; exact ih (by rw [mvX_len]; exact h1)
  | move _ hi hk hm _ _ =>
    intro h1
    obtain ⟨m1, _⟩ := mvOk_parts hi hk hm
    omega
/-- with one stack and packs in the way there is none -/
theorem no_sol {o : List Int} {X : List (List Int)} (hv : Inv X o) (h1 : X.length = 1) (hw : 0 < wayX o X) : ∀ L n, ¬ Sol X o L n := fun L n h => by
  have := sol_one h h1
  have := way_le h hv
  omega
theorem cands_one {o : List Int} {X : List (List Int)} (hv : Inv X o) (h1 : X.length = 1) {c : Nat} {K : List (List (List Int))} {L : List St} (h : Lev X o c K L) : cands o X.length L = [] := by
  rw [List.eq_nil_iff_forall_not_mem]
  intro t ht
  obtain ⟨s, i, k, hs, hi, hk, hm, rfl⟩ := mem_cands.1 ht
  have hl := ((h.path s hs).good hv).len
  obtain ⟨m1, _⟩ := mvOk_parts (X := s.Y) (i := i) (k := k) (by omega) (by omega) hm
  omega
theorem Sol.len {X : List (List Int)} {o : List Int} {L : List (Int × Int)} {n : Nat} (h : Sol X o L n) : L.length = n + o.length := by
  induction h with
  | done => rfl
  | load _ _ ih => simp only [List.length_cons, ih]; omega
  | move _ _ _ _ _ ih => simp only [List.length_cons] at ih ⊢; omega

/-! ## how many yards -/
theorem card_le : ∀ (N : Nat) (l : List Nat), l.Nodup → (∀ x ∈ l, x < N) → l.length ≤ N
  | 0, [], _, _ => Nat.le_refl _
  | 0, x :: l, _, h => absurd (h x List.mem_cons_self) (by omega)
  | N + 1, l, hn, h => by
    by_cases hm : N ∈ l
    · have h1 := card_le N (l.erase N) (hn.erase N) (fun x hx => by
        have h2 := h x (List.mem_of_mem_erase hx)
        have h3 : x ≠ N := fun e => by
          subst e
          exact absurd hx (by rw [hn.mem_erase_iff]; simp)
        omega)
      have h2 := List.length_erase_of_mem hm
      omega
    · have := card_le N l hn (fun x hx => by
        have h2 := h x hx
        have h3 : x ≠ N := fun e => by subst e; exact hm hx
        omega)
      omega
def numL : List Nat → Nat
  | [] => 0
  | d :: l => numL l * 8 + d
theorem numL_inj : ∀ {l l' : List Nat}, (∀ d ∈ l, 1 ≤ d ∧ d ≤ 7) → (∀ d ∈ l', 1 ≤ d ∧ d ≤ 7) → numL l = numL l' → l = l'
  | [], [], _, _, _ => rfl
  | [], d :: l, _, h, e => by
    have := h d List.mem_cons_self
    simp only [numL] at e
    omega
  | d :: l, [], h, _, e => by
    have := h d List.mem_cons_self
    simp only [numL] at e
    omega
  | d :: l, d' :: l', h, h', e => by
    have h1 := h d List.mem_cons_self
    have h2 := h' d' List.mem_cons_self
    simp only [numL] at e
    have e2 : d = d' := by omega
    have e3 : numL l = numL l' := by omega
    rw [e2, numL_inj (fun x hx => h x (List.mem_cons_of_mem _ hx)) (fun x hx => h' x (List.mem_cons_of_mem _ hx)) e3]
theorem numL_lt : ∀ {l : List Nat}, (∀ d ∈ l, d ≤ 7) → numL l < 8 ^ l.length
  | [], _ => by simp [numL]
  | d :: l, h => by
    have h1 := h d List.mem_cons_self
    have h2 := numL_lt (l := l) (fun x hx => h x (List.mem_cons_of_mem _ hx))
    simp only [numL, List.length_cons, Nat.pow_succ]
    omega
theorem plc_mem {F : List Int} {p : Int} (h : p ∈ F) : F[plc F p]? = some p := by
  obtain ⟨j, hj, e⟩ := List.getElem_of_mem h
  cases hf : F.findIdx? (fun x => x == p) with
  | none =>
    have := List.findIdx?_eq_none_iff.1 hf p h
    simp at this
  | some i =>
    obtain ⟨hi, h2, _⟩ := List.findIdx?_eq_some_iff_getElem.1 hf
    have e2 : plc F p = i := by unfold plc; rw [hf]; rfl
    rw [e2, List.getElem?_eq_getElem hi]
    simp only [beq_iff_eq] at h2
    rw [h2]
def digs (F : List Int) (Y : List (List Int)) : List Nat := Y.flatMap fun r => r.map (fun p => plc F p + 1) ++ [7]
theorem sep_inj : ∀ {l l' t t' : List Nat}, 7 ∉ l → 7 ∉ l' → l ++ 7 :: t = l' ++ 7 :: t' → l = l' ∧ t = t'
  | [], [], _, _, _, _, e => ⟨rfl, by simpa using e⟩
  | [], a :: l', _, _, _, h, e => by
    simp only [List.nil_append, List.cons_append, List.cons.injEq] at e
    exact absurd (List.mem_cons.2 (.inl e.1)) h
  | a :: l, [], _, _, h, _, e => by
    simp only [List.nil_append, List.cons_append, List.cons.injEq] at e
    exact absurd (List.mem_cons.2 (.inl e.1.symm)) h
  | a :: l, b :: l', _, _, h, h', e => by
    simp only [List.cons_append, List.cons.injEq] at e
    obtain ⟨rfl, e⟩ := e
    obtain ⟨rfl, rfl⟩ := sep_inj (fun hm => h (List.mem_cons_of_mem _ hm)) (fun hm => h' (List.mem_cons_of_mem _ hm)) e
    exact ⟨rfl, rfl⟩
theorem map_plc_inj {F : List Int} : ∀ {r r' : List Int}, (∀ p ∈ r, p ∈ F) → (∀ p ∈ r', p ∈ F) → r.map (fun p => plc F p + 1) = r'.map (fun p => plc F p + 1) → r = r'
  | [], [], _, _, _ => rfl
  | [], _ :: _, _, _, e => by simp at e
  | _ :: _, [], _, _, e => by simp at e
  | p :: r, q :: r', h, h', e => by
    simp only [List.map_cons, List.cons.injEq] at e
    have h1 := plc_mem (h p List.mem_cons_self)
    have h2 := plc_mem (h' q List.mem_cons_self)
    have e1 : plc F p = plc F q := by omega
    rw [e1, h2] at h1
    rw [(Option.some.inj h1).symm, map_plc_inj (fun x hx => h x (List.mem_cons_of_mem _ hx)) (fun x hx => h' x (List.mem_cons_of_mem _ hx)) e.2]
theorem no7 {F r : List Int} (hF : F.length ≤ 6) (h : ∀ p ∈ r, p ∈ F) : 7 ∉ r.map (fun p => plc F p + 1) := fun hm => by
  obtain ⟨p, hp, e⟩ := List.mem_map.1 hm
  have h1 := plc_mem (h p hp)
  obtain ⟨h2, _⟩ := List.getElem?_eq_some_iff.1 h1
  omega
theorem digs_inj {F : List Int} (hF : F.length ≤ 6) : ∀ {Y Y' : List (List Int)}, (∀ p ∈ Y.flatten, p ∈ F) → (∀ p ∈ Y'.flatten, p ∈ F) → digs F Y = digs F Y' → Y = Y'
  | [], [], _, _, _ => rfl
  | [], _ :: _, _, _, e => by simp [digs] at e
  | _ :: _, [], _, _, e => by simp [digs] at e
  | r :: Y, r' :: Y', h, h', e => by
    have e2 : r.map (fun p => plc F p + 1) ++ 7 :: digs F Y = r'.map (fun p => plc F p + 1) ++ 7 :: digs F Y' := by
      simpa [digs] using e
    have m1 : ∀ p ∈ r, p ∈ F := fun p hp => h p (by rw [List.flatten_cons]; exact List.mem_append_left _ hp)
    have m2 : ∀ p ∈ r', p ∈ F := fun p hp => h' p (by rw [List.flatten_cons]; exact List.mem_append_left _ hp)
    obtain ⟨e3, e4⟩ := sep_inj (no7 hF m1) (no7 hF m2) e2
    rw [map_plc_inj m1 m2 e3, digs_inj hF (fun p hp => h p (by rw [List.flatten_cons]; exact List.mem_append_right _ hp)) (fun p hp => h' p (by rw [List.flatten_cons]; exact List.mem_append_right _ hp)) e4]
theorem digs_ok {F : List Int} (hF : F.length ≤ 6) : ∀ {Y : List (List Int)}, (∀ p ∈ Y.flatten, p ∈ F) → (∀ d ∈ digs F Y, 1 ≤ d ∧ d ≤ 7) ∧ (digs F Y).length = Y.flatten.length + Y.length
  | [], _ => ⟨fun d hd => by simp [digs] at hd, rfl⟩
  | r :: Y, h => by
    obtain ⟨h1, h2⟩ := digs_ok hF (Y := Y) (fun p hp => h p (by rw [List.flatten_cons]; exact List.mem_append_right _ hp))
    have e : digs F (r :: Y) = r.map (fun p => plc F p + 1) ++ 7 :: digs F Y := by simp [digs]
    rw [e]
    constructor
    · intro d hd
      rcases List.mem_append.1 hd with hd | hd
      · obtain ⟨p, hp, rfl⟩ := List.mem_map.1 hd
        have h3 := plc_mem (h p (by rw [List.flatten_cons]; exact List.mem_append_left _ hp))
        obtain ⟨h4, _⟩ := List.getElem?_eq_some_iff.1 h3
        omega
      · rcases List.mem_cons.1 hd with rfl | hd
        · omega
        · exact h1 d hd
    · simp only [List.length_append, List.length_map, List.length_cons, h2, List.flatten_cons]
      omega
/-- there are not too many yards -/
theorem card_yards {X : List (List Int)} (hF : X.flatten.length ≤ 6) {K : List (List (List Int))} (hn : K.Nodup) (hg : ∀ Y ∈ K, (∀ p ∈ Y.flatten, p ∈ X.flatten) ∧ Y.flatten.length ≤ 6 ∧ Y.length ≤ 4) : K.length ≤ 1073741824 := by
  have := card_le 1073741824 (K.map fun Y => numL (digs X.flatten Y)) (by
    refine List.pairwise_map.2 ?_
    refine List.Pairwise.imp_of_mem ?_ hn
    intro a b ha hb hne e
    have g1 := hg a ha
    have g2 := hg b hb
    exact hne (digs_inj hF g1.1 g2.1 (numL_inj (digs_ok hF g1.1).1 (digs_ok hF g2.1).1 e))) (fun x hx => by
    obtain ⟨Y, hY, rfl⟩ := List.mem_map.1 hx
    have g1 := hg Y hY
    have g2 := digs_ok hF g1.1
    have g3 := numL_lt (l := digs X.flatten Y) (fun d hd => (g2.1 d hd).2)
    have g4 : (8 : Nat) ^ (digs X.flatten Y).length ≤ 8 ^ 10 := Nat.pow_le_pow_right (by omega) (by omega)
    have g5 : (8 : Nat) ^ 10 = 1073741824 := by decide
    omega)
  simpa using this
/-- a valid yard of the packs of X -/
def YG (X Y : List (List Int)) : Prop := vyB Y = true ∧ ∀ p ∈ Y.flatten, p ∈ X.flatten
theorem YG.card {X : List (List Int)} (hv : vyB X = true) {K : List (List (List Int))} (hn : K.Nodup) (hg : ∀ Y ∈ K, YG X Y) : K.length ≤ 1073741824 :=
  card_yards (dB_true hv).2.1 hn (fun Y hY => ⟨(hg Y hY).2, (dB_true (hg Y hY).1).2.1, (dB_true (hg Y hY).1).1.2⟩)
theorem Good.yg {X : List (List Int)} {o : List Int} {s : St} (h : Good X o s) : YG X s.Y := ⟨h.inv.vy, h.sub⟩

/-! ## the best list -/
noncomputable def bestP (X : List (List Int)) (o : List Int) : Option (List (Int × Int) × Nat) := by
  classical
  exact if h : ∃ p : List (Int × Int) × Nat, Best X o p.1 p.2 then some (Classical.choose h) else none
theorem bestP_some {X : List (List Int)} {o : List Int} {L : List (Int × Int)} {n : Nat} (h : Best X o L n) : bestP X o = some (L, n) := by
  have hx : ∃ p : List (Int × Int) × Nat, Best X o p.1 p.2 := ⟨(L, n), h⟩
  unfold bestP
  rw [dif_pos hx]
  obtain ⟨e1, e2⟩ := (Classical.choose_spec hx).unique h
  rw [← e1, ← e2]
theorem bestP_none {X : List (List Int)} {o : List Int} (h : ∀ L n, ¬ Sol X o L n) : bestP X o = none := by
  unfold bestP
  rw [dif_neg]
  rintro ⟨p, hp⟩
  exact h _ _ hp.sol
/-- the least number is there, and small -/
theorem least_some {X : List (List Int)} {o : List Int} (hv : Inv X o) (hX : X.length = 1 → wayX o X = 0) : ∃ L n, Sol X o L n ∧ (∀ L' n', Sol X o L' n' → n ≤ n') ∧ n ≤ 6 * o.length := by
  have h1 : ∃ L n, Sol X o L n ∧ n ≤ 6 * o.length := by
    by_cases h2 : 2 ≤ X.length
    · exact sol_two hv h2
    · have h3 := (dB_true hv.vy).1.1
      obtain ⟨L, hL⟩ := sol_zero hv (hX (by omega))
      exact ⟨L, 0, hL, by omega⟩
  obtain ⟨L, n, hs, hn⟩ := h1
  obtain ⟨m, L', h2, h3⟩ := best_of hs
  exact ⟨L', m, h2, h3, Nat.le_trans (h3 _ _ hs) hn⟩
theorem ord_len {X : List (List Int)} {o : List Int} (hv : Inv X o) : o.length ≤ 6 := by
  have hX := dB_true hv.vy
  have h1 : o.length ≤ X.flatten.length := by
    have h2 := card_le X.flatten.length (o.map fun p => plc X.flatten p) (by
      refine List.pairwise_map.2 ?_
      refine List.Pairwise.imp_of_mem ?_ hv.nd
      intro a b ha hb hne e
      have g1 := plc_mem (hv.mem a ha)
      rw [e, plc_mem (hv.mem b hb)] at g1
      exact hne (Option.some.inj g1).symm) (fun x hx => by
      obtain ⟨p, hp, rfl⟩ := List.mem_map.1 hx
      exact (List.getElem?_eq_some_iff.1 (plc_mem (hv.mem p hp))).1)
    simpa using h2
  have := hX.2.1
  omega
end Go.Proofs.YtiefiikheaiekaaDoor
