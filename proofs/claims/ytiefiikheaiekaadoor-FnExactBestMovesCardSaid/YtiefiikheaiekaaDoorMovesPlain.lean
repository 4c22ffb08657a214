/-
  Loading an order, the plain part: greedy lists of moves, the first of the least ones.
-/
import Derived.Test.YtiefiikheaiekaaDoorYardG
import Derived.Test.YtiefiikheaiekaaDoorYardPlain2
namespace Go.Proofs.YtiefiikheaiekaaDoor

/-- the first difference is to the left's favour -/
def mlt (a b : Int × Int) : Prop := a.1 < b.1 ∨ (a.1 = b.1 ∧ a.2 < b.2)
theorem mlt_irrefl (a : Int × Int) : ¬ mlt a a := by unfold mlt; omega
theorem mlt_trans {a b c : Int × Int} (h : mlt a b) (h2 : mlt b c) : mlt a c := by unfold mlt at *; omega
def LexLt (l l' : List (Int × Int)) : Prop := ∃ (p : List (Int × Int)) (a b : Int × Int) (t t' : List (Int × Int)), l = p ++ a :: t ∧ l' = p ++ b :: t' ∧ mlt a b
theorem LexLt.cons {l l' : List (Int × Int)} (x : Int × Int) (h : LexLt l l') : LexLt (x :: l) (x :: l') := by
  obtain ⟨p, a, b, t, t', rfl, rfl, hm⟩ := h
  exact ⟨x :: p, a, b, t, t', rfl, rfl, hm⟩
theorem LexLt.head {a b : Int × Int} (h : mlt a b) (t t' : List (Int × Int)) : LexLt (a :: t) (b :: t') := ⟨[], a, b, t, t', rfl, rfl, h⟩
theorem LexLt.app {l l' : List (Int × Int)} (h : LexLt l l') (x y : List (Int × Int)) : LexLt (l ++ x) (l' ++ y) := by
  obtain ⟨p, a, b, t, t', rfl, rfl, hm⟩ := h
  exact ⟨p, a, b, t ++ x, t' ++ y, by simp, by simp, hm⟩
theorem LexLt.pre {l l' : List (Int × Int)} (h : LexLt l l') (x : List (Int × Int)) : LexLt (x ++ l) (x ++ l') := by
  obtain ⟨p, a, b, t, t', rfl, rfl, hm⟩ := h
  exact ⟨x ++ p, a, b, t, t', by simp, by simp, hm⟩
/-- by the heads -/
theorem lex_cons {a b : Int × Int} {l l' : List (Int × Int)} : LexLt (a :: l) (b :: l') ↔ mlt a b ∨ (a = b ∧ LexLt l l') := by
  constructor
  · rintro ⟨p, x, y, t, t', e1, e2, hm⟩
    cases p with
    | nil =>
      simp only [List.nil_append, List.cons.injEq] at e1 e2
      rw [e1.1, e2.1]
      exact .inl hm
    | cons q p =>
      simp only [List.cons_append, List.cons.injEq] at e1 e2
      exact .inr ⟨e1.1.trans e2.1.symm, p, x, y, t, t', e1.2, e2.2, hm⟩
  · rintro (h | ⟨rfl, h⟩)
    · exact LexLt.head h _ _
    · exact h.cons _
theorem lex_nil (l : List (Int × Int)) : ¬ LexLt [] l := by
  rintro ⟨p, x, y, t, t', e1, _, _⟩
  simp at e1
theorem lex_nil' (l : List (Int × Int)) : ¬ LexLt l [] := by
  rintro ⟨p, x, y, t, t', _, e1, _⟩
  simp at e1
theorem lex_irrefl : ∀ l : List (Int × Int), ¬ LexLt l l
  | [] => lex_nil _
  | a :: l => fun h => by
    rcases lex_cons.1 h with h | h
    · exact mlt_irrefl _ h
    · exact lex_irrefl l h.2
theorem lex_trans : ∀ {l l' l'' : List (Int × Int)}, LexLt l l' → LexLt l' l'' → LexLt l l''
  | [], _, _, h, _ => absurd h (lex_nil _)
  | _ :: _, [], _, h, _ => absurd h (lex_nil' _)
  | _ :: _, _ :: _, [], _, h => absurd h (lex_nil' _)
  | a :: l, b :: l', c :: l'', h, h2 => by
    rcases lex_cons.1 h with h3 | ⟨e3, h3⟩
    · rcases lex_cons.1 h2 with h4 | ⟨e4, h4⟩
      · exact lex_cons.2 (.inl (mlt_trans h3 h4))
      · exact lex_cons.2 (.inl (e4 ▸ h3))
    · rcases lex_cons.1 h2 with h4 | ⟨e4, h4⟩
      · exact lex_cons.2 (.inl (e3 ▸ h4))
      · exact lex_cons.2 (.inr ⟨e3.trans e4, lex_trans h3 h4⟩)
/-- not after -/
def LexLe (l l' : List (Int × Int)) : Prop := l = l' ∨ LexLt l l'
theorem LexLe.refl (l : List (Int × Int)) : LexLe l l := .inl rfl
theorem LexLe.trans {l l' l'' : List (Int × Int)} (h : LexLe l l') (h2 : LexLe l' l'') : LexLe l l'' := by
  rcases h with rfl | h
  · exact h2
  · rcases h2 with rfl | h2
    · exact .inr h
    · exact .inr (lex_trans h h2)
theorem LexLe.cons {l l' : List (Int × Int)} (x : Int × Int) (h : LexLe l l') : LexLe (x :: l) (x :: l') := by
  rcases h with rfl | h
  · exact .inl rfl
  · exact .inr (h.cons x)
theorem LexLe.antisymm {l l' : List (Int × Int)} (h : LexLe l l') (h2 : LexLe l' l) : l = l' := by
  rcases h with h | h
  · exact h
  · rcases h2 with h2 | h2
    · exact h2.symm
    · exact absurd (lex_trans h h2) (lex_irrefl _)

/-! ## greedy lists -/
/-- the stack whose top is the pack -/
def nextK (X : List (List Int)) (p : Int) : Option Nat := X.findIdx? (fun r => topL r == p)
theorem nextK_some {X : List (List Int)} {p : Int} {k : Nat} (h : nextK X p = some k) : ∃ hk : k < X.length, topL X[k] = p := by
  obtain ⟨hk, h2, _⟩ := List.findIdx?_eq_some_iff_getElem.1 h
  exact ⟨hk, by simpa using h2⟩
theorem nextK_none {X : List (List Int)} {p : Int} (h : nextK X p = none) : ∀ k (hk : k < X.length), topL X[k] ≠ p := by
  intro k hk e
  have := List.findIdx?_eq_none_iff.1 h X[k] (List.getElem_mem hk)
  simp [e] at this
/-- a list that loads whenever it can, with n moves between stacks -/
inductive Sol : List (List Int) → List Int → List (Int × Int) → Nat → Prop
  | done {X : List (List Int)} : Sol X [] [] 0
  | load {X : List (List Int)} {p : Int} {r : List Int} {L : List (Int × Int)} {n k : Nat} (h : nextK X p = some k) (s : Sol (mvX X k (-1)) r L n) : Sol X (p :: r) (((k : Int), -1) :: L) n
  | move {X : List (List Int)} {p : Int} {r : List Int} {L : List (Int × Int)} {n i k : Nat} (h : nextK X p = none) (hi : i < X.length) (hk : k < X.length) (hm : mvOk X i k = true) (s : Sol (mvX X i k) (p :: r) L n) : Sol X (p :: r) (((i : Int), (k : Int)) :: L) (n + 1)
/-- the first one of the least -/
structure Best (X : List (List Int)) (o : List Int) (L : List (Int × Int)) (n : Nat) : Prop where
  sol : Sol X o L n
  least : ∀ L' n', Sol X o L' n' → n ≤ n'
  first : ∀ L', Sol X o L' n → LexLe L L'
theorem Best.unique {X : List (List Int)} {o : List Int} {L L' : List (Int × Int)} {n n' : Nat} (h : Best X o L n) (h' : Best X o L' n') : L = L' ∧ n = n' := by
  have e : n = n' := Nat.le_antisymm (h.least _ _ h'.sol) (h'.least _ _ h.sol)
  subst e
  exact ⟨(h.first _ h'.sol).antisymm (h'.first _ h.sol), rfl⟩
theorem best_of {X : List (List Int)} {o : List Int} {L : List (Int × Int)} {n : Nat} (h : Sol X o L n) : ∃ m L', Sol X o L' m ∧ ∀ L' n', Sol X o L' n' → m ≤ n' := by
  induction n using Nat.strongRecOn generalizing L with
  | _ n ih =>
    by_cases h2 : ∃ L' n', Sol X o L' n' ∧ n' < n
    · obtain ⟨L', n', h3, h4⟩ := h2
      exact ih n' h4 h3
    · exact ⟨n, L, h, fun L' n' h3 => by
        by_cases h4 : n' < n
        · exact absurd ⟨L', n', h3, h4⟩ h2
        · omega⟩
end Go.Proofs.YtiefiikheaiekaaDoor
