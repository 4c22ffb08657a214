/-
  Equality of lists, place by place.
-/
import Derived.Test.YtiefiikheaiekaaDoorNum
namespace Go.Proofs.YtiefiikheaiekaaDoor
open Go.ChangeShapes Go.WideShapes Go.RowKit
def allEq {α : Type} (p : α → α → Bool) : List α → List α → Bool
  | [], [] => true
  | a :: u1, b :: u2 => p a b && allEq p u1 u2
  | _, _ => false
theorem allEq_len {α : Type} {p : α → α → Bool} {u1 u2 : List α} (h : u1.length ≠ u2.length) : allEq p u1 u2 = false := by
  induction u1 generalizing u2 with
  | nil => cases u2 <;> simp_all [allEq]
  | cons a u1 ih =>
    cases u2 with
    | nil => rfl
    | cons b u2 => rw [allEq, ih (by simpa using h)]; simp
theorem allEq_step {α : Type} (p : α → α → Bool) {u1 u2 : List α} {k : Nat} (h : k < u1.length) (h2 : k < u2.length) : allEq p (u1.drop k) (u2.drop k) = (p u1[k] u2[k] && allEq p (u1.drop (k + 1)) (u2.drop (k + 1))) := by
  rw [List.drop_eq_getElem_cons h, List.drop_eq_getElem_cons h2]; rfl
theorem allEq_end {α : Type} (p : α → α → Bool) {u1 u2 : List α} {k : Nat} (h : u1.length ≤ k) (h2 : u2.length ≤ k) : allEq p (u1.drop k) (u2.drop k) = true := by
  rw [List.drop_of_length_le h, List.drop_of_length_le h2]; rfl
theorem str_of_list {a b : ByteArray} (h : a.toList = b.toList) : a = b := by
  rw [ByteArray.toList_eq, ByteArray.toList_eq] at h
  cases a; cases b
  simp at h
  rw [h]
/-- ys painted over xs, place by place -/
theorem paint_step {α : Type} (ys xs : List α) (h : ys.length = xs.length) {i : Nat} (hi : i < xs.length) : (ys.take i ++ xs.drop i).set i (ys[i]'(by omega)) = ys.take (i + 1) ++ xs.drop (i + 1) := by
  rw [List.set_append_right _ _ (by simp; omega), show i - (ys.take i).length = 0 by simp; omega, List.drop_eq_getElem_cons hi, List.set_cons_zero, List.take_succ_eq_append_getElem (l := ys) (by omega), List.append_assoc]
  rfl
end Go.Proofs.YtiefiikheaiekaaDoor
