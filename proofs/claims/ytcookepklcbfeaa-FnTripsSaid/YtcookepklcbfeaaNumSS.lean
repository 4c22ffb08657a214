/-
  Slices of slices of int64: toInt64SS, eqInt64SS, markInt64SS, heldInt64SS, szInt64S, szInt64SS.
-/
import Derived.Test.YtcookepklcbfeaaNum
namespace Go.Proofs.Ytcookepklcbfeaa
open Go.ChangeShapes Go.WideShapes Go.RowKit

theorem rowV : TyRow Try.prog 30 24 (.slice none 0 0) LV.sz 24 := ⟨Try.underlying30, by kernel_rfl⟩


/-- how many numbers in all -/
def tl : List (Row Int) → Nat
  | [] => 0
  | r :: rs => r.2.2.length + tl rs
def tlL : List (List Int) → Nat
  | [] => 0
  | r :: rs => r.length + tlL rs
theorem tl_dat (rs : List (Row Int)) : tl rs = tlL (dat rs) := by
  induction rs with
  | nil => rfl
  | cons r rs ih => simp only [tl, dat, List.map_cons, tlL] at *; rw [ih]; first | done | omega
theorem tl_append (rs ss : List (Row Int)) : tl (rs ++ ss) = tl rs + tl ss := by
  induction rs with
  | nil => simp [tl]
  | cons r rs ih => simp only [List.cons_append, tl, ih]; omega
theorem tl_succ (rs : List (Row Int)) {k : Nat} (h : k < rs.length) : tl (rs.take (k + 1)) = tl (rs.take k) + rs[k].2.2.length := by
  rw [List.take_succ_eq_append_getElem h, tl_append]; simp [tl]
theorem tl_take_le (rs : List (Row Int)) (k : Nat) : tl (rs.take k) ≤ tl rs := by
  have : tl rs = tl (rs.take k) + tl (rs.drop k) := by rw [← tl_append, List.take_append_drop]
  omega
end Go.Proofs.Ytcookepklcbfeaa
