/-
  Plain facts on lists of numbers: sums, counts.
-/
import Derived.WalkKit
namespace Go.Proofs.YtiefiikheaiekaaDoor

/-- a proposition as a Bool -/
noncomputable def dB (p : Prop) : Bool := @decide p (Classical.propDecidable p)
theorem dB_yes {p : Prop} (h : p) : dB p = true := by unfold dB; exact @decide_eq_true p (Classical.propDecidable p) h
theorem dB_no {p : Prop} (h : ¬ p) : dB p = false := by unfold dB; exact @decide_eq_false p (Classical.propDecidable p) h
theorem dB_true {p : Prop} (h : dB p = true) : p := by unfold dB at h; exact @of_decide_eq_true p (Classical.propDecidable p) h
theorem dB_false {p : Prop} (h : dB p = false) : ¬ p := by unfold dB at h; exact @of_decide_eq_false p (Classical.propDecidable p) h

theorem getD_lt {α : Type} (l : List α) (d : α) {i : Nat} (h : i < l.length) : l.getD i d = l[i] := by simp [List.getD, h]

/-- the sum -/
def sm (xs : List Int) : Int := xs.sum
theorem sm_nil : sm [] = 0 := rfl
theorem sm_cons (x : Int) (xs : List Int) : sm (x :: xs) = x + sm xs := by simp [sm]
theorem sm_append (xs ys : List Int) : sm (xs ++ ys) = sm xs + sm ys := by simp [sm]
theorem sm_succ (xs : List Int) {k : Nat} (h : k < xs.length) : sm (xs.take (k + 1)) = sm (xs.take k) + xs[k] := by
  rw [List.take_succ_eq_append_getElem h, sm_append, sm_cons, sm_nil]; omega
theorem sm_nonneg {xs : List Int} (h : ∀ x ∈ xs, 0 ≤ x) : 0 ≤ sm xs := by
  induction xs with
  | nil => simp [sm]
  | cons x xs ih =>
    rw [sm_cons]
    have := ih fun y hy => h y (List.mem_cons_of_mem _ hy)
    have := h x List.mem_cons_self
    omega
theorem sm_take_le {xs : List Int} (h : ∀ x ∈ xs, 0 ≤ x) (k : Nat) : sm (xs.take k) ≤ sm xs := by
  have e : sm xs = sm (xs.take k) + sm (xs.drop k) := by rw [← sm_append, List.take_append_drop]
  have := sm_nonneg (xs := xs.drop k) fun y hy => h y (List.mem_of_mem_drop hy)
  omega
theorem sm_take_bd {xs : List Int} (h : ∀ x ∈ xs, 0 ≤ x) (k : Nat) : 0 ≤ sm (xs.take k) ∧ sm (xs.take k) ≤ sm xs :=
  ⟨sm_nonneg fun y hy => h y (List.mem_of_mem_take hy), sm_take_le h k⟩
theorem sm_le {xs : List Int} {M : Int} (h : ∀ x ∈ xs, x ≤ M) : sm xs ≤ xs.length * M := by
  induction xs with
  | nil => simp [sm]
  | cons x xs ih =>
    rw [sm_cons]
    have := ih fun y hy => h y (List.mem_cons_of_mem _ hy)
    have := h x List.mem_cons_self
    rw [List.length_cons, Int.natCast_add, Int.add_mul]
    omega
theorem sm_bound {xs : List Int} {M : Int} {n : Nat} (h0 : 0 ≤ M) (h : ∀ x ∈ xs, x ≤ M) (hn : xs.length ≤ n) : sm xs ≤ n * M := by
  have := sm_le h
  have : (xs.length : Int) * M ≤ n * M := Int.mul_le_mul_of_nonneg_right (by omega) h0
  omega
/-- how many p says yes to -/
def cnt (p : Int → Bool) (xs : List Int) : Nat := (xs.filter p).length
theorem cnt_le (p : Int → Bool) (xs : List Int) : cnt p xs ≤ xs.length := List.length_filter_le _ _
theorem cnt_succ (p : Int → Bool) (xs : List Int) {k : Nat} (h : k < xs.length) : cnt p (xs.take (k + 1)) = cnt p (xs.take k) + if p xs[k] then 1 else 0 := by
  unfold cnt
  rw [List.take_succ_eq_append_getElem h, List.filter_append, List.length_append]
  cases h2 : p xs[k] <;> simp [h2]
theorem cnt_yes {p : Int → Bool} {xs : List Int} {k : Nat} (h : k < xs.length) (hp : p xs[k] = true) : cnt p (xs.take (k + 1)) = cnt p (xs.take k) + 1 := by rw [cnt_succ p xs h, hp]; rfl
theorem cnt_no {p : Int → Bool} {xs : List Int} {k : Nat} (h : k < xs.length) (hp : p xs[k] = false) : cnt p (xs.take (k + 1)) = cnt p (xs.take k) := by rw [cnt_succ p xs h, hp]; rfl
/-- what is left of a size -/
def szN (left : Int) (n : Nat) : Int := if (n : Int) ≤ left then left - n else -1
theorem szN_yes {left : Int} {n : Nat} (h0 : 0 ≤ left) (h : 0 ≤ szN left n) : (n : Int) ≤ left ∧ szN left n ≤ left := by
  unfold szN at h ⊢
  split at h
  · rw [if_pos (by omega)]; omega
  · omega
/-- the first number below n at which p says yes -/
def findN (p : Nat → Bool) (n : Nat) : Option Nat := (List.range n).find? p
theorem findN_hit {p : Nat → Bool} {n k : Nat} (hk : k < n) (hno : ∀ j, j < k → p j = false) (hp : p k = true) : findN p n = some k := by
  unfold findN
  rw [List.find?_range_eq_some]
  exact ⟨hp, by simpa using hk, fun j hj => by simp [hno j hj]⟩
theorem findN_none {p : Nat → Bool} {n : Nat} (hno : ∀ j, j < n → p j = false) : findN p n = none := by
  unfold findN
  rw [List.find?_range_eq_none]
  exact fun j hj => by simp [hno j hj]
def I64 (x : Int) : Prop := -9223372036854775808 ≤ x ∧ x ≤ 9223372036854775807
/-- the same for names: each counts its bytes -/
def szNs (left : Int) : List ByteArray → Int
  | [] => left
  | s :: l => if (s.size : Int) ≤ left then szNs (left - s.size) l else -1
def szNm (left : Int) (l : List ByteArray) : Int := if (l.length : Int) ≤ left then szNs (left - l.length) l else -1
theorem szNs_le {left : Int} {l : List ByteArray} (h : 0 ≤ left) : szNs left l ≤ left := by
  induction l generalizing left with
  | nil => simp [szNs]
  | cons s l ih =>
    simp only [szNs]
    split
    · have := ih (left := left - s.size) (by omega); omega
    · omega
theorem szNm_yes {left : Int} {l : List ByteArray} (h0 : 0 ≤ left) (h : 0 ≤ szNm left l) : (l.length : Int) ≤ left ∧ szNm left l ≤ left := by
  unfold szNm at h ⊢
  split at h
  · rw [if_pos (by omega)]
    have := szNs_le (l := l) (left := left - l.length) (by omega)
    omega
  · omega
end Go.Proofs.YtiefiikheaiekaaDoor
