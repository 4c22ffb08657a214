/-
  The small functions on numbers and on slices of int64: within, outside, toInt64S, eqInt64S, markInt64S, heldInt64S, sums, IndexFunc over int64.
-/
import Derived.Test.YtehmghlhljocbaaGreatDoorProg
import Derived.Test.YtehmghlhljocbaaGreatDoorLaws
import Derived.Test.YtehmghlhljocbaaGreatDoorPlain
import Derived.Test.YtehmghlhljocbaaGreatDoorGrid
import Derived.Deep.QuietTactic
import Derived.BigQuiet
namespace Go.Proofs.YtehmghlhljocbaaGreatDoor
open Go.ChangeShapes Go.WideShapes Go.RowKit

theorem rowI : TyRow Tryz.prog 70 2 (.int .i64 0) LI.sz 8 := ⟨Tryz.underlying70, by kernel_rfl⟩

def inB (n lo hi : Int) : Bool := decide (lo ≤ n ∧ n ≤ hi)
theorem inB_yes {n lo hi : Int} (h : inB n lo hi = true) : lo ≤ n ∧ n ≤ hi := by simpa [inB] using h
theorem inB_mk {n lo hi : Int} (h : lo ≤ n ∧ n ≤ hi) : inB n lo hi = true := by simpa [inB] using h
theorem inB_no {n lo hi : Int} (h : ¬ (lo ≤ n ∧ n ≤ hi)) : inB n lo hi = false := by simpa [inB] using h

theorem within_any (n lo hi : Int) (w : World) :
    Calls Tryz.prog 50 #[.int .i64 n, .int .i64 lo, .int .i64 hi] w fun e w' => e = .returned (.bool (inB n lo hi)) ∧ w = w' := by
  go_enter Tryz.func50, Tryz.ntmps50
  go_wp2
  all_goals go_ret
  all_goals refine ⟨ret_bool ?_, rfl⟩
  all_goals simp [inB]
  all_goals omega

theorem l00In_any (n lo hi : Int) (w : World) :
    Calls Tryz.prog 51 #[.int .i64 n, .int .i64 lo, .int .i64 hi] w fun e w' => e = .returned (.bool (inB n lo hi)) ∧ w = w' := by
  go_enter Tryz.func51, Tryz.ntmps51
  go_wp2
  all_goals go_ret
  all_goals refine ⟨ret_bool ?_, rfl⟩
  all_goals simp [inB]
  all_goals omega


/-- slices.IndexFunc: the first place where p says yes -/
def fIdx {α : Type} (p : α → Bool) (xs : List α) : Int := match xs.findIdx? p with | some i => (i : Int) | none => -1
theorem fIdx_hit {α : Type} {p : α → Bool} {xs : List α} {m : Nat} (h : m < xs.length) (hno : ∀ y ∈ xs.take m, p y = false) (hp : p xs[m] = true) : fIdx p xs = m := by
  unfold fIdx
  have : xs.findIdx? p = some m := by
    rw [List.findIdx?_eq_some_iff_getElem]
    refine ⟨h, hp, fun j hj => ?_⟩
    have := hno xs[j] (by rw [List.mem_take_iff_getElem]; exact ⟨j, by omega, rfl⟩)
    simp [this]
  rw [this]
theorem fIdx_none {α : Type} {p : α → Bool} {xs : List α} (hno : ∀ y ∈ xs, p y = false) : fIdx p xs = -1 := by
  unfold fIdx
  have : xs.findIdx? p = none := by
    rw [List.findIdx?_eq_none_iff]; exact hno
  rw [this]
theorem fIdx_any {α : Type} (p : α → Bool) (xs : List α) : (decide (0 ≤ fIdx p xs)) = xs.any p := by
  unfold fIdx
  cases h : xs.findIdx? p with
  | none =>
    rw [List.findIdx?_eq_none_iff] at h
    have : xs.any p = false := by simpa using h
    simp [this]
  | some i =>
    rw [List.findIdx?_eq_some_iff_getElem] at h
    obtain ⟨hi, hp, _⟩ := h
    have : xs.any p = true := List.any_eq_true.2 ⟨xs[i], List.getElem_mem _, hp⟩
    simp [this]

/-- a function value that asks p, and leaves alone what lies below B -/
def AskF (P : Program) (k : FuncId) (caps : Array Value) (B : Nat) (w : World) (xs : List Int) (p : Int → Bool) : Prop :=
  (∀ args w, (callFunc k args).run P w = .ok (.enter k args) w) ∧
  ∀ x ∈ xs, ∀ w', Below B w w' → Calls P k (#[.int .i64 x] ++ caps) w' fun e w'' => e = .returned (.bool (p x)) ∧ Below w'.heap.size w' w''



theorem fill_step {α : Type} (xs : List α) (z : α) {k : Nat} (h : k < xs.length) : (xs.take k ++ List.replicate (xs.length - k) z).set k xs[k] = xs.take (k + 1) ++ List.replicate (xs.length - (k + 1)) z := by
  rw [List.set_append_right _ _ (by simp; omega), List.length_take, Nat.min_eq_left (by omega), Nat.sub_self, show xs.length - k = (xs.length - (k + 1)) + 1 by omega, List.replicate_succ, List.set_cons_zero, List.take_succ_eq_append_getElem h]
  simp only [List.append_assoc, List.cons_append, List.nil_append]
def eqB (xs ys : List Int) : Bool := decide (xs = ys)
theorem eqB_self (xs : List Int) : eqB xs xs = true := by simp [eqB]



end Go.Proofs.YtehmghlhljocbaaGreatDoor
