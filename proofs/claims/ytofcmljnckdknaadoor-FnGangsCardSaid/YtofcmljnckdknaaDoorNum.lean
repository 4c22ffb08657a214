/-
  The small functions on numbers and on slices of int64: within, outside, toInt64S, eqInt64S, markInt64S, heldInt64S, sums, IndexFunc over int64.
-/
import Derived.Test.YtofcmljnckdknaaDoorProg
import Derived.Test.YtofcmljnckdknaaDoorLaws
import Derived.Test.YtofcmljnckdknaaDoorPlain
import Derived.Test.YtofcmljnckdknaaDoorGrid
import Derived.Deep.QuietTactic
import Derived.BigQuiet
namespace Go.Proofs.YtofcmljnckdknaaDoor
open Go.ChangeShapes Go.WideShapes Go.RowKit

theorem rowI : TyRow Tryd.prog 36 2 (.int .i64 0) LI.sz 8 := ⟨Tryd.underlying36, by kernel_rfl⟩

def inB (n lo hi : Int) : Bool := decide (lo ≤ n ∧ n ≤ hi)
theorem inB_yes {n lo hi : Int} (h : inB n lo hi = true) : lo ≤ n ∧ n ≤ hi := by simpa [inB] using h
theorem inB_mk {n lo hi : Int} (h : lo ≤ n ∧ n ≤ hi) : inB n lo hi = true := by simpa [inB] using h
theorem inB_no {n lo hi : Int} (h : ¬ (lo ≤ n ∧ n ≤ hi)) : inB n lo hi = false := by simpa [inB] using h

theorem within_any (n lo hi : Int) (w : World) :
    Calls Tryd.prog 52 #[.int .i64 n, .int .i64 lo, .int .i64 hi] w fun e w' => e = .returned (.bool (inB n lo hi)) ∧ w = w' := by
  go_enter Tryd.func52, Tryd.ntmps52
  go_wp2
  all_goals go_ret
  all_goals refine ⟨ret_bool ?_, rfl⟩
  all_goals simp [inB]
  all_goals omega

theorem l00In_any (n lo hi : Int) (w : World) :
    Calls Tryd.prog 54 #[.int .i64 n, .int .i64 lo, .int .i64 hi] w fun e w' => e = .returned (.bool (inB n lo hi)) ∧ w = w' := by
  go_enter Tryd.func54, Tryd.ntmps54
  go_wp2
  all_goals go_ret
  all_goals refine ⟨ret_bool ?_, rfl⟩
  all_goals simp [inB]
  all_goals omega


/-- slices.IndexFunc: the first place where p says yes -/
def fIdx {α : Type} (p : α → Bool) (xs : List α) : Int := match xs.findIdx? p with | some i => (i : Int) | none => -1
theorem fIdx_hit {α : Type} {p : α → Bool} {xs : List α} {m : Nat} (h : m < xs.length) (hno : ∀ y ∈ xs.take m, p y = false) (hp : p xs[m] = true) : fIdx p xs = m := by
  unfold fIdx
  have : xs.findIdx? p = some m := by
    rw [List.findIdx?_eq_some_iff_getElem]
    refine ⟨h, hp, fun j hj => ?_⟩
    have := hno xs[j] (by rw [List.mem_take_iff_getElem]; exact ⟨j, by omega, rfl⟩)
    simp [this]
  rw [this]
theorem fIdx_none {α : Type} {p : α → Bool} {xs : List α} (hno : ∀ y ∈ xs, p y = false) : fIdx p xs = -1 := by
  unfold fIdx
  have : xs.findIdx? p = none := by
    rw [List.findIdx?_eq_none_iff]; exact hno
  rw [this]
theorem fIdx_any {α : Type} (p : α → Bool) (xs : List α) : (decide (0 ≤ fIdx p xs)) = xs.any p := by
  unfold fIdx
  cases h : xs.findIdx? p with
  | none =>
    rw [List.findIdx?_eq_none_iff] at h
    have : xs.any p = false := by simpa using h
    simp [this]
  | some i =>
    rw [List.findIdx?_eq_some_iff_getElem] at h
    obtain ⟨hi, hp, _⟩ := h
    have : xs.any p = true := List.any_eq_true.2 ⟨xs[i], List.getElem_mem _, hp⟩
    simp [this]

/-- a function value that asks p, and leaves alone what lies below B -/
def AskF (P : Program) (k : FuncId) (caps : Array Value) (B : Nat) (w : World) (xs : List Int) (p : Int → Bool) : Prop :=
  (∀ args w, (callFunc k args).run P w = .ok (.enter k args) w) ∧
  ∀ x ∈ xs, ∀ w', Below B w w' → Calls P k (#[.int .i64 x] ++ caps) w' fun e w'' => e = .returned (.bool (p x)) ∧ Below w'.heap.size w' w''



theorem fill_step {α : Type} (xs : List α) (z : α) {k : Nat} (h : k < xs.length) : (xs.take k ++ List.replicate (xs.length - k) z).set k xs[k] = xs.take (k + 1) ++ List.replicate (xs.length - (k + 1)) z := by
  rw [List.set_append_right _ _ (by simp; omega), List.length_take, Nat.min_eq_left (by omega), Nat.sub_self, show xs.length - k = (xs.length - (k + 1)) + 1 by omega, List.replicate_succ, List.set_cons_zero, List.take_succ_eq_append_getElem h]
  simp only [List.append_assoc, List.cons_append, List.nil_append]
def eqB (xs ys : List Int) : Bool := decide (xs = ys)
theorem eqB_self (xs : List Int) : eqB xs xs = true := by simp [eqB]
theorem f6ints_quiet (A A2 : Option Addr) (c c2 : Nat) (xs ys : List Int) (B : Nat) (w : World) (hr : Rd LI w B A c xs) (hr2 : Rd LI w B A2 c2 ys) :
    Calls Tryd.prog 24 #[.slice A xs.length c, .slice A2 ys.length c2] w fun e w' => e = .returned (.bool (eqB xs ys)) ∧ Dr w w' := by
  have hlen := hr.len63
  have hlen2 := hr2.len63
  by_cases hl : xs.length = ys.length
  · have hn : ((xs.length : Int) != (ys.length : Int)) = false := by rw [bne_eq_false_iff_eq]; omega
    have Hl := Lib.hid hl
    clear hl
    go_enter Tryd.func24, Tryd.ntmps24
    go_wp2_with fail
    go_loopw [5] (fun i wr => ∃ k : Nat, k ≤ xs.length ∧ i = .int .i64 k ∧ xs.take k = ys.take k ∧ Dr w wr) (fun i _ => xs.length - (intOf i).toNat)
    case atStart => exact ⟨0, by omega, rfl, by simp, Dr.refl _⟩
    case round =>
      obtain ⟨k, hk, rfl, heq, hdr⟩ := hrel
      have Heq := Lib.hid heq
      clear heq
      by_cases hlt : k < xs.length
      · have hlt2 : k < ys.length := by have := Hl.out; omega
        obtain ⟨ad, rfl, hab, hcell⟩ := (hr.below hdr.below).int hlt
        obtain ⟨ad2, rfl, hab2, hcell2⟩ := (hr2.below hdr.below).int hlt2
        have hk0 : (k : Int) < xs.length := by omega
        have hk2 : (k : Int) < ys.length := by omega
        by_cases hx : xs[k] = ys[k]
        · have hne : (xs[k] != ys[k]) = false := by simp [hx]
          have Hx := Lib.hid hx
          clear hx
          go_wp2_with fail
          go_quiet (fail)
          go_wp2_with fail
          go_roundw
          case rel =>
            refine ⟨k + 1, by omega, by go_num, ?_, hdr.step _⟩
            rw [List.take_succ_eq_append_getElem hlt, List.take_succ_eq_append_getElem hlt2, Heq.out, Hx.out]
          case measure => simp [intOf]; omega
        · have hne : (xs[k] != ys[k]) = true := by simp [hx]
          go_wp2_with fail
          go_quiet (fail)
          go_wp2_with fail
          go_ret
          refine ⟨ret_bool (Eq.symm ?_), hdr.step _⟩
          simp only [eqB, decide_eq_false_iff_not]
          intro e
          subst e
          exact hx rfl
      · go_wp2_with fail
        go_ret
        refine ⟨ret_bool (Eq.symm ?_), hdr⟩
        have := Heq.out
        rw [List.take_of_length_le (by omega), List.take_of_length_le (by have := Hl.out; omega)] at this
        simp [eqB, this]
  · have hn : ((xs.length : Int) != (ys.length : Int)) = true := by rw [bne_iff_ne]; omega
    go_enter Tryd.func24, Tryd.ntmps24
    go_wp2_with fail
    go_ret
    refine ⟨ret_bool (Eq.symm ?_), Dr.refl _⟩
    simp only [eqB, decide_eq_false_iff_not]
    intro e
    exact hl (by rw [e])


theorem roundedUp_any (a b : Int) (w : World) (h0 : 0 ≤ a) (h1 : a ≤ 1152921504606846976) (h2 : 1 ≤ b) (h3 : b ≤ 1152921504606846976) :
    Calls Tryd.prog 57 #[.int .i64 a, .int .i64 b] w fun e w' => e = .returned (.int .i64 ((a + b - 1) / b)) ∧ w = w' := by
  go_enter Tryd.func57, Tryd.ntmps57
  have hb : (b == 0) = false := by simp; omega
  go_wp2_with fail
  go_ret
  exact ⟨rfl, rfl⟩
end Go.Proofs.YtofcmljnckdknaaDoor
