/-
  ValidLoads and the functions on loads that need no search: LeastTrips, FirstFitTrips; sums.
-/
import Derived.Test.YtcookepklcbfeaaNum
namespace Go.Proofs.Ytcookepklcbfeaa
open Go.ChangeShapes Go.WideShapes Go.RowKit

def vlB (xs : List Int) (most : Int) : Bool := inB most 1 5000 && decide (xs.length ≤ 10) && !outB xs 1 most

theorem implValidLoads_any (A : Option Addr) (c : Nat) (xs : List Int) (most : Int) (w : World) (hr : Rd LI w w.heap.size A c xs) :
    Calls Try.prog 22 #[.slice A xs.length c, .int .i64 most] w fun e w' => e = .returned (.bool (vlB xs most)) ∧ Below w.heap.size w w' := by
  have hlen := hr.len63
  cases h1 : inB most 1 5000
  · have hv : vlB xs most = false := by simp [vlB, h1]
    rw [hv]
    have HR := Lib.hid hr
    clear hr hv
    go_enter Try.func22, Try.ntmps22
    go_wp2_with (go_at_call 52; refine (within_any _ _ _ _).mono ?_; rintro e w' ⟨rfl, rfl⟩)
    go_ret
    exact ⟨rfl, Below.refl _ _⟩
  · by_cases h2 : xs.length ≤ 10
    · have hv : vlB xs most = !outB xs 1 most := by simp [vlB, h1, h2]
      rw [hv]
      clear hv
      have hc := outside_any A c xs 1 most w hr
      have HR := Lib.hid hr
      clear hr
      go_enter Try.func22, Try.ntmps22
      go_wp2_with (go_at_call 52; refine (within_any _ _ _ _).mono ?_; rintro e w' ⟨rfl, rfl⟩)
      refine hc.mono ?_
      rintro e w1 ⟨rfl, hb1⟩
      go_wp2_with fail
      go_ret
      exact ⟨rfl, hb1⟩
    · have hv : vlB xs most = false := by simp [vlB, h1, h2]
      rw [hv]
      have HR := Lib.hid hr
      clear hr hv
      go_enter Try.func22, Try.ntmps22
      go_wp2_with (go_at_call 52; refine (within_any _ _ _ _).mono ?_; rintro e w' ⟨rfl, rfl⟩)
      go_ret
      exact ⟨rfl, Below.refl _ _⟩

theorem l21Ok_any (A : Option Addr) (c : Nat) (xs : List Int) (most : Int) (w : World) (hr : Rd LI w w.heap.size A c xs) :
    Calls Try.prog 39 #[.slice A xs.length c, .int .i64 most] w fun e w' => e = .returned (.bool (vlB xs most)) ∧ Below w.heap.size w w' := by
  have hlen := hr.len63
  cases h1 : inB most 1 5000
  · have hv : vlB xs most = false := by simp [vlB, h1]
    rw [hv]
    have HR := Lib.hid hr
    clear hr hv
    go_enter Try.func39, Try.ntmps39
    go_wp2_with (go_at_call 54; refine (l00In_any _ _ _ _).mono ?_; rintro e w' ⟨rfl, rfl⟩)
    go_ret
    exact ⟨rfl, Below.refl _ _⟩
  · by_cases h2 : xs.length ≤ 10
    · have HV : Hid (vlB xs most = !outB xs 1 most) := Lib.hid (by simp [vlB, h1, h2])
      go_enter Try.func39, Try.ntmps39
      go_wp2_with (go_at_call 54; refine (l00In_any _ _ _ _).mono ?_; rintro e w' ⟨rfl, rfl⟩)
      go_loop [5] (fun i => ∃ k : Nat, k ≤ xs.length ∧ i = .int .i64 k ∧ outB (xs.take k) 1 most = false) (fun i => xs.length - (intOf i).toNat)
      case atStart => exact ⟨0, by omega, rfl, rfl⟩
      case round =>
        obtain ⟨k, hk, rfl, hno⟩ := hrel
        have Hno := Lib.hid hno
        clear hno
        by_cases hlt : k < xs.length
        · obtain ⟨ad, rfl, hab, hcell⟩ := hr.int hlt
          cases hin : inB xs[k] 1 most
          · go_wp2_with (go_at_call 54; refine (l00In_any _ _ _ _).mono ?_; rintro e w' ⟨rfl, rfl⟩)
            go_ret
            refine ⟨ret_bool (Eq.symm ?_), Below.refl _ _⟩
            rw [HV.out]
            have : outB xs 1 most = true := List.any_eq_true.2 ⟨xs[k], List.getElem_mem _, by simp [hin]⟩
            simp [this]
          · go_wp2_with (go_at_call 54; refine (l00In_any _ _ _ _).mono ?_; rintro e w' ⟨rfl, rfl⟩)
            go_round
            case rel =>
              refine ⟨k + 1, by omega, by go_num, ?_⟩
              rw [List.take_succ_eq_append_getElem hlt]
              have := Hno.out
              simp only [outB, List.any_append] at this ⊢
              rw [this]
              simp [hin]
            case measure => simp [intOf]; omega
        · go_wp2_with fail
          go_ret
          refine ⟨ret_bool (Eq.symm ?_), Below.refl _ _⟩
          have := Hno.out
          rw [List.take_of_length_le (by omega)] at this
          rw [HV.out, this]
          rfl
    · have hv : vlB xs most = false := by simp [vlB, h1, h2]
      rw [hv]
      have HR := Lib.hid hr
      clear hr hv
      go_enter Try.func39, Try.ntmps39
      go_wp2_with (go_at_call 54; refine (l00In_any _ _ _ _).mono ?_; rintro e w' ⟨rfl, rfl⟩)
      go_ret
      exact ⟨rfl, Below.refl _ _⟩

theorem specValidLoads_any (A : Option Addr) (c : Nat) (xs : List Int) (most : Int) (w : World) (hr : Rd LI w w.heap.size A c xs) :
    Calls Try.prog 23 #[.slice A xs.length c, .int .i64 most] w fun e w' => e = .returned (.bool (vlB xs most)) ∧ Below w.heap.size w w' := by
  have hc := l21Ok_any A c xs most w hr
  have HR := Lib.hid hr
  clear hr
  go_enter Try.func23, Try.ntmps23
  go_wp2_with fail
  refine hc.mono ?_
  rintro e w1 ⟨rfl, hb1⟩
  go_wp2_with fail
  go_ret
  exact ⟨rfl, hb1⟩
end Go.Proofs.Ytcookepklcbfeaa
