/-
  Tested bricks: ValidTested of both.
-/
import Derived.Test.YtehmghlhljocbaaDoorFlatTested
import Derived.Deep.QuietTactic
import Derived.BigQuiet
namespace Go.Proofs.YtehmghlhljocbaaDoor
open Go.ChangeShapes Go.WideShapes Go.RowKit

def tsOk (x : TestedD) : Bool := inB x.1 0 100000 && inB x.2 0 1000
def vtB (xs : List TestedD) : Bool := decide ((xs.length : Int) ≤ 20) && !xs.any (fun x => !tsOk x)
theorem vt_parts {xs : List TestedD} (h : vtB xs = true) : xs.length ≤ 20 ∧ ∀ x ∈ xs, (0 ≤ x.1 ∧ x.1 ≤ 100000) ∧ 0 ≤ x.2 ∧ x.2 ≤ 1000 := by
  simp only [vtB, Bool.and_eq_true, decide_eq_true_eq, Bool.not_eq_true'] at h
  refine ⟨by omega, fun x hx => ?_⟩
  have h2 := List.any_eq_false.1 h.2 x hx
  simp [tsOk] at h2
  exact ⟨inB_yes h2.1, inB_yes h2.2⟩
theorem ValidTested1_any (f0 f1 : Int) (w : World) :
    Calls Tryd.prog 31 #[.agg #[.int .i64 f0, .int .i64 f1]] w fun e w' => e = .returned (.bool (!tsOk (f0, f1))) ∧ Below w.heap.size w w' := by
  have hb0 := (Below.refl w.heap.size w).alloc (Nat.le_refl _) (.cells #[.int .i64 f0, .int .i64 f1] 33)
  cases h1 : inB f0 0 100000
  · have HV : Hid (tsOk (f0, f1) = false) := Lib.hid (by simp [tsOk, h1])
    rw [HV.out]
    go_enter Tryd.func31, Tryd.ntmps31
    go_wp2_with (go_at_call 32; refine (within_any _ _ _ _).mono ?_; rintro e w' ⟨rfl, rfl⟩)
    go_ret
    exact ⟨rfl, hb0⟩
  · have HV : Hid (tsOk (f0, f1) = inB f1 0 1000) := Lib.hid (by simp [tsOk, h1])
    rw [HV.out]
    go_enter Tryd.func31, Tryd.ntmps31
    go_wp2_with (go_at_call 32; refine (within_any _ _ _ _).mono ?_; rintro e w' ⟨rfl, rfl⟩)
    go_ret
    exact ⟨rfl, hb0⟩
theorem eg_ValidTested1 : ∀ args w, (callFunc 31 args).run Tryd.prog w = .ok (.enter 31 args) w := by
  intro args w
  kernel_rfl

theorem implValidTested_any (A : Option Addr) (c : Nat) (xs : List TestedD) (w : World) (hr : Rd LTested w w.heap.size A c xs) :
    Calls Tryd.prog 21 #[.slice A xs.length c] w fun e w' => e = .returned (.bool (vtB xs)) ∧ Below w.heap.size w w' := by
  have hlen := hr.len63
  by_cases hn : (xs.length : Int) ≤ 20
  · have HV : Hid (vtB xs = !xs.any (fun x => !tsOk x)) := Lib.hid (by simp only [vtB, hn, decide_true, Bool.true_and])
    have hcc := containsTested_any A c xs 31 #[] (fun x => !tsOk x) w.heap.size w (Nat.le_refl _) hr
      ⟨eg_ValidTested1, fun x _ W _ => ValidTested1_any x.1 x.2 W⟩
    rw [HV.out]
    go_enter Tryd.func21, Tryd.ntmps21
    go_wp2_with fail
    refine hcc.mono ?_
    rintro e w1 ⟨rfl, hb1⟩
    go_wp2_with fail
    go_ret
    exact ⟨rfl, hb1⟩
  · have HV : Hid (vtB xs = false) := Lib.hid (by simp [vtB]; omega)
    rw [HV.out]
    go_enter Tryd.func21, Tryd.ntmps21
    go_wp2_with fail
    go_ret
    exact ⟨rfl, Below.refl _ _⟩

theorem l19One_any (f0 f1 : Int) (p : Addr) (w : World) (hc0 : w.cell? p = some (.int .i64 f0)) (hc1 : w.cell? ⟨p.block, p.off + 1, none⟩ = some (.int .i64 f1)) :
    Calls Tryd.prog 18 #[.pointer (some p)] w fun e w' => e = .returned (.bool (tsOk (f0, f1))) ∧ w = w' := by
  cases h1 : inB f0 0 100000
  · have HV : Hid (tsOk (f0, f1) = false) := Lib.hid (by simp [tsOk, h1])
    rw [HV.out]
    go_enter Tryd.func18, Tryd.ntmps18
    go_wp2_with (go_at_call 24; refine (l00In_any _ _ _ _).mono ?_; rintro e w' ⟨rfl, rfl⟩)
    go_ret
    exact ⟨rfl, rfl⟩
  · have HV : Hid (tsOk (f0, f1) = inB f1 0 1000) := Lib.hid (by simp [tsOk, h1])
    rw [HV.out]
    go_enter Tryd.func18, Tryd.ntmps18
    go_wp2_with (go_at_call 24; refine (l00In_any _ _ _ _).mono ?_; rintro e w' ⟨rfl, rfl⟩)
    go_ret
    exact ⟨rfl, rfl⟩
theorem l19Ok_any (A : Option Addr) (c : Nat) (xs : List TestedD) (B : Nat) (w : World) (hr : Rd LTested w B A c xs) :
    Calls Tryd.prog 11 #[.slice A xs.length c] w fun e w' => e = .returned (.bool (vtB xs)) ∧ w = w' := by
  have hlen := hr.len63
  go_enter Tryd.func11, Tryd.ntmps11
  go_wp2_with fail
  go_loop [3] (fun i => ∃ k : Nat, k ≤ xs.length ∧ i = .int .i64 k ∧ Hid ((xs.take k).any (fun x => !tsOk x) = false)) (fun i => xs.length - (intOf i).toNat)
  case atStart => exact ⟨0, by omega, rfl, Lib.hid rfl⟩
  case round =>
    obtain ⟨k, hk, rfl, Hno⟩ := hrel
    by_cases hlt : k < xs.length
    · obtain ⟨ad, rfl, hab, hc0, hc1⟩ := rdTested hr hlt
      have hI := l19One_any xs[k].1 xs[k].2 (ad.add (k * 2)) w hc0 hc1
      cases h1 : tsOk (xs[k].1, xs[k].2)
      · have HE : Hid (vtB xs = false) := Lib.hid (by
          have : xs.any (fun x => !tsOk x) = true := List.any_eq_true.2 ⟨xs[k], List.getElem_mem hlt, by rw [show tsOk xs[k] = false from h1]; rfl⟩
          simp only [vtB, this]; simp)
        rw [h1] at hI
        go_wp2_with fail
        refine hI.mono ?_
        rintro e w3 ⟨rfl, rfl⟩
        go_wp2_with fail
        go_ret
        exact ⟨ret_bool HE.out.symm, rfl⟩
      · have HE : Hid ((xs.take (k + 1)).any (fun x => !tsOk x) = false) := Lib.hid (by
          rw [List.take_succ_eq_append_getElem hlt, List.any_append, Hno.out]
          simp [show tsOk xs[k] = true from h1])
        rw [h1] at hI
        go_wp2_with fail
        refine hI.mono ?_
        rintro e w3 ⟨rfl, rfl⟩
        go_wp2_with fail
        go_round
        case rel => exact ⟨k + 1, by omega, by go_num, HE⟩
        case measure => simp [intOf]; omega
    · go_wp2_with fail
      go_ret
      refine ⟨ret_bool ?_, rfl⟩
      have := Hno.out
      rw [List.take_of_length_le (by omega)] at this
      simp only [vtB, this]; simp

end Go.Proofs.YtehmghlhljocbaaDoor
