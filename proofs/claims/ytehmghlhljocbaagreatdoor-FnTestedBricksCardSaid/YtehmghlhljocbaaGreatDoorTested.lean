/-
  Tested bricks: ValidTested, classes, faults, ClassFault, BestClass.
-/
import Derived.Test.YtehmghlhljocbaaGreatDoorFlatTested
import Derived.Test.YtehmghlhljocbaaGreatDoorFlatClass
import Derived.Test.YtehmghlhljocbaaGreatDoorNames
import Derived.Deep.QuietTactic
import Derived.BigQuiet
namespace Go.Proofs.YtehmghlhljocbaaGreatDoor
open Go.ChangeShapes Go.WideShapes Go.RowKit

def tsOk (x : TestedD) : Bool := inB x.1 0 100000 && inB x.2 0 1000
def vtB (xs : List TestedD) : Bool := decide ((xs.length : Int) ≤ 20) && !xs.any (fun x => !tsOk x)
def clOk (c : ClassD) : Bool := nmB c.1 && inB c.2.1 0 100000 && inB c.2.2.1 0 c.2.1 && inB c.2.2.2 0 1000
def stg (xs : List TestedD) : Int := sm (xs.map fun x => x.1)
def cfT (xs : List TestedD) (c : ClassD) : ByteArray :=
  if stg xs < c.2.1 * xs.length then { data := #[109, 101, 97, 110] } else
  if xs.any (fun t => decide (t.1 < c.2.2.1)) = true then { data := #[101, 97, 99, 104] } else
  if xs.any (fun t => decide (c.2.2.2 < t.2)) = true then { data := #[119, 97, 116, 101, 114] } else { data := #[110, 111, 110, 101] }
def cfS (xs : List TestedD) (c : ClassD) : ByteArray := if vtB xs = true ∧ clOk c = true ∧ xs.length ≠ 0 then cfT xs c else { data := #[] }
def cfC (xs : List TestedD) (c : ClassD) : Int := if vtB xs = true ∧ clOk c = true then (if xs.length = 0 then 3 else 0) else 1
theorem vt_parts {xs : List TestedD} (h : vtB xs = true) : xs.length ≤ 20 ∧ ∀ x ∈ xs, (0 ≤ x.1 ∧ x.1 ≤ 100000) ∧ 0 ≤ x.2 ∧ x.2 ≤ 1000 := by
  simp only [vtB, Bool.and_eq_true, decide_eq_true_eq, Bool.not_eq_true'] at h
  refine ⟨by omega, fun x hx => ?_⟩
  have h2 := List.any_eq_false.1 h.2 x hx
  simp [tsOk] at h2
  exact ⟨inB_yes h2.1, inB_yes h2.2⟩
theorem stg_succ (xs : List TestedD) {k : Nat} (h : k < xs.length) : stg (xs.take (k + 1)) = stg (xs.take k) + xs[k].1 := by
  unfold stg
  rw [List.take_succ_eq_append_getElem h, List.map_append, sm_append]
  simp [sm]
theorem stg_bd {xs : List TestedD} (h : vtB xs = true) (k : Nat) : 0 ≤ stg (xs.take k) ∧ stg (xs.take k) ≤ 2000000 := by
  obtain ⟨hl, hx⟩ := vt_parts h
  have h1 : ∀ y ∈ (xs.take k).map (fun x => x.1), 0 ≤ y ∧ y ≤ 100000 := by
    intro y hy
    obtain ⟨x, hx2, rfl⟩ := List.mem_map.1 hy
    exact (hx x (List.mem_of_mem_take hx2)).1
  refine ⟨sm_nonneg fun y hy => (h1 y hy).1, ?_⟩
  have := sm_bound (M := 100000) (n := 20) (by omega) (fun y hy => (h1 y hy).2) (by simp; omega)
  unfold stg
  omega
theorem mul_bd {a : Int} {n : Nat} (h0 : 0 ≤ a) (h1 : a ≤ 100000) (hn : n ≤ 20) : 0 ≤ a * (n : Int) ∧ a * (n : Int) ≤ 2000000 := by
  have h2 : a * (n : Int) ≤ 100000 * 20 := Int.mul_le_mul h1 (by omega) (by omega) (by omega)
  exact ⟨Int.mul_nonneg h0 (by omega), by omega⟩
theorem clOk_parts {c : ClassD} (h : clOk c = true) : nmB c.1 = true ∧ (0 ≤ c.2.1 ∧ c.2.1 ≤ 100000) ∧ (0 ≤ c.2.2.1 ∧ c.2.2.1 ≤ c.2.1) ∧ 0 ≤ c.2.2.2 ∧ c.2.2.2 ≤ 1000 := by
  simp only [clOk, Bool.and_eq_true] at h
  exact ⟨h.1.1.1, inB_yes h.1.1.2, inB_yes h.1.2, inB_yes h.2⟩

theorem ValidTested1_any (f0 f1 : Int) (w : World) :
    Calls Tryz.prog 64 #[.agg #[.int .i64 f0, .int .i64 f1]] w fun e w' => e = .returned (.bool (!tsOk (f0, f1))) ∧ Below w.heap.size w w' := by
  have hb0 := (Below.refl w.heap.size w).alloc (Nat.le_refl _) (.cells #[.int .i64 f0, .int .i64 f1] 54)
  cases h1 : inB f0 0 100000
  · have HV : Hid (tsOk (f0, f1) = false) := Lib.hid (by simp [tsOk, h1])
    rw [HV.out]
    go_enter Tryz.func64, Tryz.ntmps64
    go_wp2_with (go_at_call 50; refine (within_any _ _ _ _).mono ?_; rintro e w' ⟨rfl, rfl⟩)
    go_ret
    exact ⟨rfl, hb0⟩
  · have HV : Hid (tsOk (f0, f1) = inB f1 0 1000) := Lib.hid (by simp [tsOk, h1])
    rw [HV.out]
    go_enter Tryz.func64, Tryz.ntmps64
    go_wp2_with (go_at_call 50; refine (within_any _ _ _ _).mono ?_; rintro e w' ⟨rfl, rfl⟩)
    go_ret
    exact ⟨rfl, hb0⟩
theorem eg_ValidTested1 : ∀ args w, (callFunc 64 args).run Tryz.prog w = .ok (.enter 64 args) w := by
  intro args w
  kernel_rfl

theorem implValidTested_any (A : Option Addr) (c : Nat) (xs : List TestedD) (w : World) (hr : Rd LTested w w.heap.size A c xs) :
    Calls Tryz.prog 29 #[.slice A xs.length c] w fun e w' => e = .returned (.bool (vtB xs)) ∧ Below w.heap.size w w' := by
  have hlen := hr.len63
  by_cases hn : (xs.length : Int) ≤ 20
  · have HV : Hid (vtB xs = !xs.any (fun x => !tsOk x)) := Lib.hid (by simp only [vtB, hn, decide_true, Bool.true_and])
    have hcc := containsTested_any A c xs 64 #[] (fun x => !tsOk x) w.heap.size w (Nat.le_refl _) hr
      ⟨eg_ValidTested1, fun x _ W _ => ValidTested1_any x.1 x.2 W⟩
    rw [HV.out]
    go_enter Tryz.func29, Tryz.ntmps29
    go_wp2_with fail
    refine hcc.mono ?_
    rintro e w1 ⟨rfl, hb1⟩
    go_wp2_with fail
    go_ret
    exact ⟨rfl, hb1⟩
  · have HV : Hid (vtB xs = false) := Lib.hid (by simp [vtB]; omega)
    rw [HV.out]
    go_enter Tryz.func29, Tryz.ntmps29
    go_wp2_with fail
    go_ret
    exact ⟨rfl, Below.refl _ _⟩

theorem l19One_any (f0 f1 : Int) (p : Addr) (w : World) (hc0 : w.cell? p = some (.int .i64 f0)) (hc1 : w.cell? ⟨p.block, p.off + 1, none⟩ = some (.int .i64 f1)) :
    Calls Tryz.prog 71 #[.pointer (some p)] w fun e w' => e = .returned (.bool (tsOk (f0, f1))) ∧ w = w' := by
  cases h1 : inB f0 0 100000
  · have HV : Hid (tsOk (f0, f1) = false) := Lib.hid (by simp [tsOk, h1])
    rw [HV.out]
    go_enter Tryz.func71, Tryz.ntmps71
    go_wp2_with (go_at_call 51; refine (l00In_any _ _ _ _).mono ?_; rintro e w' ⟨rfl, rfl⟩)
    go_ret
    exact ⟨rfl, rfl⟩
  · have HV : Hid (tsOk (f0, f1) = inB f1 0 1000) := Lib.hid (by simp [tsOk, h1])
    rw [HV.out]
    go_enter Tryz.func71, Tryz.ntmps71
    go_wp2_with (go_at_call 51; refine (l00In_any _ _ _ _).mono ?_; rintro e w' ⟨rfl, rfl⟩)
    go_ret
    exact ⟨rfl, rfl⟩
theorem l19Ok_any (A : Option Addr) (c : Nat) (xs : List TestedD) (B : Nat) (w : World) (hr : Rd LTested w B A c xs) :
    Calls Tryz.prog 39 #[.slice A xs.length c] w fun e w' => e = .returned (.bool (vtB xs)) ∧ w = w' := by
  have hlen := hr.len63
  go_enter Tryz.func39, Tryz.ntmps39
  go_wp2_with fail
  go_loop [3] (fun i => ∃ k : Nat, k ≤ xs.length ∧ i = .int .i64 k ∧ Hid ((xs.take k).any (fun x => !tsOk x) = false)) (fun i => xs.length - (intOf i).toNat)
  case atStart => exact ⟨0, by omega, rfl, Lib.hid rfl⟩
  case round =>
    obtain ⟨k, hk, rfl, Hno⟩ := hrel
    by_cases hlt : k < xs.length
    · obtain ⟨ad, rfl, hab, hc0, hc1⟩ := rdTested hr hlt
      have hI := l19One_any xs[k].1 xs[k].2 (ad.add (k * 2)) w hc0 hc1
      cases h1 : tsOk (xs[k].1, xs[k].2)
      · have HE : Hid (vtB xs = false) := Lib.hid (by
          have : xs.any (fun x => !tsOk x) = true := List.any_eq_true.2 ⟨xs[k], List.getElem_mem hlt, by rw [show tsOk xs[k] = false from h1]; rfl⟩
          simp only [vtB, this]; simp)
        rw [h1] at hI
        go_wp2_with fail
        refine hI.mono ?_
        rintro e w3 ⟨rfl, rfl⟩
        go_wp2_with fail
        go_ret
        exact ⟨ret_bool HE.out.symm, rfl⟩
      · have HE : Hid ((xs.take (k + 1)).any (fun x => !tsOk x) = false) := Lib.hid (by
          rw [List.take_succ_eq_append_getElem hlt, List.any_append, Hno.out]
          simp [show tsOk xs[k] = true from h1])
        rw [h1] at hI
        go_wp2_with fail
        refine hI.mono ?_
        rintro e w3 ⟨rfl, rfl⟩
        go_wp2_with fail
        go_round
        case rel => exact ⟨k + 1, by omega, by go_num, HE⟩
        case measure => simp [intOf]; omega
    · go_wp2_with fail
      go_ret
      refine ⟨ret_bool ?_, rfl⟩
      have := Hno.out
      rw [List.take_of_length_le (by omega)] at this
      simp only [vtB, this]; simp

theorem strengths_any (A : Option Addr) (c : Nat) (xs : List TestedD) (B : Nat) (w : World) (hB : B ≤ w.heap.size) (hr : Rd LTested w B A c xs) (hv : vtB xs = true) :
    Calls Tryz.prog 44 #[.slice A xs.length c] w fun e w' => e = .returned (.int .i64 (stg xs)) ∧ Below w.heap.size w w' := by
  have hlen := hr.len63
  have HV := Lib.hid hv
  have hpt := (vt_parts hv).2
  clear hv
  go_enter Tryz.func44, Tryz.ntmps44
  go_wp2_with fail
  go_loopw [3, 8] (fun s i wr => ∃ k : Nat, k ≤ xs.length ∧ i = .int .i64 k ∧ s = .int .i64 (stg (xs.take k)) ∧ Below w.heap.size w wr) (fun _ i _ => xs.length - (intOf i).toNat)
  case atStart => exact ⟨0, by omega, rfl, rfl, Below.refl _ _⟩
  case round =>
    obtain ⟨k, hk, rfl, rfl, hbel⟩ := hrel
    obtain ⟨b0, b1⟩ := stg_bd HV.out k
    have hsz := hbel.size
    by_cases hlt : k < xs.length
    · obtain ⟨ad, rfl, hab, hc0, hc1⟩ := rdTested (hr.below (hbel.mono hB)) hlt
      obtain ⟨⟨hx0, hx1⟩, _⟩ := hpt _ (List.getElem_mem hlt)
      have HS := Lib.hid (stg_succ xs hlt)
      go_wp2_with fail
      go_roundw
      case rel => exact ⟨k + 1, by omega, by go_num, by rw [HS.out], hbel.alloc hsz _⟩
      case measure => simp [intOf]; omega
    · go_wp2_with fail
      go_ret
      exact ⟨ret_int (by rw [List.take_of_length_le (by omega)]), hbel⟩
theorem l19Sum_any (A : Option Addr) (c : Nat) (xs : List TestedD) (B : Nat) (w : World) (hr : Rd LTested w B A c xs) (hv : vtB xs = true) :
    Calls Tryz.prog 47 #[.slice A xs.length c] w fun e w' => e = .returned (.int .i64 (stg xs)) ∧ w = w' := by
  have hlen := hr.len63
  have HV := Lib.hid hv
  have hpt := (vt_parts hv).2
  clear hv
  go_enter Tryz.func47, Tryz.ntmps47
  go_wp2_with fail
  go_loop [3, 4] (fun s i => ∃ k : Nat, k ≤ xs.length ∧ i = .int .i64 k ∧ s = .int .i64 (stg (xs.take k))) (fun _ i => xs.length - (intOf i).toNat)
  case atStart => exact ⟨0, by omega, rfl, rfl⟩
  case round =>
    obtain ⟨k, hk, rfl, rfl⟩ := hrel
    obtain ⟨b0, b1⟩ := stg_bd HV.out k
    by_cases hlt : k < xs.length
    · obtain ⟨ad, rfl, hab, hc0, hc1⟩ := rdTested hr hlt
      obtain ⟨⟨hx0, hx1⟩, _⟩ := hpt _ (List.getElem_mem hlt)
      have HS := Lib.hid (stg_succ xs hlt)
      go_wp2_with fail
      go_round
      case rel => exact ⟨k + 1, by omega, by go_num, by rw [HS.out]⟩
      case measure => simp [intOf]; omega
    · go_wp2_with fail
      go_ret
      exact ⟨ret_int (by rw [List.take_of_length_le (by omega)]), rfl⟩

set_option maxHeartbeats 800000 in
theorem validClass_any (f0 : ByteArray) (f1 f2 f3 : Int) (hs : f0.size ≤ 9223372036854775807) (w : World) :
    Calls Tryz.prog 37 #[.agg #[.string f0, .int .i64 f1, .int .i64 f2, .int .i64 f3]] w fun e w' => e = .returned (.bool (clOk (f0, f1, f2, f3))) ∧ Below w.heap.size w w' := by
  have hb0 := (Below.refl w.heap.size w).alloc (Nat.le_refl _) (.cells #[.string f0, .int .i64 f1, .int .i64 f2, .int .i64 f3] 37)
  have hn := implIsName_any f0 hs
  cases h1 : nmB f0
  · have HV : Hid (clOk (f0, f1, f2, f3) = false) := Lib.hid (by simp [clOk, h1])
    rw [HV.out]
    rw [h1] at hn
    go_enter Tryz.func37, Tryz.ntmps37
    go_wp2_with fail
    refine (hn _).mono ?_
    rintro e w1 ⟨rfl, rfl⟩
    go_wp2_with (go_at_call 50; refine (within_any _ _ _ _).mono ?_; rintro e w' ⟨rfl, rfl⟩)
    go_ret
    exact ⟨rfl, hb0⟩
  · rw [h1] at hn
    cases h2 : inB f1 0 100000
    · have HV : Hid (clOk (f0, f1, f2, f3) = false) := Lib.hid (by simp [clOk, h1, h2])
      rw [HV.out]
      go_enter Tryz.func37, Tryz.ntmps37
      go_wp2_with fail
      refine (hn _).mono ?_
      rintro e w1 ⟨rfl, rfl⟩
      go_wp2_with (go_at_call 50; refine (within_any _ _ _ _).mono ?_; rintro e w' ⟨rfl, rfl⟩)
      go_ret
      exact ⟨rfl, hb0⟩
    · cases h3 : inB f2 0 f1
      · have HV : Hid (clOk (f0, f1, f2, f3) = false) := Lib.hid (by simp [clOk, h1, h2, h3])
        rw [HV.out]
        go_enter Tryz.func37, Tryz.ntmps37
        go_wp2_with fail
        refine (hn _).mono ?_
        rintro e w1 ⟨rfl, rfl⟩
        go_wp2_with (go_at_call 50; refine (within_any _ _ _ _).mono ?_; rintro e w' ⟨rfl, rfl⟩)
        go_ret
        exact ⟨rfl, hb0⟩
      · have HV : Hid (clOk (f0, f1, f2, f3) = inB f3 0 1000) := Lib.hid (by simp [clOk, h1, h2, h3])
        rw [HV.out]
        go_enter Tryz.func37, Tryz.ntmps37
        go_wp2_with fail
        refine (hn _).mono ?_
        rintro e w1 ⟨rfl, rfl⟩
        go_wp2_with (go_at_call 50; refine (within_any _ _ _ _).mono ?_; rintro e w' ⟨rfl, rfl⟩)
        go_ret
        exact ⟨rfl, hb0⟩

set_option maxRecDepth 100000 in
set_option maxHeartbeats 1600000 in
theorem l19Class_any (f0 : ByteArray) (f1 f2 f3 : Int) (p : Addr) (hs : f0.size ≤ 9223372036854775807) (w : World)
    (hc0 : w.cell? p = some (.string f0)) (hc1 : w.cell? ⟨p.block, p.off + 1, none⟩ = some (.int .i64 f1)) (hc2 : w.cell? ⟨p.block, p.off + 2, none⟩ = some (.int .i64 f2)) (hc3 : w.cell? ⟨p.block, p.off + 3, none⟩ = some (.int .i64 f3)) :
    Calls Tryz.prog 40 #[.pointer (some p)] w fun e w' => e = .returned (.bool (clOk (f0, f1, f2, f3))) ∧ Dr w w' := by
  have hn := specIsName_any f0 hs
  have i1 := l00In_any f1 0 100000
  have i2 := l00In_any f2 0 f1
  have i3 := l00In_any f3 0 1000
  cases h1 : nmB f0
  · have HV : Hid (clOk (f0, f1, f2, f3) = false) := Lib.hid (by simp [clOk, h1])
    rw [HV.out]
    rw [h1] at hn
    go_enter Tryz.func40, Tryz.ntmps40
    go_wp2_with fail
    go_quiet (first | (go_at_call 72; exact quiet_left (hn _)) | (go_at_call 51; exact quiet_left (l00In_any _ _ _ _)))
    go_wp2_with fail
    go_ret
    exact ⟨rfl, _, rfl⟩
  · rw [h1] at hn
    cases h2 : inB f1 0 100000
    · have HV : Hid (clOk (f0, f1, f2, f3) = false) := Lib.hid (by simp [clOk, h1, h2])
      rw [HV.out]
      rw [h2] at i1
      go_enter Tryz.func40, Tryz.ntmps40
      go_wp2_with fail
      go_quiet (first | (go_at_call 72; exact quiet_left (hn _)) | (go_at_call 51; with_reducible exact quiet_left (i1 _)))
      go_wp2_with fail
      go_ret
      exact ⟨rfl, _, rfl⟩
    · rw [h2] at i1
      cases h3 : inB f2 0 f1
      · have HV : Hid (clOk (f0, f1, f2, f3) = false) := Lib.hid (by simp [clOk, h1, h2, h3])
        rw [HV.out]
        rw [h3] at i2
        go_enter Tryz.func40, Tryz.ntmps40
        go_wp2_with fail
        go_quiet (first | (go_at_call 72; exact quiet_left (hn _)) | (go_at_call 51; with_reducible exact quiet_left (i1 _)) | (go_at_call 51; with_reducible exact quiet_left (i2 _)))
        go_wp2_with fail
        go_ret
        exact ⟨rfl, _, rfl⟩
      · have HV : Hid (clOk (f0, f1, f2, f3) = inB f3 0 1000) := Lib.hid (by simp [clOk, h1, h2, h3])
        rw [HV.out]
        rw [h3] at i2
        go_enter Tryz.func40, Tryz.ntmps40
        go_wp2_with fail
        go_quiet (first | (go_at_call 72; exact quiet_left (hn _)) | (go_at_call 51; with_reducible exact quiet_left (i1 _)) | (go_at_call 51; with_reducible exact quiet_left (i2 _)) | (go_at_call 51; with_reducible exact quiet_left (i3 _)))
        go_wp2_with fail
        go_ret
        exact ⟨rfl, _, rfl⟩
end Go.Proofs.YtehmghlhljocbaaGreatDoor
