/-
  The greatest common divisor and a fraction in lowest terms, both sides.
-/
import Derived.Test.YtehmghlhljocbaaGreatDoorNum
import Derived.Test.YtehmghlhljocbaaGreatDoorSteps
import Derived.RegionTactic
import Derived.Deep.QuietTactic
import Derived.BigQuiet
namespace Go.Proofs.YtehmghlhljocbaaGreatDoor
open Go.ChangeShapes Go.WideShapes Go.RowKit

theorem gcd_step {x y : Nat} : Nat.gcd x y = Nat.gcd y (x % y) := by rw [Nat.gcd_comm x y, Nat.gcd_rec, Nat.gcd_comm]
theorem gcd_any (a b : Nat) (w : World) (ha : a ≤ 4611686018427387904) (hb : b ≤ 4611686018427387904) :
    Calls Tryz.prog 73 #[.int .i64 a, .int .i64 b] w fun e w' => e = .returned (.int .i64 (Nat.gcd a b : Nat)) ∧ Dr w w' := by
  go_enter Tryz.func73, Tryz.ntmps73
  go_wp2_with fail
  go_loopw [0, 1] (fun i j wr => ∃ x y : Nat, i = .int .i64 x ∧ j = .int .i64 y ∧ Hid (Nat.gcd a b = Nat.gcd x y) ∧ x ≤ 4611686018427387904 ∧ y ≤ 4611686018427387904 ∧ Dr w wr) (fun _ j _ => (intOf j).toNat)
  case atStart => exact ⟨a, b, rfl, rfl, Lib.hid rfl, ha, hb, Dr.refl _⟩
  case round =>
    obtain ⟨x, y, rfl, rfl, HG, hx, hy, hdr⟩ := hrel
    by_cases hy0 : 0 < y
    · have hne : ((y : Int) != 0) = true := by simp; omega
      have HS := Lib.hid (gcd_step (x := x) (y := y))
      have hm : x % y < y := Nat.mod_lt _ hy0
      go_wp2_with fail
      go_quiet (fail)
      go_wp2_with fail
      go_roundw
      case rel => exact ⟨y, x % y, rfl, by go_num, Lib.hid (by rw [HG.out, HS.out]), hy, by omega, hdr.step _⟩
      case measure => simp [intOf]; omega
    · obtain rfl : y = 0 := by omega
      have HE : Hid (Nat.gcd a b = x) := Lib.hid (by rw [HG.out, Nat.gcd_zero_right])
      have hmx : (-(x : Int)) ≤ x := by omega
      go_wp2_with fail
      go_ret
      exact ⟨ret_int (by rw [HE.out]), hdr⟩
theorem l02Gcd_any (a b : Nat) (w : World) (ha : a ≤ 4611686018427387904) (hb : b ≤ 4611686018427387904) :
    Calls Tryz.prog 74 #[.int .i64 a, .int .i64 b] w fun e w' => e = .returned (.int .i64 (Nat.gcd a b : Nat)) ∧ w = w' := by
  go_enter Tryz.func74, Tryz.ntmps74
  go_wp2_with fail
  go_loop [0, 1, 5] (fun i j _ => ∃ x y : Nat, i = .int .i64 x ∧ j = .int .i64 y ∧ Hid (Nat.gcd a b = Nat.gcd x y) ∧ x ≤ 4611686018427387904 ∧ y ≤ 4611686018427387904) (fun _ j _ => (intOf j).toNat)
  case atStart => exact ⟨a, b, rfl, rfl, Lib.hid rfl, ha, hb⟩
  case round =>
    obtain ⟨x, y, rfl, rfl, HG, hx, hy⟩ := hrel
    by_cases hy0 : 0 < y
    · have hne : ((y : Int) != 0) = true := by simp; omega
      have HS := Lib.hid (gcd_step (x := x) (y := y))
      have hm : x % y < y := Nat.mod_lt _ hy0
      go_wp2_with fail
      go_round
      case rel => exact ⟨y, x % y, rfl, by go_num, Lib.hid (by rw [HG.out, HS.out]), hy, by omega⟩
      case measure => simp [intOf]; omega
    · obtain rfl : y = 0 := by omega
      have HE : Hid (Nat.gcd a b = x) := Lib.hid (by rw [HG.out, Nat.gcd_zero_right])
      go_wp2_with fail
      go_ret
      exact ⟨ret_int (by rw [HE.out]), rfl⟩
theorem l02Size_any (a : Nat) (w : World) : Calls Tryz.prog 75 #[.int .i64 a] w fun e w' => e = .returned (.int .i64 a) ∧ w = w' := by
  have h : (0 : Int) ≤ a := by omega
  go_enter Tryz.func75, Tryz.ntmps75
  go_wp2_with fail
  go_ret
  exact ⟨rfl, rfl⟩
theorem quo_wrap (a g : Nat) (h : a ≤ 4611686018427387904) : wrap64 ((a : Int) / (g : Int)) = (a : Int) / (g : Int) := by
  have h1 : a / g ≤ a := Nat.div_le_self a g
  have h2 : (a : Int) / (g : Int) = ((a / g : Nat) : Int) := by simp
  rw [h2]
  generalize a / g = q at *
  exact IntWalk.wrap64_in _ ⟨by omega, by omega⟩
theorem gcd_pos {a b : Nat} (hb : 0 < b) : 0 < Nat.gcd a b := Nat.gcd_pos_of_pos_right a hb
set_option maxHeartbeats 800000 in
theorem lowest_any (a b : Nat) (w : World) (ha : a ≤ 4611686018427387904) (hb : b ≤ 4611686018427387904) (hb0 : 0 < b) :
    Calls Tryz.prog 43 #[.int .i64 a, .int .i64 b] w fun e w' => e = .returned (.agg #[.int .i64 ((a / Nat.gcd a b : Nat) : Int), .int .i64 ((b / Nat.gcd a b : Nat) : Int)]) ∧ Below w.heap.size w w' := by
  have hcc := fun W => gcd_any a b W ha hb
  have hg := gcd_pos (a := a) hb0
  have hg2 : Nat.gcd a b ≤ b := Nat.gcd_le_right a hb0
  have hb1 : (0 : Int) ≤ b := by omega
  generalize Nat.gcd a b = g at *
  have hg1 : (1 : Int) ≤ g := by omega
  have hgz : ((g : Int) == 0) = false := by simp; omega
  have hwa := Lib.hid (quo_wrap a g ha)
  have hwb := Lib.hid (quo_wrap b g hb)
  go_enter Tryz.func43, Tryz.ntmps43
  go_wp2_with fail
  refine (hcc _).mono ?_
  rintro e w1 ⟨rfl, hdr⟩
  obtain ⟨n, rfl⟩ := hdr
  go_wp2_with fail
  go_region
  all_goals
    go_wp2_with fail
    refine bodyPost_ret (v := .agg #[.int .i64 ((a / g : Nat) : Int), .int .i64 ((b / g : Nat) : Int)]) (by simp [results, Tryz.results43, go_sem]; exact ⟨hwa.out, hwb.out⟩) rfl ⟨rfl, ?_⟩
    repeat' (first | exact (Below.refl _ w).alloc (Nat.le_refl _) _ | (refine Below.setCell ?_ ?_ _) | (refine below_drewN ?_ _) | (simp; done) | (simp; omega))
set_option maxHeartbeats 800000 in
theorem l02Make_any (a b : Nat) (w : World) (ha : a ≤ 4611686018427387904) (hb : b ≤ 4611686018427387904) (hb0 : 0 < b) :
    Calls Tryz.prog 46 #[.int .i64 a, .int .i64 b] w fun e w' => e = .returned (.agg #[.int .i64 ((a / Nat.gcd a b : Nat) : Int), .int .i64 ((b / Nat.gcd a b : Nat) : Int)]) ∧ Below w.heap.size w w' := by
  have hcc := fun W => l02Gcd_any a b W ha hb
  have hg := gcd_pos (a := a) hb0
  have hg2 : Nat.gcd a b ≤ b := Nat.gcd_le_right a hb0
  have hb1 : (0 : Int) ≤ b := by omega
  generalize Nat.gcd a b = g at *
  have hg1 : (1 : Int) ≤ g := by omega
  have hgz : ((g : Int) == 0) = false := by simp; omega
  have hwa := Lib.hid (quo_wrap a g ha)
  have hwb := Lib.hid (quo_wrap b g hb)
  go_enter Tryz.func46, Tryz.ntmps46
  go_wp2_with fail
  refine (l02Size_any a _).mono ?_
  rintro e w1 ⟨rfl, rfl⟩
  go_wp2_with fail
  refine (hcc _).mono ?_
  rintro e w1 ⟨rfl, rfl⟩
  go_wp2_with fail
  go_region
  all_goals
    go_wp2_with fail
    refine bodyPost_ret (v := .agg #[.int .i64 ((a / g : Nat) : Int), .int .i64 ((b / g : Nat) : Int)]) (by simp [results, Tryz.results46, go_sem]; exact ⟨hwa.out, hwb.out⟩) rfl ⟨rfl, ?_⟩
    repeat' (first | exact (Below.refl _ w).alloc (Nat.le_refl _) _ | (refine Below.setCell ?_ ?_ _) | (refine below_drewN ?_ _) | (simp; done) | (simp; omega))
end Go.Proofs.YtehmghlhljocbaaGreatDoor
