/-
  HandText of both.
-/
import Derived.Test.YtofcmljnckdknaaDoorGangs
import Derived.Test.YtofcmljnckdknaaDoorDecG
import Derived.Deep.RegionHeld3
namespace Go.Proofs.YtofcmljnckdknaaDoor
open Go.ChangeShapes Go.WideShapes Go.RowKit

def htW (b : Bool) : ByteArray := if b = true then { data := #[32, 108, 97, 121, 115, 32, 115, 104, 97, 114, 101, 32] } else { data := #[32, 99, 97, 114, 114, 105, 101, 115, 32, 115, 104, 97, 114, 101, 32] }
def htS (f0 : ByteArray) (f1 : Int) (f2 : Bool) : ByteArray := if hdOk (f0, f1, f2) = true then f0 ++ htW f2 ++ decS f1 else { data := #[] }
theorem ret_string {a b : ByteArray} (h : a = b) : Ending.returned (.string a) = .returned (.string b) := by rw [h]
theorem decS_len {n : Int} (h0 : 0 ≤ n) (h1 : n ≤ 9223372036854775807) : (decS n).size ≤ 21 := by
  have := Lib.itoa_length_le n (by omega) h1
  unfold decS ByteArray.size
  simpa using this

set_option maxRecDepth 100000 in
set_option maxHeartbeats 1600000 in
theorem implHandText_any (f0 : ByteArray) (f1 : Int) (f2 : Bool) (w : World) (hs : f0.size ≤ 281474976710656) :
    Calls Tryd.prog 26 #[.agg #[.string f0, .int .i64 f1, .bool f2]] w fun e w' => e = .returned (.string (htS f0 f1 f2)) ∧ Below w.heap.size w w' := by
  have hb0 := (Below.refl w.heap.size w).alloc (Nat.le_refl _) (.cells #[.string f0, .int .i64 f1, .bool f2] 26)
  have hc := isHand_any f0 f1 f2 (by omega) (w.alloc (.cells #[.string f0, .int .i64 f1, .bool f2] 26))
  obtain ⟨FIN, hF⟩ : ∃ F, F = htS f0 f1 f2 := ⟨_, rfl⟩
  rw [← hF]
  cases hv : hdOk (f0, f1, f2)
  · have HR : Hid (FIN = { data := #[] }) := Lib.hid (by rw [hF]; unfold htS; rw [if_neg (by simp [hv])])
    rw [hv] at hc
    clear hF hv
    go_enter Tryd.func26, Tryd.ntmps26
    go_wp2_with fail
    refine hc.mono ?_
    rintro e w1 ⟨rfl, hb1⟩
    have HB := Lib.hid (hb0.trans (hb1.mono (by simp)))
    clear hb1
    go_wp2_with fail
    go_ret
    exact ⟨by rw [HR.out]; rfl, HB.out⟩
  have hr := hv
  simp only [hdOk, Bool.and_eq_true] at hr
  obtain ⟨r0, r1⟩ := inB_yes hr.2
  have HR : Hid (FIN = f0 ++ htW f2 ++ decS f1) := Lib.hid (by rw [hF]; unfold htS; rw [if_pos hv])
  have hd := fun W => decSmall_any f1 (by omega) (by omega) W
  have hdl := decS_len (n := f1) (by omega) (by omega)
  rw [hv] at hc
  have HD := Lib.hid hd
  clear hF hv hr hd
  generalize decS f1 = ds at *
  cases f2
  all_goals
    go_enter Tryd.func26, Tryd.ntmps26
    go_wp2_with fail
    refine hc.mono ?_
    rintro e w1 ⟨rfl, hb1⟩
    have q0 : w1.cell? ⟨w.heap.size, 0, none⟩ = some (.string f0) := by rw [hb1.cell (by simp)]; go_simp
    have q1 : w1.cell? ⟨w.heap.size, 1, none⟩ = some (.int .i64 f1) := by rw [hb1.cell (by simp)]; go_simp
    first
      | (have q2 : w1.cell? ⟨w.heap.size, 2, none⟩ = some (.bool true) := by rw [hb1.cell (by simp)]; go_simp)
      | (have q2 : w1.cell? ⟨w.heap.size, 2, none⟩ = some (.bool false) := by rw [hb1.cell (by simp)]; go_simp)
    have HB := Lib.hid (hb0.trans (hb1.mono (by simp)))
    clear hb1 hc
    go_wp2_with fail
    go_quiet ((go_at_call 61; exact quiet_left (HD.out _)))
    go_wp2_with fail
    go_ret
    refine ⟨ret_string ?_, below_drewN HB.out _⟩
    rw [HR.out]
    refine congrArg (· ++ ds) ?_
    refine ByteArray.append_assoc.trans ?_
    rw [ByteArray.mk_append_mk]
    rfl
set_option maxRecDepth 100000 in
set_option maxHeartbeats 1600000 in
theorem specHandText_any (f0 : ByteArray) (f1 : Int) (f2 : Bool) (w : World) (hs : f0.size ≤ 281474976710656) :
    Calls Tryd.prog 27 #[.agg #[.string f0, .int .i64 f1, .bool f2]] w fun e w' => e = .returned (.string (htS f0 f1 f2)) ∧ Below w.heap.size w w' := by
  have hb0 := (Below.refl w.heap.size w).alloc (Nat.le_refl _) (.cells #[.string f0, .int .i64 f1, .bool f2] 26)
  have hc := l23One_any f0 f1 ⟨w.heap.size, 0, none⟩ (by omega) (w.alloc (.cells #[.string f0, .int .i64 f1, .bool f2] 26)) (by go_simp) (by go_simp) f2
  obtain ⟨FIN, hF⟩ : ∃ F, F = htS f0 f1 f2 := ⟨_, rfl⟩
  rw [← hF]
  cases hv : hdOk (f0, f1, f2)
  · have HR : Hid (FIN = { data := #[] }) := Lib.hid (by rw [hF]; unfold htS; rw [if_neg (by simp [hv])])
    rw [hv] at hc
    clear hF hv
    go_enter Tryd.func27, Tryd.ntmps27
    go_wp2_with fail
    refine hc.mono ?_
    rintro e w1 ⟨rfl, rfl⟩
    go_wp2_with fail
    go_ret
    exact ⟨by rw [HR.out]; rfl, hb0⟩
  have hr := hv
  simp only [hdOk, Bool.and_eq_true] at hr
  obtain ⟨r0, r1⟩ := inB_yes hr.2
  have HR : Hid (FIN = f0 ++ htW f2 ++ decS f1) := Lib.hid (by rw [hF]; unfold htS; rw [if_pos hv])
  have hd := fun W => l01Dec_any f1 (by omega) (by omega) W
  have hdl := decS_len (n := f1) (by omega) (by omega)
  rw [hv] at hc
  have HD := Lib.hid hd
  clear hF hv hr hd
  generalize decS f1 = ds at *
  have a1 := fun W : World => run_string_add_sum (P := Tryd.prog) W f0 { data := #[32, 99, 97, 114, 114, 105, 101, 115, 32, 115, 104, 97, 114, 101, 32] } (by rw [show ByteArray.size { data := #[32, 99, 97, 114, 114, 105, 101, 115, 32, 115, 104, 97, 114, 101, 32] } = 15 from rfl]; omega)
  have a2 := fun W : World => run_string_add_sum (P := Tryd.prog) W f0 { data := #[32, 108, 97, 121, 115, 32, 115, 104, 97, 114, 101, 32] } (by rw [show ByteArray.size { data := #[32, 108, 97, 121, 115, 32, 115, 104, 97, 114, 101, 32] } = 12 from rfl]; omega)
  have a3 := fun W : World => run_string_add_sum (P := Tryd.prog) W (f0 ++ { data := #[32, 99, 97, 114, 114, 105, 101, 115, 32, 115, 104, 97, 114, 101, 32] }) ds (by rw [ByteArray.size_append, show ByteArray.size { data := #[32, 99, 97, 114, 114, 105, 101, 115, 32, 115, 104, 97, 114, 101, 32] } = 15 from rfl]; omega)
  have a4 := fun W : World => run_string_add_sum (P := Tryd.prog) W (f0 ++ { data := #[32, 108, 97, 121, 115, 32, 115, 104, 97, 114, 101, 32] }) ds (by rw [ByteArray.size_append, show ByteArray.size { data := #[32, 108, 97, 121, 115, 32, 115, 104, 97, 114, 101, 32] } = 12 from rfl]; omega)
  cases f2
  all_goals
    go_enter Tryd.func27, Tryd.ntmps27
    go_wp2_with fail
    refine hc.mono ?_
    rintro e w1 ⟨rfl, rfl⟩
    go_wp2_with fail
    go_region_held3 (fun W => W.cell? ⟨w.heap.size, 0, none⟩ = some (.string f0) ∧ W.cell? ⟨w.heap.size, 1, none⟩ = some (.int .i64 f1))
      (first | go_keep | (go_split_ands; refine ⟨?_, ?_⟩ <;> (refine (hb3.cell ?_).trans ?_; (focus (simp)); assumption)))
      ((go_at_call 62; (with_reducible refine (HD.out _).mono ?_); rintro e w3 ⟨rfl, hb3⟩))
    go_wp2_with fail
    go_ret
    refine ⟨ret_string ?_, ?_⟩
    · rw [HR.out]
      rfl
    · first | exact bthen hb0 (Nat.le_refl _) hb3 | exact bthen hb0.drew (Nat.le_refl _) hb3
end Go.Proofs.YtofcmljnckdknaaDoor
