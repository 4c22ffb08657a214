/-
  Tested bricks: ClassFault, both sides.
-/
import Derived.Test.YtehmghlhljocbaaGreatDoorTestedB
namespace Go.Proofs.YtehmghlhljocbaaGreatDoor
open Go.ChangeShapes Go.WideShapes Go.RowKit

theorem ret_si {a b : ByteArray} {m n : Int} (h : a = b) (h2 : m = n) : Ending.returned (.tuple #[.string a, .int .i64 m]) = .returned (.tuple #[.string b, .int .i64 n]) := by rw [h, h2]

set_option maxHeartbeats 1600000 in
theorem implClassFault_any (A : Option Addr) (c : Nat) (xs : List TestedD) (f0 : ByteArray) (f1 f2 f3 : Int) (w : World) (hr : Rd LTested w w.heap.size A c xs) (hok : OkClass (f0, f1, f2, f3)) :
    Calls Tryz.prog 13 #[.slice A xs.length c, .agg #[.string f0, .int .i64 f1, .int .i64 f2, .int .i64 f3]] w fun e w' => e = .returned (.tuple #[.string (cfS xs (f0, f1, f2, f3)), .int .i64 (cfC xs (f0, f1, f2, f3))]) ∧ Below w.heap.size w w' := by
  have hlen := hr.len63
  have hs : f0.size ≤ 9223372036854775807 := hok.1
  have hb0 := (Below.refl w.heap.size w).alloc (Nat.le_refl _) (.cells #[.string f0, .int .i64 f1, .int .i64 f2, .int .i64 f3] 37)
  have hcV := implValidTested_any A c xs (w.alloc (.cells #[.string f0, .int .i64 f1, .int .i64 f2, .int .i64 f3] 37)) (hr.al _)
  have k0 : (w.alloc (.cells #[.string f0, .int .i64 f1, .int .i64 f2, .int .i64 f3] 37)).cell? ⟨w.heap.size, 0, none⟩ = some (.string f0) := by go_simp
  have k1 : (w.alloc (.cells #[.string f0, .int .i64 f1, .int .i64 f2, .int .i64 f3] 37)).cell? ⟨w.heap.size, 1, none⟩ = some (.int .i64 f1) := by go_simp
  have k2 : (w.alloc (.cells #[.string f0, .int .i64 f1, .int .i64 f2, .int .i64 f3] 37)).cell? ⟨w.heap.size, 2, none⟩ = some (.int .i64 f2) := by go_simp
  have k3 : (w.alloc (.cells #[.string f0, .int .i64 f1, .int .i64 f2, .int .i64 f3] 37)).cell? ⟨w.heap.size, 3, none⟩ = some (.int .i64 f3) := by go_simp
  have hz : (w.alloc (.cells #[.string f0, .int .i64 f1, .int .i64 f2, .int .i64 f3] 37)).heap.size = w.heap.size + 1 := by simp
  cases hv : vtB xs
  · have HS : Hid (cfS xs (f0, f1, f2, f3) = { data := #[] }) := Lib.hid (by unfold cfS; rw [if_neg (by simp [hv])])
    have HC : Hid (cfC xs (f0, f1, f2, f3) = 1) := Lib.hid (by unfold cfC; rw [if_neg (by simp [hv])])
    rw [hv] at hcV
    go_enter Tryz.func13, Tryz.ntmps13
    go_wp2_with fail
    refine hcV.mono ?_
    rintro e w1 ⟨rfl, hc1⟩
    go_wp2_with fail
    go_ret2
    exact ⟨ret_si HS.out.symm HC.out.symm, bthen hb0 (Nat.le_refl _) hc1⟩
  · have Hv := Lib.hid hv
    rw [hv] at hcV
    have hkc := fun W => validClass_any f0 f1 f2 f3 hs W
    cases hk : clOk (f0, f1, f2, f3)
    · have HS : Hid (cfS xs (f0, f1, f2, f3) = { data := #[] }) := Lib.hid (by unfold cfS; rw [if_neg (by simp [hk])])
      have HC : Hid (cfC xs (f0, f1, f2, f3) = 1) := Lib.hid (by unfold cfC; rw [if_neg (by simp [hk])])
      simp only [hk] at hkc
      go_enter Tryz.func13, Tryz.ntmps13
      go_wp2_with fail
      refine hcV.mono ?_
      rintro e w1 ⟨rfl, hc1⟩
      have q0 := (hc1.cell (p := ⟨w.heap.size, 0, none⟩) (by simp)).trans k0
      have q1 := (hc1.cell (p := ⟨w.heap.size, 1, none⟩) (by simp)).trans k1
      have q2 := (hc1.cell (p := ⟨w.heap.size, 2, none⟩) (by simp)).trans k2
      have q3 := (hc1.cell (p := ⟨w.heap.size, 3, none⟩) (by simp)).trans k3
      go_wp2_with fail
      refine (hkc _).mono ?_
      rintro e w2 ⟨rfl, hc2⟩
      go_wp2_with fail
      go_ret2
      exact ⟨ret_si HS.out.symm HC.out.symm, bthen (bthen hb0 (Nat.le_refl _) hc1) (Nat.le_refl _) hc2⟩
    · have Hk := Lib.hid hk
      simp only [hk] at hkc
      by_cases hn : xs.length = 0
      · have HS : Hid (cfS xs (f0, f1, f2, f3) = { data := #[] }) := Lib.hid (by unfold cfS; rw [if_neg (by simp [hn])])
        have HC : Hid (cfC xs (f0, f1, f2, f3) = 3) := Lib.hid (by unfold cfC; rw [if_pos ⟨hv, hk⟩, if_pos hn])
        have hn0 : ((xs.length : Int) == 0) = true := by rw [beq_iff_eq]; omega
        clear hn
        go_enter Tryz.func13, Tryz.ntmps13
        go_wp2_with fail
        refine hcV.mono ?_
        rintro e w1 ⟨rfl, hc1⟩
        have q0 := (hc1.cell (p := ⟨w.heap.size, 0, none⟩) (by simp)).trans k0
        have q1 := (hc1.cell (p := ⟨w.heap.size, 1, none⟩) (by simp)).trans k1
        have q2 := (hc1.cell (p := ⟨w.heap.size, 2, none⟩) (by simp)).trans k2
        have q3 := (hc1.cell (p := ⟨w.heap.size, 3, none⟩) (by simp)).trans k3
        go_wp2_with fail
        refine (hkc _).mono ?_
        rintro e w2 ⟨rfl, hc2⟩
        go_wp2_with fail
        go_ret2
        exact ⟨ret_si HS.out.symm HC.out.symm, bthen (bthen hb0 (Nat.le_refl _) hc1) (Nat.le_refl _) hc2⟩
      · have HS : Hid (cfS xs (f0, f1, f2, f3) = cfT xs (f0, f1, f2, f3)) := Lib.hid (by unfold cfS; rw [if_pos ⟨hv, hk, hn⟩])
        have HC : Hid (cfC xs (f0, f1, f2, f3) = 0) := Lib.hid (by unfold cfC; rw [if_pos ⟨hv, hk⟩, if_neg hn])
        have hn0 : ((xs.length : Int) == 0) = false := by rw [beq_eq_false_iff_ne]; omega
        clear hn
        have hct := fun W h => classFault_any A c xs f0 f1 f2 f3 W h Hv.out Hk.out
        go_enter Tryz.func13, Tryz.ntmps13
        go_wp2_with fail
        refine hcV.mono ?_
        rintro e w1 ⟨rfl, hc1⟩
        have hb1 := bthen hb0 (Nat.le_refl _) hc1
        have q0 := (hc1.cell (p := ⟨w.heap.size, 0, none⟩) (by simp)).trans k0
        have q1 := (hc1.cell (p := ⟨w.heap.size, 1, none⟩) (by simp)).trans k1
        have q2 := (hc1.cell (p := ⟨w.heap.size, 2, none⟩) (by simp)).trans k2
        have q3 := (hc1.cell (p := ⟨w.heap.size, 3, none⟩) (by simp)).trans k3
        have hz1 := hc1.size
        go_wp2_with fail
        refine (hkc _).mono ?_
        rintro e w2 ⟨rfl, hc2⟩
        have hb2 := bthen hb1 (Nat.le_refl _) hc2
        have p0 := (hc2.cell (p := ⟨w.heap.size, 0, none⟩) (by simp; omega)).trans q0
        have p1 := (hc2.cell (p := ⟨w.heap.size, 1, none⟩) (by simp; omega)).trans q1
        have p2 := (hc2.cell (p := ⟨w.heap.size, 2, none⟩) (by simp; omega)).trans q2
        have p3 := (hc2.cell (p := ⟨w.heap.size, 3, none⟩) (by simp; omega)).trans q3
        clear q0 q1 q2 q3
        go_wp2_with fail
        refine (hct _ ((hr.below hb2).more hb2.size)).mono ?_
        rintro e w3 ⟨rfl, hc3⟩
        go_wp2_with fail
        go_ret2
        exact ⟨ret_si HS.out.symm HC.out.symm, bthen hb2 (Nat.le_refl _) hc3⟩

set_option maxHeartbeats 1600000 in
theorem specClassFault_any (A : Option Addr) (c : Nat) (xs : List TestedD) (f0 : ByteArray) (f1 f2 f3 : Int) (w : World) (hr : Rd LTested w w.heap.size A c xs) (hok : OkClass (f0, f1, f2, f3)) :
    Calls Tryz.prog 14 #[.slice A xs.length c, .agg #[.string f0, .int .i64 f1, .int .i64 f2, .int .i64 f3]] w fun e w' => e = .returned (.tuple #[.string (cfS xs (f0, f1, f2, f3)), .int .i64 (cfC xs (f0, f1, f2, f3))]) ∧ Below w.heap.size w w' := by
  have hlen := hr.len63
  have hs : f0.size ≤ 9223372036854775807 := hok.1
  have hb0 := (Below.refl w.heap.size w).alloc (Nat.le_refl _) (.cells #[.string f0, .int .i64 f1, .int .i64 f2, .int .i64 f3] 37)
  have hcV := l19Ok_any A c xs w.heap.size (w.alloc (.cells #[.string f0, .int .i64 f1, .int .i64 f2, .int .i64 f3] 37)) (hr.below hb0)
  have hcK := l19Class_any f0 f1 f2 f3 ⟨w.heap.size, 0, none⟩ hs (w.alloc (.cells #[.string f0, .int .i64 f1, .int .i64 f2, .int .i64 f3] 37)) (by go_simp) (by go_simp) (by go_simp) (by go_simp)
  cases hv : vtB xs
  · have HS : Hid (cfS xs (f0, f1, f2, f3) = { data := #[] }) := Lib.hid (by unfold cfS; rw [if_neg (by simp [hv])])
    have HC : Hid (cfC xs (f0, f1, f2, f3) = 1) := Lib.hid (by unfold cfC; rw [if_neg (by simp [hv])])
    rw [hv] at hcV
    go_enter Tryz.func14, Tryz.ntmps14
    go_wp2_with fail
    refine hcV.mono ?_
    rintro e w1 ⟨rfl, rfl⟩
    go_wp2_with fail
    go_ret2
    exact ⟨ret_si HS.out.symm HC.out.symm, hb0⟩
  · have Hv := Lib.hid hv
    rw [hv] at hcV
    cases hk : clOk (f0, f1, f2, f3)
    · have HS : Hid (cfS xs (f0, f1, f2, f3) = { data := #[] }) := Lib.hid (by unfold cfS; rw [if_neg (by simp [hk])])
      have HC : Hid (cfC xs (f0, f1, f2, f3) = 1) := Lib.hid (by unfold cfC; rw [if_neg (by simp [hk])])
      rw [hk] at hcK
      go_enter Tryz.func14, Tryz.ntmps14
      go_wp2_with fail
      refine hcV.mono ?_
      rintro e w1 ⟨rfl, rfl⟩
      go_wp2_with fail
      refine hcK.mono ?_
      rintro e w2 ⟨rfl, hd⟩
      go_wp2_with fail
      go_ret2
      exact ⟨ret_si HS.out.symm HC.out.symm, hb0.trans hd.below⟩
    · have Hk := Lib.hid hk
      rw [hk] at hcK
      by_cases hn : xs.length = 0
      · have HS : Hid (cfS xs (f0, f1, f2, f3) = { data := #[] }) := Lib.hid (by unfold cfS; rw [if_neg (by simp [hn])])
        have HC : Hid (cfC xs (f0, f1, f2, f3) = 3) := Lib.hid (by unfold cfC; rw [if_pos ⟨hv, hk⟩, if_pos hn])
        have hn0 : ((xs.length : Int) == 0) = true := by rw [beq_iff_eq]; omega
        clear hn
        go_enter Tryz.func14, Tryz.ntmps14
        go_wp2_with fail
        refine hcV.mono ?_
        rintro e w1 ⟨rfl, rfl⟩
        go_wp2_with fail
        refine hcK.mono ?_
        rintro e w2 ⟨rfl, hd⟩
        go_wp2_with fail
        go_ret2
        exact ⟨ret_si HS.out.symm HC.out.symm, hb0.trans hd.below⟩
      · have HS : Hid (cfS xs (f0, f1, f2, f3) = cfT xs (f0, f1, f2, f3)) := Lib.hid (by unfold cfS; rw [if_pos ⟨hv, hk, hn⟩])
        have HC : Hid (cfC xs (f0, f1, f2, f3) = 0) := Lib.hid (by unfold cfC; rw [if_pos ⟨hv, hk⟩, if_neg hn])
        have hn0 : ((xs.length : Int) == 0) = false := by rw [beq_eq_false_iff_ne]; omega
        clear hn
        go_enter Tryz.func14, Tryz.ntmps14
        go_wp2_with fail
        refine hcV.mono ?_
        rintro e w1 ⟨rfl, rfl⟩
        go_wp2_with fail
        refine hcK.mono ?_
        rintro e w2 ⟨rfl, hd⟩
        have hcF := l19Fault_any A c xs f0 f1 f2 f3 ⟨w.heap.size, 0, none⟩ w.heap.size w2 ((hr.below hb0).below hd.below) Hv.out Hk.out
          (by obtain ⟨n, rfl⟩ := hd; go_simp) (by obtain ⟨n, rfl⟩ := hd; go_simp) (by obtain ⟨n, rfl⟩ := hd; go_simp)
        go_wp2_with fail
        refine hcF.mono ?_
        rintro e w3 ⟨rfl, hd2⟩
        go_wp2_with fail
        go_ret2
        exact ⟨ret_si HS.out.symm HC.out.symm, (hb0.trans hd.below).trans hd2.below⟩
end Go.Proofs.YtehmghlhljocbaaGreatDoor
