/-
  Gangs: CarriersFor, DaysFor.
-/
import Derived.Test.YtofcmljnckdknaaGangsB
namespace Go.Proofs.Ytofcmljnckdknaa
open Go.ChangeShapes Go.WideShapes Go.RowKit

theorem wrapI {n : Int} (h0 : -9223372036854775808 ≤ n) (h1 : n ≤ 9223372036854775807) : IntKind.i64.wrap n = n := by
  rw [show IntKind.i64.wrap n = (n + 9223372036854775808) % 18446744073709551616 - 9223372036854775808 by simp [IntKind.wrap, IntKind.bits, IntKind.signed]; try omega]
  omega
def lyN (xs : List HandD) : Int := (layT xs true xs.length).length
theorem lyN_bd {xs : List HandD} (h : gangB xs = true) : 0 ≤ lyN xs ∧ lyN xs ≤ 20 := by
  have := layT_len xs true xs.length
  have := gang_len h
  unfold lyN
  omega
def cfP (xs : List HandD) (each : Int) : Int × Int := if gangB xs = true then (if inB each 1 10 = true then ((lyN xs + each - 1) / each, 0) else (0, 2)) else (0, 1)
def dfP (xs : List HandD) (bricks each : Int) : Int × Int := if gangB xs = true then (if inB bricks 0 1000000 = true ∧ inB each 1 2000 = true then (if lyN xs = 0 then (0, 6) else ((bricks + lyN xs * each - 1) / (lyN xs * each), 0)) else (0, 2)) else (0, 1)


theorem isOrder_any (n : Int) (w : World) : Calls Try.prog 72 #[.int .i64 n] w fun e w' => e = .returned (.bool (inB n 0 1000000)) ∧ w = w' := by
  go_enter Try.func72, Try.ntmps72
  go_wp2_with (go_at_call 44; refine (within_any _ _ _ _).mono ?_; rintro e w' ⟨rfl, rfl⟩)
  go_ret
  exact ⟨rfl, rfl⟩
theorem prod_bd {n each : Int} (h0 : 1 ≤ n) (h1 : n ≤ 20) (h2 : 1 ≤ each) (h3 : each ≤ 2000) : 1 ≤ n * each ∧ n * each ≤ 40000 := by
  have a : n * each ≤ 20 * 2000 := Int.mul_le_mul h1 h3 (by omega) (by omega)
  have b : 1 * 1 ≤ n * each := Int.mul_le_mul h0 h2 (by omega) (by omega)
  omega

set_option maxHeartbeats 1600000 in
theorem implDaysFor_any (A : Option Addr) (c : Nat) (xs : List HandD) (bricks each : Int) (w : World) (hr : Rd LHand w w.heap.size A c xs) (hok : ∀ n ∈ xs, OkHand n) :
    Calls Try.prog 32 #[.slice A xs.length c, .int .i64 bricks, .int .i64 each] w fun e w' => e = .returned (.tuple #[.int .i64 (dfP xs bricks each).1, .int .i64 (dfP xs bricks each).2]) ∧ Below w.heap.size w w' := by
  have hlen := hr.len63
  have hcg := implValidGang_any A c xs w hr hok
  cases hv : gangB xs
  · have HP : Hid (dfP xs bricks each = (0, 1)) := Lib.hid (by simp [dfP, hv])
    rw [HP.out]
    rw [hv] at hcg
    go_enter Try.func32, Try.ntmps32
    go_wp2_with fail
    refine hcg.mono ?_
    rintro e w1 ⟨rfl, hb1⟩
    go_wp2_with fail
    go_ret2
    exact ⟨rfl, hb1⟩
  · rw [hv] at hcg
    obtain ⟨hn0, hn1⟩ := lyN_bd hv
    have hl := gang_len hv
    cases hi : inB bricks 0 1000000
    · have HP : Hid (dfP xs bricks each = (0, 2)) := Lib.hid (by simp [dfP, hv, hi])
      rw [HP.out]
      have hio := fun W => isOrder_any bricks W
      simp only [hi] at hio
      go_enter Try.func32, Try.ntmps32
      go_wp2_with fail
      refine hcg.mono ?_
      rintro e w1 ⟨rfl, hb1⟩
      go_wp2_with (go_at_call 72; refine (hio _).mono ?_; rintro e w' ⟨rfl, rfl⟩)
      go_ret2
      exact ⟨rfl, hb1⟩
    · have hio := fun W => isOrder_any bricks W
      simp only [hi] at hio
      obtain ⟨g1, g2⟩ := inB_yes hi
      cases hj : inB each 1 2000
      · have HP : Hid (dfP xs bricks each = (0, 2)) := Lib.hid (by simp [dfP, hv, hi, hj])
        rw [HP.out]
        go_enter Try.func32, Try.ntmps32
        go_wp2_with fail
        refine hcg.mono ?_
        rintro e w1 ⟨rfl, hb1⟩
        go_wp2_with (first | (go_at_call 72; refine (hio _).mono ?_; rintro e w' ⟨rfl, rfl⟩) | (go_at_call 44; refine (within_any _ _ _ _).mono ?_; rintro e w' ⟨rfl, rfl⟩))
        go_ret2
        exact ⟨rfl, hb1⟩
      · obtain ⟨h1, h2⟩ := inB_yes hj
        by_cases hz : lyN xs = 0
        · have HP : Hid (dfP xs bricks each = (0, 6)) := Lib.hid (by simp [dfP, hv, hi, hj, hz])
          rw [HP.out]
          unfold lyN at hz
          have hz0 : (((layT xs true xs.length).length : Int) == 0) = true := by rw [beq_iff_eq]; omega
          clear hz
          go_enter Try.func32, Try.ntmps32
          go_wp2_with fail
          refine hcg.mono ?_
          rintro e w1 ⟨rfl, hb1⟩
          go_wp2_with (first | (go_at_call 72; refine (hio _).mono ?_; rintro e w' ⟨rfl, rfl⟩) | (go_at_call 44; refine (within_any _ _ _ _).mono ?_; rintro e w' ⟨rfl, rfl⟩))
          refine (layersOf_any A c xs _ _ (Nat.le_refl _) ((hr.below hb1).more hb1.size) hl).mono ?_
          rintro e w2 ⟨A1, c1, A2, c2, rfl, ho1, ho2, hap, hb2⟩
          go_wp2_with fail
          go_ret2
          exact ⟨rfl, bthen hb1 (Nat.le_refl _) hb2⟩
        · have HP : Hid (dfP xs bricks each = ((bricks + lyN xs * each - 1) / (lyN xs * each), 0)) := Lib.hid (by simp [dfP, hv, hi, hj, hz])
          rw [HP.out]
          obtain ⟨p1, p2⟩ := prod_bd (n := lyN xs) (by omega) hn1 h1 h2
          have hwr : IntKind.i64.wrap (lyN xs * each) = lyN xs * each := wrapI (by omega) (by omega)
          have hru := fun W => roundedUp_any bricks (lyN xs * each) W g1 (by omega) p1 (by omega)
          unfold lyN at hz p1 p2 hwr hru
          have hz0 : (((layT xs true xs.length).length : Int) == 0) = false := by rw [beq_eq_false_iff_ne]; omega
          clear hz
          go_enter Try.func32, Try.ntmps32
          go_wp2_with fail
          refine hcg.mono ?_
          rintro e w1 ⟨rfl, hb1⟩
          go_wp2_with (first | (go_at_call 72; refine (hio _).mono ?_; rintro e w' ⟨rfl, rfl⟩) | (go_at_call 44; refine (within_any _ _ _ _).mono ?_; rintro e w' ⟨rfl, rfl⟩))
          refine (layersOf_any A c xs _ _ (Nat.le_refl _) ((hr.below hb1).more hb1.size) hl).mono ?_
          rintro e w2 ⟨A1, c1, A2, c2, rfl, ho1, ho2, hap, hb2⟩
          go_wp2_with fail
          refine (hru _).mono ?_
          rintro e w3 ⟨rfl, rfl⟩
          go_wp2_with fail
          go_ret2
          exact ⟨rfl, bthen hb1 (Nat.le_refl _) hb2⟩
set_option maxHeartbeats 1600000 in
theorem specDaysFor_any (A : Option Addr) (c : Nat) (xs : List HandD) (bricks each : Int) (w : World) (hr : Rd LHand w w.heap.size A c xs) (hok : ∀ n ∈ xs, OkHand n) :
    Calls Try.prog 33 #[.slice A xs.length c, .int .i64 bricks, .int .i64 each] w fun e w' => e = .returned (.tuple #[.int .i64 (dfP xs bricks each).1, .int .i64 (dfP xs bricks each).2]) ∧ Below w.heap.size w w' := by
  have hlen := hr.len63
  have hcg := l23Ok_any A c xs _ w hr hok
  cases hv : gangB xs
  · have HP : Hid (dfP xs bricks each = (0, 1)) := Lib.hid (by simp [dfP, hv])
    rw [HP.out]
    rw [hv] at hcg
    go_enter Try.func33, Try.ntmps33
    go_wp2_with fail
    refine hcg.mono ?_
    rintro e w1 ⟨rfl, hd⟩
    go_wp2_with fail
    go_ret2
    exact ⟨rfl, hd.below⟩
  · rw [hv] at hcg
    obtain ⟨hn0, hn1⟩ := lyN_bd hv
    have hl := gang_len hv
    cases hi : inB bricks 0 1000000
    · have HP : Hid (dfP xs bricks each = (0, 2)) := Lib.hid (by simp [dfP, hv, hi])
      rw [HP.out]
      go_enter Try.func33, Try.ntmps33
      go_wp2_with fail
      refine hcg.mono ?_
      rintro e w1 ⟨rfl, hd⟩
      go_wp2_with (go_at_call 39; refine (l00In_any _ _ _ _).mono ?_; rintro e w' ⟨rfl, rfl⟩)
      go_ret2
      exact ⟨rfl, hd.below⟩
    · obtain ⟨g1, g2⟩ := inB_yes hi
      cases hj : inB each 1 2000
      · have HP : Hid (dfP xs bricks each = (0, 2)) := Lib.hid (by simp [dfP, hv, hi, hj])
        rw [HP.out]
        go_enter Try.func33, Try.ntmps33
        go_wp2_with fail
        refine hcg.mono ?_
        rintro e w1 ⟨rfl, hd⟩
        go_wp2_with (go_at_call 39; refine (l00In_any _ _ _ _).mono ?_; rintro e w' ⟨rfl, rfl⟩)
        go_ret2
        exact ⟨rfl, hd.below⟩
      · obtain ⟨h1, h2⟩ := inB_yes hj
        by_cases hz : lyN xs = 0
        · have HP : Hid (dfP xs bricks each = (0, 6)) := Lib.hid (by simp [dfP, hv, hi, hj, hz])
          rw [HP.out]
          unfold lyN at hz
          have hz0 : (((layT xs true xs.length).length : Int) == 0) = true := by rw [beq_iff_eq]; omega
          clear hz
          go_enter Try.func33, Try.ntmps33
          go_wp2_with fail
          refine hcg.mono ?_
          rintro e w1 ⟨rfl, hd⟩
          have hb1 : Below w.heap.size w w1 := hd.below
          go_wp2_with (go_at_call 39; refine (l00In_any _ _ _ _).mono ?_; rintro e w' ⟨rfl, rfl⟩)
          refine (l23Layers_any A c xs true _ _ (Nat.le_refl _) ((hr.below hb1).more hb1.size) hl).mono ?_
          rintro e w2 ⟨A1, c1, rfl, ho1, hb2⟩
          go_wp2_with fail
          go_ret2
          exact ⟨rfl, bthen hb1 (Nat.le_refl _) hb2⟩
        · have HP : Hid (dfP xs bricks each = ((bricks + lyN xs * each - 1) / (lyN xs * each), 0)) := Lib.hid (by simp [dfP, hv, hi, hj, hz])
          rw [HP.out]
          obtain ⟨p1, p2⟩ := prod_bd (n := lyN xs) (by omega) hn1 h1 h2
          have hwr : IntKind.i64.wrap (lyN xs * each) = lyN xs * each := wrapI (by omega) (by omega)
          have hq : (lyN xs * each == 0) = false := by rw [beq_eq_false_iff_ne]; omega
          unfold lyN at hz p1 p2 hwr hq
          have hz0 : (((layT xs true xs.length).length : Int) == 0) = false := by rw [beq_eq_false_iff_ne]; omega
          clear hz
          go_enter Try.func33, Try.ntmps33
          go_wp2_with fail
          refine hcg.mono ?_
          rintro e w1 ⟨rfl, hd⟩
          have hb1 : Below w.heap.size w w1 := hd.below
          go_wp2_with (go_at_call 39; refine (l00In_any _ _ _ _).mono ?_; rintro e w' ⟨rfl, rfl⟩)
          refine (l23Layers_any A c xs true _ _ (Nat.le_refl _) ((hr.below hb1).more hb1.size) hl).mono ?_
          rintro e w2 ⟨A1, c1, rfl, ho1, hb2⟩
          go_wp2_with fail
          go_ret2
          exact ⟨rfl, bthen hb1 (Nat.le_refl _) hb2⟩
end Go.Proofs.Ytofcmljnckdknaa
