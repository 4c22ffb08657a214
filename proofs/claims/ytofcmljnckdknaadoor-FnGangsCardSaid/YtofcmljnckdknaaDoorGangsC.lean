/-
  Gangs: CarriersFor, DaysFor.
-/
import Derived.Test.YtofcmljnckdknaaDoorGangsB
namespace Go.Proofs.YtofcmljnckdknaaDoor
open Go.ChangeShapes Go.WideShapes Go.RowKit

theorem wrapI {n : Int} (h0 : -9223372036854775808 ≤ n) (h1 : n ≤ 9223372036854775807) : IntKind.i64.wrap n = n := by
  rw [show IntKind.i64.wrap n = (n + 9223372036854775808) % 18446744073709551616 - 9223372036854775808 by simp [IntKind.wrap, IntKind.bits, IntKind.signed]; try omega]
  omega
def lyN (xs : List HandD) : Int := (layT xs true xs.length).length
theorem lyN_bd {xs : List HandD} (h : gangB xs = true) : 0 ≤ lyN xs ∧ lyN xs ≤ 20 := by
  have := layT_len xs true xs.length
  have := gang_len h
  unfold lyN
  omega
def cfP (xs : List HandD) (each : Int) : Int × Int := if gangB xs = true then (if inB each 1 10 = true then ((lyN xs + each - 1) / each, 0) else (0, 2)) else (0, 1)
def dfP (xs : List HandD) (bricks each : Int) : Int × Int := if gangB xs = true then (if inB bricks 0 1000000 = true ∧ inB each 1 2000 = true then (if lyN xs = 0 then (0, 6) else ((bricks + lyN xs * each - 1) / (lyN xs * each), 0)) else (0, 2)) else (0, 1)

set_option maxHeartbeats 800000 in
theorem implCarriersFor_any (A : Option Addr) (c : Nat) (xs : List HandD) (each : Int) (w : World) (hr : Rd LHand w w.heap.size A c xs) (hok : ∀ n ∈ xs, OkHand n) :
    Calls Tryd.prog 19 #[.slice A xs.length c, .int .i64 each] w fun e w' => e = .returned (.tuple #[.int .i64 (cfP xs each).1, .int .i64 (cfP xs each).2]) ∧ Below w.heap.size w w' := by
  have hlen := hr.len63
  have hcg := implValidGang_any A c xs w hr hok
  cases hv : gangB xs
  · have HP : Hid (cfP xs each = (0, 1)) := Lib.hid (by simp [cfP, hv])
    rw [HP.out]
    rw [hv] at hcg
    go_enter Tryd.func19, Tryd.ntmps19
    go_wp2_with fail
    refine hcg.mono ?_
    rintro e w1 ⟨rfl, hb1⟩
    go_wp2_with fail
    go_ret2
    exact ⟨rfl, hb1⟩
  · rw [hv] at hcg
    obtain ⟨hn0, hn1⟩ := lyN_bd hv
    have hl := gang_len hv
    cases hi : inB each 1 10
    · have HP : Hid (cfP xs each = (0, 2)) := Lib.hid (by simp [cfP, hv, hi])
      rw [HP.out]
      go_enter Tryd.func19, Tryd.ntmps19
      go_wp2_with fail
      refine hcg.mono ?_
      rintro e w1 ⟨rfl, hb1⟩
      go_wp2_with (go_at_call 52; refine (within_any _ _ _ _).mono ?_; rintro e w' ⟨rfl, rfl⟩)
      go_ret2
      exact ⟨rfl, hb1⟩
    · have HP : Hid (cfP xs each = ((lyN xs + each - 1) / each, 0)) := Lib.hid (by simp [cfP, hv, hi])
      rw [HP.out]
      obtain ⟨h1, h2⟩ := inB_yes hi
      go_enter Tryd.func19, Tryd.ntmps19
      go_wp2_with fail
      refine hcg.mono ?_
      rintro e w1 ⟨rfl, hb1⟩
      go_wp2_with (go_at_call 52; refine (within_any _ _ _ _).mono ?_; rintro e w' ⟨rfl, rfl⟩)
      refine (layersOf_any A c xs _ _ (Nat.le_refl _) ((hr.below hb1).more hb1.size) hl).mono ?_
      rintro e w2 ⟨A1, c1, A2, c2, rfl, ho1, ho2, hap, hb2⟩
      have hru := roundedUp_any (lyN xs) each w2 hn0 (by omega) h1 (by omega)
      unfold lyN at hru hn0 hn1
      go_wp2_with fail
      refine hru.mono ?_
      rintro e w3 ⟨rfl, rfl⟩
      go_wp2_with fail
      go_ret2
      exact ⟨rfl, bthen hb1 (Nat.le_refl _) hb2⟩

set_option maxHeartbeats 800000 in
theorem specCarriersFor_any (A : Option Addr) (c : Nat) (xs : List HandD) (each : Int) (w : World) (hr : Rd LHand w w.heap.size A c xs) (hok : ∀ n ∈ xs, OkHand n) :
    Calls Tryd.prog 20 #[.slice A xs.length c, .int .i64 each] w fun e w' => e = .returned (.tuple #[.int .i64 (cfP xs each).1, .int .i64 (cfP xs each).2]) ∧ Below w.heap.size w w' := by
  have hlen := hr.len63
  have hcg := l23Ok_any A c xs _ w hr hok
  cases hv : gangB xs
  · have HP : Hid (cfP xs each = (0, 1)) := Lib.hid (by simp [cfP, hv])
    rw [HP.out]
    rw [hv] at hcg
    go_enter Tryd.func20, Tryd.ntmps20
    go_wp2_with fail
    refine hcg.mono ?_
    rintro e w1 ⟨rfl, hd⟩
    go_wp2_with fail
    go_ret2
    exact ⟨rfl, hd.below⟩
  · rw [hv] at hcg
    obtain ⟨hn0, hn1⟩ := lyN_bd hv
    have hl := gang_len hv
    cases hi : inB each 1 10
    · have HP : Hid (cfP xs each = (0, 2)) := Lib.hid (by simp [cfP, hv, hi])
      rw [HP.out]
      go_enter Tryd.func20, Tryd.ntmps20
      go_wp2_with fail
      refine hcg.mono ?_
      rintro e w1 ⟨rfl, hd⟩
      go_wp2_with (go_at_call 54; refine (l00In_any _ _ _ _).mono ?_; rintro e w' ⟨rfl, rfl⟩)
      go_ret2
      exact ⟨rfl, hd.below⟩
    · have HP : Hid (cfP xs each = ((lyN xs + each - 1) / each, 0)) := Lib.hid (by simp [cfP, hv, hi])
      rw [HP.out]
      obtain ⟨h1, h2⟩ := inB_yes hi
      have hz : (each == 0) = false := by simp; omega
      go_enter Tryd.func20, Tryd.ntmps20
      go_wp2_with fail
      refine hcg.mono ?_
      rintro e w1 ⟨rfl, hd⟩
      have hb1 : Below w.heap.size w w1 := hd.below
      go_wp2_with (go_at_call 54; refine (l00In_any _ _ _ _).mono ?_; rintro e w' ⟨rfl, rfl⟩)
      refine (l23Layers_any A c xs true _ _ (Nat.le_refl _) ((hr.below hb1).more hb1.size) hl).mono ?_
      rintro e w2 ⟨A1, c1, rfl, ho1, hb2⟩
      unfold lyN at hn0 hn1
      go_wp2_with fail
      go_ret2
      exact ⟨rfl, bthen hb1 (Nat.le_refl _) hb2⟩



end Go.Proofs.YtofcmljnckdknaaDoor
