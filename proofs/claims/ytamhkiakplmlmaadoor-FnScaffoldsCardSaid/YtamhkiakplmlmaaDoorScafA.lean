/-
  Scaffolds: PolesOf, LengthOfBays, TierFor, BayAt.
-/
import Derived.Test.YtamhkiakplmlmaaDoorScaf
import Derived.Deep.QuietTactic
import Derived.BigQuiet
namespace Go.Proofs.YtamhkiakplmlmaaDoor
open Go.ChangeShapes Go.WideShapes Go.RowKit

theorem ret_iii {k k' k'' : IntKind} {a b c a' b' c' : Int} (h : a = a') (h' : b = b') (h'' : c = c') : Ending.returned (.tuple #[.int k a, .int k' b, .int k'' c]) = .returned (.tuple #[.int k a', .int k' b', .int k'' c']) := by rw [h, h', h'']



def tfHit (t : List Int) (h r : Int) (k : Nat) : Bool := inB h (sm (t.take (k + 1))) (sm (t.take (k + 1)) + r)
def tfP (b t : List Int) (n h r : Int) : Int × Int := if vsB b t n = true then (if inB h 0 40000 = true ∧ inB r 0 2500 = true then (match findN (tfHit t h r) t.length with | some k => ((k : Int), 0) | none => (0, 3)) else (0, 2)) else (0, 1)
set_option maxHeartbeats 800000 in
theorem implTierFor_any (A0b : Option Addr) (c0b : Nat) (x0b : List Int) (A0t : Option Addr) (c0t : Nat) (x0t : List Int) (n0 : Int) (h r : Int) (w : World) (hb : Rd LI w w.heap.size A0b c0b x0b) (ht : Rd LI w w.heap.size A0t c0t x0t) :
    Calls Tryd.prog 14 #[.agg #[.slice A0b x0b.length c0b, .slice A0t x0t.length c0t, .int .i64 n0], .int .i64 h, .int .i64 r] w fun e w' => e = .returned (.tuple #[.int .i64 (tfP x0b x0t n0 h r).1, .int .i64 (tfP x0b x0t n0 h r).2]) ∧ Below w.heap.size w w' := by
  cases hv : vsB x0b x0t n0
  · have HP : Hid (tfP x0b x0t n0 h r = (0, 1)) := Lib.hid (by simp [tfP, hv])
    rw [HP.out]
    have hc := implValidScaffold_any A0b c0b x0b A0t c0t x0t n0 (w.alloc (.cells #[.slice A0b x0b.length c0b, .slice A0t x0t.length c0t, .int .i64 n0] 26)) (hb.al _) (ht.al _)
    rw [hv] at hc
    have hl1 := hb.len63
    have hl2 := ht.len63
    go_enter Tryd.func14, Tryd.ntmps14
    go_wp2_with fail
    refine hc.mono ?_
    rintro e w1 ⟨rfl, hb1⟩
    have hbw : Below w.heap.size w w1 := ((Below.refl _ w).alloc (Nat.le_refl _) _).trans (hb1.mono (by simp))
    have hs1 := hb1.size
    simp at hs1
    have q0 : w1.cell? ⟨w.heap.size, 0, none⟩ = some (.slice A0b x0b.length c0b) := by rw [hb1.cell (by simp)]; go_simp
    have q1 : w1.cell? ⟨w.heap.size, 1, none⟩ = some (.slice A0t x0t.length c0t) := by rw [hb1.cell (by simp)]; go_simp
    have q2 : w1.cell? ⟨w.heap.size, 2, none⟩ = some (.int .i64 n0) := by rw [hb1.cell (by simp)]; go_simp
    have hbr := (hb.below hbw).more hbw.size
    have htr := (ht.below hbw).more hbw.size
    clear hc
    go_wp2_with fail
    go_ret2
    exact ⟨rfl, hbw⟩
  · cases hh : inB h 0 40000
    · have HP : Hid (tfP x0b x0t n0 h r = (0, 2)) := Lib.hid (by simp [tfP, hv, hh])
      rw [HP.out]
      have hc := implValidScaffold_any A0b c0b x0b A0t c0t x0t n0 (w.alloc (.cells #[.slice A0b x0b.length c0b, .slice A0t x0t.length c0t, .int .i64 n0] 26)) (hb.al _) (ht.al _)
      rw [hv] at hc
      have hl1 := hb.len63
      have hl2 := ht.len63
      go_enter Tryd.func14, Tryd.ntmps14
      go_wp2_with fail
      refine hc.mono ?_
      rintro e w1 ⟨rfl, hb1⟩
      have hbw : Below w.heap.size w w1 := ((Below.refl _ w).alloc (Nat.le_refl _) _).trans (hb1.mono (by simp))
      have hs1 := hb1.size
      simp at hs1
      have q0 : w1.cell? ⟨w.heap.size, 0, none⟩ = some (.slice A0b x0b.length c0b) := by rw [hb1.cell (by simp)]; go_simp
      have q1 : w1.cell? ⟨w.heap.size, 1, none⟩ = some (.slice A0t x0t.length c0t) := by rw [hb1.cell (by simp)]; go_simp
      have q2 : w1.cell? ⟨w.heap.size, 2, none⟩ = some (.int .i64 n0) := by rw [hb1.cell (by simp)]; go_simp
      have hbr := (hb.below hbw).more hbw.size
      have htr := (ht.below hbw).more hbw.size
      clear hc
      go_wp2_with fail
      refine (within_any _ _ _ _).mono ?_
      rintro e w2 ⟨rfl, rfl⟩
      go_wp2_with fail
      go_ret2
      exact ⟨rfl, hbw⟩
    · cases hrr : inB r 0 2500
      · have HP : Hid (tfP x0b x0t n0 h r = (0, 2)) := Lib.hid (by simp [tfP, hv, hrr])
        rw [HP.out]
        have hc := implValidScaffold_any A0b c0b x0b A0t c0t x0t n0 (w.alloc (.cells #[.slice A0b x0b.length c0b, .slice A0t x0t.length c0t, .int .i64 n0] 26)) (hb.al _) (ht.al _)
        rw [hv] at hc
        have hl1 := hb.len63
        have hl2 := ht.len63
        go_enter Tryd.func14, Tryd.ntmps14
        go_wp2_with fail
        refine hc.mono ?_
        rintro e w1 ⟨rfl, hb1⟩
        have hbw : Below w.heap.size w w1 := ((Below.refl _ w).alloc (Nat.le_refl _) _).trans (hb1.mono (by simp))
        have hs1 := hb1.size
        simp at hs1
        have q0 : w1.cell? ⟨w.heap.size, 0, none⟩ = some (.slice A0b x0b.length c0b) := by rw [hb1.cell (by simp)]; go_simp
        have q1 : w1.cell? ⟨w.heap.size, 1, none⟩ = some (.slice A0t x0t.length c0t) := by rw [hb1.cell (by simp)]; go_simp
        have q2 : w1.cell? ⟨w.heap.size, 2, none⟩ = some (.int .i64 n0) := by rw [hb1.cell (by simp)]; go_simp
        have hbr := (hb.below hbw).more hbw.size
        have htr := (ht.below hbw).more hbw.size
        clear hc
        go_wp2_with fail
        refine (within_any _ _ _ _).mono ?_
        rintro e w2 ⟨rfl, rfl⟩
        go_wp2_with fail
        refine (within_any _ _ _ _).mono ?_
        rintro e w2 ⟨rfl, rfl⟩
        go_wp2_with fail
        go_ret2
        exact ⟨rfl, hbw⟩
      · have HP : Hid (tfP x0b x0t n0 h r = (match findN (tfHit x0t h r) x0t.length with | some k => ((k : Int), 0) | none => (0, 3))) := Lib.hid (by simp [tfP, hv, hh, hrr])
        obtain ⟨_, _, _, h1, _⟩ := vsB_parts hv
        obtain ⟨_, h2⟩ := vs_sum hv
        have h0 : ∀ x ∈ x0t, 0 ≤ x := fun x hx => by have := h1 x hx; omega
        obtain ⟨hr0, hr1⟩ := inB_yes hrr
        have hc := implValidScaffold_any A0b c0b x0b A0t c0t x0t n0 (w.alloc (.cells #[.slice A0b x0b.length c0b, .slice A0t x0t.length c0t, .int .i64 n0] 26)) (hb.al _) (ht.al _)
        rw [hv] at hc
        have hl1 := hb.len63
        have hl2 := ht.len63
        go_enter Tryd.func14, Tryd.ntmps14
        go_wp2_with fail
        refine hc.mono ?_
        rintro e w1 ⟨rfl, hb1⟩
        have hbw : Below w.heap.size w w1 := ((Below.refl _ w).alloc (Nat.le_refl _) _).trans (hb1.mono (by simp))
        have hs1 := hb1.size
        simp at hs1
        have q0 : w1.cell? ⟨w.heap.size, 0, none⟩ = some (.slice A0b x0b.length c0b) := by rw [hb1.cell (by simp)]; go_simp
        have q1 : w1.cell? ⟨w.heap.size, 1, none⟩ = some (.slice A0t x0t.length c0t) := by rw [hb1.cell (by simp)]; go_simp
        have q2 : w1.cell? ⟨w.heap.size, 2, none⟩ = some (.int .i64 n0) := by rw [hb1.cell (by simp)]; go_simp
        have hbr := (hb.below hbw).more hbw.size
        have htr := (ht.below hbw).more hbw.size
        clear hc
        go_wp2_with fail
        refine (within_any _ _ _ _).mono ?_
        rintro e w2 ⟨rfl, rfl⟩
        go_wp2_with fail
        refine (within_any _ _ _ _).mono ?_
        rintro e w2 ⟨rfl, rfl⟩
        go_wp2_with fail
        go_loop [8, 27] (fun s i => ∃ k : Nat, k ≤ x0t.length ∧ i = .int .i64 k ∧ s = .int .i64 (sm (x0t.take k)) ∧ ∀ j, j < k → tfHit x0t h r j = false) (fun _ i => x0t.length - (intOf i).toNat)
        case atStart => exact ⟨0, by omega, rfl, rfl, fun j hj => by omega⟩
        case round =>
          obtain ⟨k, hk, rfl, rfl, hno⟩ := hrel
          have Hno := Lib.hid hno
          clear hno
          obtain ⟨p0, p1⟩ := sm_take_bd h0 k
          by_cases hlt : k < x0t.length
          · obtain ⟨ad, rfl, hab, hcell⟩ := htr.int hlt
            obtain ⟨p2, p3⟩ := sm_take_bd h0 (k + 1)
            have hsx := sm_succ x0t hlt
            have hb5 : 0 ≤ sm (x0t.take k) + x0t[k] := by omega
            have hb6 : sm (x0t.take k) + x0t[k] ≤ 30000 := by omega
            have HS := Lib.hid hsx
            clear hsx p2 p3
            cases hit : tfHit x0t h r k
            · have hin : inB h (sm (x0t.take k) + x0t[k]) (sm (x0t.take k) + x0t[k] + r) = false := by rw [← HS.out]; exact hit
              go_wp2_with fail
              refine (within_any _ _ _ _).mono ?_
              rintro e w2 ⟨rfl, rfl⟩
              go_wp2_with fail
              go_round
              case rel =>
                refine ⟨k + 1, by omega, by go_num, by rw [HS.out], fun j hj => ?_⟩
                by_cases hjk : j < k
                · exact Hno.out j hjk
                · obtain rfl : j = k := by omega
                  exact hit
              case measure => simp [intOf]; omega
            · have hin : inB h (sm (x0t.take k) + x0t[k]) (sm (x0t.take k) + x0t[k] + r) = true := by rw [← HS.out]; exact hit
              have HF := Lib.hid (findN_hit hlt Hno.out hit)
              go_wp2_with fail
              refine (within_any _ _ _ _).mono ?_
              rintro e w2 ⟨rfl, rfl⟩
              go_wp2_with fail
              go_ret2
              exact ⟨by rw [HP.out, HF.out]; rfl, hbw⟩
          · have HF := Lib.hid (findN_none (p := tfHit x0t h r) (n := x0t.length) fun j hj => Hno.out j (by omega))
            go_wp2_with fail
            go_ret2
            exact ⟨by rw [HP.out, HF.out]; rfl, hbw⟩
set_option maxHeartbeats 800000 in
theorem specTierFor_any (A0b : Option Addr) (c0b : Nat) (x0b : List Int) (A0t : Option Addr) (c0t : Nat) (x0t : List Int) (n0 : Int) (h r : Int) (w : World) (hb : Rd LI w w.heap.size A0b c0b x0b) (ht : Rd LI w w.heap.size A0t c0t x0t) :
    Calls Tryd.prog 15 #[.agg #[.slice A0b x0b.length c0b, .slice A0t x0t.length c0t, .int .i64 n0], .int .i64 h, .int .i64 r] w fun e w' => e = .returned (.tuple #[.int .i64 (tfP x0b x0t n0 h r).1, .int .i64 (tfP x0b x0t n0 h r).2]) ∧ Below w.heap.size w w' := by
  cases hv : vsB x0b x0t n0
  · have HP : Hid (tfP x0b x0t n0 h r = (0, 1)) := Lib.hid (by simp [tfP, hv])
    rw [HP.out]
    have hc := l22Ok_any A0b c0b x0b A0t c0t x0t n0 w.heap.size (w.alloc (.cells #[.slice A0b x0b.length c0b, .slice A0t x0t.length c0t, .int .i64 n0] 26)) (hb.al _) (ht.al _) (by go_simp) (by go_simp) (by go_simp)
    rw [hv] at hc
    have hl1 := hb.len63
    have hl2 := ht.len63
    have hbw : Below w.heap.size w (w.alloc (.cells #[.slice A0b x0b.length c0b, .slice A0t x0t.length c0t, .int .i64 n0] 26)) := (Below.refl _ w).alloc (Nat.le_refl _) _
    have hbr : Rd LI (w.alloc (.cells #[.slice A0b x0b.length c0b, .slice A0t x0t.length c0t, .int .i64 n0] 26)) (w.alloc (.cells #[.slice A0b x0b.length c0b, .slice A0t x0t.length c0t, .int .i64 n0] 26)).heap.size A0b c0b x0b := hb.al _
    have htr : Rd LI (w.alloc (.cells #[.slice A0b x0b.length c0b, .slice A0t x0t.length c0t, .int .i64 n0] 26)) (w.alloc (.cells #[.slice A0b x0b.length c0b, .slice A0t x0t.length c0t, .int .i64 n0] 26)).heap.size A0t c0t x0t := ht.al _
    go_enter Tryd.func15, Tryd.ntmps15
    go_wp2_with fail
    refine hc.mono ?_
    rintro e w1 ⟨rfl, rfl⟩
    clear hc
    go_wp2_with fail
    go_ret2
    exact ⟨rfl, hbw⟩
  · cases hh : inB h 0 40000
    · have HP : Hid (tfP x0b x0t n0 h r = (0, 2)) := Lib.hid (by simp [tfP, hv, hh])
      rw [HP.out]
      have hc := l22Ok_any A0b c0b x0b A0t c0t x0t n0 w.heap.size (w.alloc (.cells #[.slice A0b x0b.length c0b, .slice A0t x0t.length c0t, .int .i64 n0] 26)) (hb.al _) (ht.al _) (by go_simp) (by go_simp) (by go_simp)
      rw [hv] at hc
      have hl1 := hb.len63
      have hl2 := ht.len63
      have hbw : Below w.heap.size w (w.alloc (.cells #[.slice A0b x0b.length c0b, .slice A0t x0t.length c0t, .int .i64 n0] 26)) := (Below.refl _ w).alloc (Nat.le_refl _) _
      have hbr : Rd LI (w.alloc (.cells #[.slice A0b x0b.length c0b, .slice A0t x0t.length c0t, .int .i64 n0] 26)) (w.alloc (.cells #[.slice A0b x0b.length c0b, .slice A0t x0t.length c0t, .int .i64 n0] 26)).heap.size A0b c0b x0b := hb.al _
      have htr : Rd LI (w.alloc (.cells #[.slice A0b x0b.length c0b, .slice A0t x0t.length c0t, .int .i64 n0] 26)) (w.alloc (.cells #[.slice A0b x0b.length c0b, .slice A0t x0t.length c0t, .int .i64 n0] 26)).heap.size A0t c0t x0t := ht.al _
      go_enter Tryd.func15, Tryd.ntmps15
      go_wp2_with fail
      refine hc.mono ?_
      rintro e w1 ⟨rfl, rfl⟩
      clear hc
      go_wp2_with fail
      refine (l00In_any _ _ _ _).mono ?_
      rintro e w2 ⟨rfl, rfl⟩
      go_wp2_with fail
      go_ret2
      exact ⟨rfl, hbw⟩
    · cases hrr : inB r 0 2500
      · have HP : Hid (tfP x0b x0t n0 h r = (0, 2)) := Lib.hid (by simp [tfP, hv, hrr])
        rw [HP.out]
        have hc := l22Ok_any A0b c0b x0b A0t c0t x0t n0 w.heap.size (w.alloc (.cells #[.slice A0b x0b.length c0b, .slice A0t x0t.length c0t, .int .i64 n0] 26)) (hb.al _) (ht.al _) (by go_simp) (by go_simp) (by go_simp)
        rw [hv] at hc
        have hl1 := hb.len63
        have hl2 := ht.len63
        have hbw : Below w.heap.size w (w.alloc (.cells #[.slice A0b x0b.length c0b, .slice A0t x0t.length c0t, .int .i64 n0] 26)) := (Below.refl _ w).alloc (Nat.le_refl _) _
        have hbr : Rd LI (w.alloc (.cells #[.slice A0b x0b.length c0b, .slice A0t x0t.length c0t, .int .i64 n0] 26)) (w.alloc (.cells #[.slice A0b x0b.length c0b, .slice A0t x0t.length c0t, .int .i64 n0] 26)).heap.size A0b c0b x0b := hb.al _
        have htr : Rd LI (w.alloc (.cells #[.slice A0b x0b.length c0b, .slice A0t x0t.length c0t, .int .i64 n0] 26)) (w.alloc (.cells #[.slice A0b x0b.length c0b, .slice A0t x0t.length c0t, .int .i64 n0] 26)).heap.size A0t c0t x0t := ht.al _
        go_enter Tryd.func15, Tryd.ntmps15
        go_wp2_with fail
        refine hc.mono ?_
        rintro e w1 ⟨rfl, rfl⟩
        clear hc
        go_wp2_with fail
        refine (l00In_any _ _ _ _).mono ?_
        rintro e w2 ⟨rfl, rfl⟩
        go_wp2_with fail
        refine (l00In_any _ _ _ _).mono ?_
        rintro e w2 ⟨rfl, rfl⟩
        go_wp2_with fail
        go_ret2
        exact ⟨rfl, hbw⟩
      · have HP : Hid (tfP x0b x0t n0 h r = (match findN (tfHit x0t h r) x0t.length with | some k => ((k : Int), 0) | none => (0, 3))) := Lib.hid (by simp [tfP, hv, hh, hrr])
        obtain ⟨_, _, _, h1, _⟩ := vsB_parts hv
        obtain ⟨_, h2⟩ := vs_sum hv
        have h0 : ∀ x ∈ x0t, 0 ≤ x := fun x hx => by have := h1 x hx; omega
        obtain ⟨hr0, hr1⟩ := inB_yes hrr
        have hc := l22Ok_any A0b c0b x0b A0t c0t x0t n0 w.heap.size (w.alloc (.cells #[.slice A0b x0b.length c0b, .slice A0t x0t.length c0t, .int .i64 n0] 26)) (hb.al _) (ht.al _) (by go_simp) (by go_simp) (by go_simp)
        rw [hv] at hc
        have hl1 := hb.len63
        have hl2 := ht.len63
        have hbw : Below w.heap.size w (w.alloc (.cells #[.slice A0b x0b.length c0b, .slice A0t x0t.length c0t, .int .i64 n0] 26)) := (Below.refl _ w).alloc (Nat.le_refl _) _
        have hbr : Rd LI (w.alloc (.cells #[.slice A0b x0b.length c0b, .slice A0t x0t.length c0t, .int .i64 n0] 26)) (w.alloc (.cells #[.slice A0b x0b.length c0b, .slice A0t x0t.length c0t, .int .i64 n0] 26)).heap.size A0b c0b x0b := hb.al _
        have htr : Rd LI (w.alloc (.cells #[.slice A0b x0b.length c0b, .slice A0t x0t.length c0t, .int .i64 n0] 26)) (w.alloc (.cells #[.slice A0b x0b.length c0b, .slice A0t x0t.length c0t, .int .i64 n0] 26)).heap.size A0t c0t x0t := ht.al _
        go_enter Tryd.func15, Tryd.ntmps15
        go_wp2_with fail
        refine hc.mono ?_
        rintro e w1 ⟨rfl, rfl⟩
        clear hc
        go_wp2_with fail
        refine (l00In_any _ _ _ _).mono ?_
        rintro e w2 ⟨rfl, rfl⟩
        go_wp2_with fail
        refine (l00In_any _ _ _ _).mono ?_
        rintro e w2 ⟨rfl, rfl⟩
        go_wp2_with fail
        go_loop [8, 9] (fun s i => ∃ k : Nat, k ≤ x0t.length ∧ i = .int .i64 k ∧ s = .int .i64 (sm (x0t.take k)) ∧ ∀ j, j < k → tfHit x0t h r j = false) (fun _ i => x0t.length - (intOf i).toNat)
        case atStart => exact ⟨0, by omega, rfl, rfl, fun j hj => by omega⟩
        case round =>
          obtain ⟨k, hk, rfl, rfl, hno⟩ := hrel
          have Hno := Lib.hid hno
          clear hno
          obtain ⟨p0, p1⟩ := sm_take_bd h0 k
          by_cases hlt : k < x0t.length
          · obtain ⟨ad, rfl, hab, hcell⟩ := htr.int hlt
            obtain ⟨p2, p3⟩ := sm_take_bd h0 (k + 1)
            have hsx := sm_succ x0t hlt
            have hb5 : 0 ≤ sm (x0t.take k) + x0t[k] := by omega
            have hb6 : sm (x0t.take k) + x0t[k] ≤ 30000 := by omega
            have HS := Lib.hid hsx
            clear hsx p2 p3
            cases hit : tfHit x0t h r k
            · have hin : inB h (sm (x0t.take k) + x0t[k]) (sm (x0t.take k) + x0t[k] + r) = false := by rw [← HS.out]; exact hit
              go_wp2_with fail
              refine (l00In_any _ _ _ _).mono ?_
              rintro e w2 ⟨rfl, rfl⟩
              go_wp2_with fail
              go_round
              case rel =>
                refine ⟨k + 1, by omega, by go_num, by rw [HS.out], fun j hj => ?_⟩
                by_cases hjk : j < k
                · exact Hno.out j hjk
                · obtain rfl : j = k := by omega
                  exact hit
              case measure => simp [intOf]; omega
            · have hin : inB h (sm (x0t.take k) + x0t[k]) (sm (x0t.take k) + x0t[k] + r) = true := by rw [← HS.out]; exact hit
              have HF := Lib.hid (findN_hit hlt Hno.out hit)
              go_wp2_with fail
              refine (l00In_any _ _ _ _).mono ?_
              rintro e w2 ⟨rfl, rfl⟩
              go_wp2_with fail
              go_ret2
              exact ⟨by rw [HP.out, HF.out]; rfl, hbw⟩
          · have HF := Lib.hid (findN_none (p := tfHit x0t h r) (n := x0t.length) fun j hj => Hno.out j (by omega))
            go_wp2_with fail
            go_ret2
            exact ⟨by rw [HP.out, HF.out]; rfl, hbw⟩

def baHit (b : List Int) (p : Int) (k : Nat) : Bool := decide (p < sm (b.take (k + 1)))
def baP (b t : List Int) (n p : Int) : Int × Int := if vsB b t n = true then (if inB p 0 (sm b - 1) = true then (match findN (baHit b p) b.length with | some k => ((k : Int), 0) | none => (0, 2)) else (0, 2)) else (0, 1)
set_option maxHeartbeats 800000 in
theorem implBayAt_any (A0b : Option Addr) (c0b : Nat) (x0b : List Int) (A0t : Option Addr) (c0t : Nat) (x0t : List Int) (n0 : Int) (p : Int) (w : World) (hb : Rd LI w w.heap.size A0b c0b x0b) (ht : Rd LI w w.heap.size A0t c0t x0t) :
    Calls Tryd.prog 11 #[.agg #[.slice A0b x0b.length c0b, .slice A0t x0t.length c0t, .int .i64 n0], .int .i64 p] w fun e w' => e = .returned (.tuple #[.int .i64 (baP x0b x0t n0 p).1, .int .i64 (baP x0b x0t n0 p).2]) ∧ Below w.heap.size w w' := by
  cases hv : vsB x0b x0t n0
  · have HP : Hid (baP x0b x0t n0 p = (0, 1)) := Lib.hid (by simp [baP, hv])
    rw [HP.out]
    have hc := implValidScaffold_any A0b c0b x0b A0t c0t x0t n0 (w.alloc (.cells #[.slice A0b x0b.length c0b, .slice A0t x0t.length c0t, .int .i64 n0] 26)) (hb.al _) (ht.al _)
    rw [hv] at hc
    have hl1 := hb.len63
    have hl2 := ht.len63
    go_enter Tryd.func11, Tryd.ntmps11
    go_wp2_with fail
    refine hc.mono ?_
    rintro e w1 ⟨rfl, hb1⟩
    have hbw : Below w.heap.size w w1 := ((Below.refl _ w).alloc (Nat.le_refl _) _).trans (hb1.mono (by simp))
    have hs1 := hb1.size
    simp at hs1
    have q0 : w1.cell? ⟨w.heap.size, 0, none⟩ = some (.slice A0b x0b.length c0b) := by rw [hb1.cell (by simp)]; go_simp
    have q1 : w1.cell? ⟨w.heap.size, 1, none⟩ = some (.slice A0t x0t.length c0t) := by rw [hb1.cell (by simp)]; go_simp
    have q2 : w1.cell? ⟨w.heap.size, 2, none⟩ = some (.int .i64 n0) := by rw [hb1.cell (by simp)]; go_simp
    have hbr := (hb.below hbw).more hbw.size
    have htr := (ht.below hbw).more hbw.size
    clear hc
    go_wp2_with fail
    go_ret2
    exact ⟨rfl, hbw⟩
  · obtain ⟨h3, h1, _⟩ := vsB_parts hv
    obtain ⟨h2, _⟩ := vs_sum hv
    have h0 : ∀ x ∈ x0b, 0 ≤ x := fun x hx => by have := h1 x hx; omega
    cases hh : inB p 0 (sm x0b - 1)
    · have HP : Hid (baP x0b x0t n0 p = (0, 2)) := Lib.hid (by simp [baP, hv, hh])
      rw [HP.out]
      have hc := implValidScaffold_any A0b c0b x0b A0t c0t x0t n0 (w.alloc (.cells #[.slice A0b x0b.length c0b, .slice A0t x0t.length c0t, .int .i64 n0] 26)) (hb.al _) (ht.al _)
      rw [hv] at hc
      have hl1 := hb.len63
      have hl2 := ht.len63
      go_enter Tryd.func11, Tryd.ntmps11
      go_wp2_with fail
      refine hc.mono ?_
      rintro e w1 ⟨rfl, hb1⟩
      have hbw : Below w.heap.size w w1 := ((Below.refl _ w).alloc (Nat.le_refl _) _).trans (hb1.mono (by simp))
      have hs1 := hb1.size
      simp at hs1
      have q0 : w1.cell? ⟨w.heap.size, 0, none⟩ = some (.slice A0b x0b.length c0b) := by rw [hb1.cell (by simp)]; go_simp
      have q1 : w1.cell? ⟨w.heap.size, 1, none⟩ = some (.slice A0t x0t.length c0t) := by rw [hb1.cell (by simp)]; go_simp
      have q2 : w1.cell? ⟨w.heap.size, 2, none⟩ = some (.int .i64 n0) := by rw [hb1.cell (by simp)]; go_simp
      have hbr := (hb.below hbw).more hbw.size
      have htr := (ht.below hbw).more hbw.size
      clear hc
      go_wp2_with fail
      refine (sumOf_any A0b c0b x0b _ _ hbr h0 (by omega)).mono ?_
      rintro e w2 ⟨rfl, rfl⟩
      go_wp2_with fail
      refine (within_any _ _ _ _).mono ?_
      rintro e w2 ⟨rfl, rfl⟩
      go_wp2_with fail
      go_ret2
      exact ⟨rfl, hbw⟩
    · have HP : Hid (baP x0b x0t n0 p = (match findN (baHit x0b p) x0b.length with | some k => ((k : Int), 0) | none => (0, 2))) := Lib.hid (by simp [baP, hv, hh])
      obtain ⟨hp0, hp1⟩ := inB_yes hh
      have hc := implValidScaffold_any A0b c0b x0b A0t c0t x0t n0 (w.alloc (.cells #[.slice A0b x0b.length c0b, .slice A0t x0t.length c0t, .int .i64 n0] 26)) (hb.al _) (ht.al _)
      rw [hv] at hc
      have hl1 := hb.len63
      have hl2 := ht.len63
      go_enter Tryd.func11, Tryd.ntmps11
      go_wp2_with fail
      refine hc.mono ?_
      rintro e w1 ⟨rfl, hb1⟩
      have hbw : Below w.heap.size w w1 := ((Below.refl _ w).alloc (Nat.le_refl _) _).trans (hb1.mono (by simp))
      have hs1 := hb1.size
      simp at hs1
      have q0 : w1.cell? ⟨w.heap.size, 0, none⟩ = some (.slice A0b x0b.length c0b) := by rw [hb1.cell (by simp)]; go_simp
      have q1 : w1.cell? ⟨w.heap.size, 1, none⟩ = some (.slice A0t x0t.length c0t) := by rw [hb1.cell (by simp)]; go_simp
      have q2 : w1.cell? ⟨w.heap.size, 2, none⟩ = some (.int .i64 n0) := by rw [hb1.cell (by simp)]; go_simp
      have hbr := (hb.below hbw).more hbw.size
      have htr := (ht.below hbw).more hbw.size
      clear hc
      go_wp2_with fail
      refine (sumOf_any A0b c0b x0b _ _ hbr h0 (by omega)).mono ?_
      rintro e w2 ⟨rfl, rfl⟩
      go_wp2_with fail
      refine (within_any _ _ _ _).mono ?_
      rintro e w2 ⟨rfl, rfl⟩
      go_wp2_with fail
      go_loop [1, 6] (fun s i => ∃ k : Nat, k < x0b.length ∧ i = .int .i64 k ∧ s = .int .i64 (p - sm (x0b.take k)) ∧ ∀ j, j < k → baHit x0b p j = false) (fun _ i => x0b.length - (intOf i).toNat)
      case atStart => exact ⟨0, by omega, rfl, by simp [sm], fun j hj => by omega⟩
      case round =>
        obtain ⟨k, hlt, rfl, rfl, hno⟩ := hrel
        have Hno := Lib.hid hno
        clear hno
        obtain ⟨p0, p1⟩ := sm_take_bd h0 k
        obtain ⟨p2, p3⟩ := sm_take_bd h0 (k + 1)
        obtain ⟨ad, hA, hab, hcell⟩ := hbr.int hlt
        subst hA
        have hsx := sm_succ x0b hlt
        have hk0 : (k : Int) < x0b.length := by omega
        have hxk := h1 _ (List.getElem_mem hlt)
        obtain ⟨hxk0, hxk1⟩ := hxk
        cases hit : baHit x0b p k
        · have hge : x0b[k] ≤ p - sm (x0b.take k) := by
            simp only [baHit, decide_eq_false_iff_not] at hit; omega
          have hk1 : k + 1 < x0b.length := by
            rcases Nat.lt_or_ge (k + 1) x0b.length with h | h
            · exact h
            · rw [List.take_of_length_le h] at hsx; omega
          have HS := Lib.hid hsx
          clear hsx p2 p3
          go_wp2_with fail
          go_round
          case rel =>
            refine ⟨k + 1, hk1, by go_num, by rw [HS.out]; go_num, fun j hj => ?_⟩
            by_cases hjk : j < k
            · exact Hno.out j hjk
            · obtain rfl : j = k := by omega
              exact hit
          case measure => simp [intOf]; omega
        · have hge : ¬ x0b[k] ≤ p - sm (x0b.take k) := by
            simp only [baHit, decide_eq_true_eq] at hit; omega
          have HF := Lib.hid (findN_hit hlt Hno.out hit)
          clear hsx p2 p3
          go_wp2_with fail
          go_ret2
          exact ⟨by rw [HP.out, HF.out]; rfl, hbw⟩
set_option maxHeartbeats 800000 in
theorem specBayAt_any (A0b : Option Addr) (c0b : Nat) (x0b : List Int) (A0t : Option Addr) (c0t : Nat) (x0t : List Int) (n0 : Int) (p : Int) (w : World) (hb : Rd LI w w.heap.size A0b c0b x0b) (ht : Rd LI w w.heap.size A0t c0t x0t) :
    Calls Tryd.prog 12 #[.agg #[.slice A0b x0b.length c0b, .slice A0t x0t.length c0t, .int .i64 n0], .int .i64 p] w fun e w' => e = .returned (.tuple #[.int .i64 (baP x0b x0t n0 p).1, .int .i64 (baP x0b x0t n0 p).2]) ∧ Below w.heap.size w w' := by
  cases hv : vsB x0b x0t n0
  · have HP : Hid (baP x0b x0t n0 p = (0, 1)) := Lib.hid (by simp [baP, hv])
    rw [HP.out]
    have hc := l22Ok_any A0b c0b x0b A0t c0t x0t n0 w.heap.size (w.alloc (.cells #[.slice A0b x0b.length c0b, .slice A0t x0t.length c0t, .int .i64 n0] 26)) (hb.al _) (ht.al _) (by go_simp) (by go_simp) (by go_simp)
    rw [hv] at hc
    have hl1 := hb.len63
    have hl2 := ht.len63
    have hbw : Below w.heap.size w (w.alloc (.cells #[.slice A0b x0b.length c0b, .slice A0t x0t.length c0t, .int .i64 n0] 26)) := (Below.refl _ w).alloc (Nat.le_refl _) _
    have hbr : Rd LI (w.alloc (.cells #[.slice A0b x0b.length c0b, .slice A0t x0t.length c0t, .int .i64 n0] 26)) (w.alloc (.cells #[.slice A0b x0b.length c0b, .slice A0t x0t.length c0t, .int .i64 n0] 26)).heap.size A0b c0b x0b := hb.al _
    have htr : Rd LI (w.alloc (.cells #[.slice A0b x0b.length c0b, .slice A0t x0t.length c0t, .int .i64 n0] 26)) (w.alloc (.cells #[.slice A0b x0b.length c0b, .slice A0t x0t.length c0t, .int .i64 n0] 26)).heap.size A0t c0t x0t := ht.al _
    go_enter Tryd.func12, Tryd.ntmps12
    go_wp2_with fail
    refine hc.mono ?_
    rintro e w1 ⟨rfl, rfl⟩
    clear hc
    go_wp2_with fail
    go_ret2
    exact ⟨rfl, hbw⟩
  · obtain ⟨h3, h1, _⟩ := vsB_parts hv
    obtain ⟨h2, _⟩ := vs_sum hv
    have h0 : ∀ x ∈ x0b, 0 ≤ x := fun x hx => by have := h1 x hx; omega
    cases hh : inB p 0 (sm x0b - 1)
    · have HP : Hid (baP x0b x0t n0 p = (0, 2)) := Lib.hid (by simp [baP, hv, hh])
      rw [HP.out]
      have hc := l22Ok_any A0b c0b x0b A0t c0t x0t n0 w.heap.size (w.alloc (.cells #[.slice A0b x0b.length c0b, .slice A0t x0t.length c0t, .int .i64 n0] 26)) (hb.al _) (ht.al _) (by go_simp) (by go_simp) (by go_simp)
      rw [hv] at hc
      have hl1 := hb.len63
      have hl2 := ht.len63
      have hbw : Below w.heap.size w (w.alloc (.cells #[.slice A0b x0b.length c0b, .slice A0t x0t.length c0t, .int .i64 n0] 26)) := (Below.refl _ w).alloc (Nat.le_refl _) _
      have hbr : Rd LI (w.alloc (.cells #[.slice A0b x0b.length c0b, .slice A0t x0t.length c0t, .int .i64 n0] 26)) (w.alloc (.cells #[.slice A0b x0b.length c0b, .slice A0t x0t.length c0t, .int .i64 n0] 26)).heap.size A0b c0b x0b := hb.al _
      have htr : Rd LI (w.alloc (.cells #[.slice A0b x0b.length c0b, .slice A0t x0t.length c0t, .int .i64 n0] 26)) (w.alloc (.cells #[.slice A0b x0b.length c0b, .slice A0t x0t.length c0t, .int .i64 n0] 26)).heap.size A0t c0t x0t := ht.al _
      go_enter Tryd.func12, Tryd.ntmps12
      go_wp2_with fail
      refine hc.mono ?_
      rintro e w1 ⟨rfl, rfl⟩
      clear hc
      go_wp2_with fail
      refine (l22Sum_any A0b c0b x0b _ _ hbr h0 (by omega)).mono ?_
      rintro e w2 ⟨rfl, rfl⟩
      go_wp2_with fail
      refine (l00In_any _ _ _ _).mono ?_
      rintro e w2 ⟨rfl, rfl⟩
      go_wp2_with fail
      go_ret2
      exact ⟨rfl, hbw⟩
    · have HP : Hid (baP x0b x0t n0 p = (match findN (baHit x0b p) x0b.length with | some k => ((k : Int), 0) | none => (0, 2))) := Lib.hid (by simp [baP, hv, hh])
      obtain ⟨hp0, hp1⟩ := inB_yes hh
      have hc := l22Ok_any A0b c0b x0b A0t c0t x0t n0 w.heap.size (w.alloc (.cells #[.slice A0b x0b.length c0b, .slice A0t x0t.length c0t, .int .i64 n0] 26)) (hb.al _) (ht.al _) (by go_simp) (by go_simp) (by go_simp)
      rw [hv] at hc
      have hl1 := hb.len63
      have hl2 := ht.len63
      have hbw : Below w.heap.size w (w.alloc (.cells #[.slice A0b x0b.length c0b, .slice A0t x0t.length c0t, .int .i64 n0] 26)) := (Below.refl _ w).alloc (Nat.le_refl _) _
      have hbr : Rd LI (w.alloc (.cells #[.slice A0b x0b.length c0b, .slice A0t x0t.length c0t, .int .i64 n0] 26)) (w.alloc (.cells #[.slice A0b x0b.length c0b, .slice A0t x0t.length c0t, .int .i64 n0] 26)).heap.size A0b c0b x0b := hb.al _
      have htr : Rd LI (w.alloc (.cells #[.slice A0b x0b.length c0b, .slice A0t x0t.length c0t, .int .i64 n0] 26)) (w.alloc (.cells #[.slice A0b x0b.length c0b, .slice A0t x0t.length c0t, .int .i64 n0] 26)).heap.size A0t c0t x0t := ht.al _
      go_enter Tryd.func12, Tryd.ntmps12
      go_wp2_with fail
      refine hc.mono ?_
      rintro e w1 ⟨rfl, rfl⟩
      clear hc
      go_wp2_with fail
      refine (l22Sum_any A0b c0b x0b _ _ hbr h0 (by omega)).mono ?_
      rintro e w2 ⟨rfl, rfl⟩
      go_wp2_with fail
      refine (l00In_any _ _ _ _).mono ?_
      rintro e w2 ⟨rfl, rfl⟩
      go_wp2_with fail
      go_loop [1, 6] (fun s i => ∃ k : Nat, k < x0b.length ∧ i = .int .i64 k ∧ s = .int .i64 (p - sm (x0b.take k)) ∧ ∀ j, j < k → baHit x0b p j = false) (fun _ i => x0b.length - (intOf i).toNat)
      case atStart => exact ⟨0, by omega, rfl, by simp [sm], fun j hj => by omega⟩
      case round =>
        obtain ⟨k, hlt, rfl, rfl, hno⟩ := hrel
        have Hno := Lib.hid hno
        clear hno
        obtain ⟨p0, p1⟩ := sm_take_bd h0 k
        obtain ⟨p2, p3⟩ := sm_take_bd h0 (k + 1)
        obtain ⟨ad, hA, hab, hcell⟩ := hbr.int hlt
        subst hA
        have hsx := sm_succ x0b hlt
        have hk0 : (k : Int) < x0b.length := by omega
        have hxk := h1 _ (List.getElem_mem hlt)
        obtain ⟨hxk0, hxk1⟩ := hxk
        cases hit : baHit x0b p k
        · have hge : x0b[k] ≤ p - sm (x0b.take k) := by
            simp only [baHit, decide_eq_false_iff_not] at hit; omega
          have hk1 : k + 1 < x0b.length := by
            rcases Nat.lt_or_ge (k + 1) x0b.length with h | h
            · exact h
            · rw [List.take_of_length_le h] at hsx; omega
          have HS := Lib.hid hsx
          clear hsx p2 p3
          go_wp2_with fail
          go_round
          case rel =>
            refine ⟨k + 1, hk1, by go_num, by rw [HS.out]; go_num, fun j hj => ?_⟩
            by_cases hjk : j < k
            · exact Hno.out j hjk
            · obtain rfl : j = k := by omega
              exact hit
          case measure => simp [intOf]; omega
        · have hge : ¬ x0b[k] ≤ p - sm (x0b.take k) := by
            simp only [baHit, decide_eq_true_eq] at hit; omega
          have HF := Lib.hid (findN_hit hlt Hno.out hit)
          clear hsx p2 p3
          go_wp2_with fail
          go_ret2
          exact ⟨by rw [HP.out, HF.out]; rfl, hbw⟩
end Go.Proofs.YtamhkiakplmlmaaDoor
