/-
  Scaffolds: PolesOf, LengthOfBays, TierFor, BayAt.
-/
import Derived.Test.YtamhkiakplmlmaaScaf
import Derived.Deep.QuietTactic
import Derived.BigQuiet
namespace Go.Proofs.Ytamhkiakplmlmaa
open Go.ChangeShapes Go.WideShapes Go.RowKit

theorem ret_iii {k k' k'' : IntKind} {a b c a' b' c' : Int} (h : a = a') (h' : b = b') (h'' : c = c') : Ending.returned (.tuple #[.int k a, .int k' b, .int k'' c]) = .returned (.tuple #[.int k a', .int k' b', .int k'' c']) := by rw [h, h', h'']

def poP (b t : List Int) (n : Int) : Int × Int × Int := if vsB b t n = true then (2 * ((b.length : Int) + 1), 2 * (b.length : Int) * (t.length : Int) + ((b.length : Int) + 1) * (t.length : Int), 0) else (0, 0, 1)
theorem po_bounds {b t : Nat} (hb : b ≤ 20) (ht : t ≤ 12) : 0 ≤ 2 * (b : Int) * (t : Int) ∧ 2 * (b : Int) * (t : Int) ≤ 480 ∧ 0 ≤ ((b : Int) + 1) * (t : Int) ∧ ((b : Int) + 1) * (t : Int) ≤ 252 := by
  have h1 : 2 * (b : Int) * (t : Int) = ((2 * b * t : Nat) : Int) := by simp
  have h2 : ((b : Int) + 1) * (t : Int) = (((b + 1) * t : Nat) : Int) := by simp
  have h3 : b * t ≤ 20 * 12 := Nat.mul_le_mul hb ht
  have h4 : (b + 1) * t ≤ 21 * 12 := Nat.mul_le_mul (by omega) ht
  have h5 : 2 * b * t = 2 * (b * t) := by rw [Nat.mul_assoc]
  rw [h1, h2]
  omega
theorem implPolesOf_any (A0b : Option Addr) (c0b : Nat) (x0b : List Int) (A0t : Option Addr) (c0t : Nat) (x0t : List Int) (n0 : Int) (w : World) (hb : Rd LI w w.heap.size A0b c0b x0b) (ht : Rd LI w w.heap.size A0t c0t x0t) :
    Calls Try.prog 9 #[.agg #[.slice A0b x0b.length c0b, .slice A0t x0t.length c0t, .int .i64 n0]] w fun e w' => e = .returned (.tuple #[.int .i64 (poP x0b x0t n0).1, .int .i64 (poP x0b x0t n0).2.1, .int .i64 (poP x0b x0t n0).2.2]) ∧ Below w.heap.size w w' := by
  cases hv : vsB x0b x0t n0
  · have HP : Hid (poP x0b x0t n0 = (0, 0, 1)) := Lib.hid (by simp [poP, hv])
    rw [HP.out]
    have hc := implValidScaffold_any A0b c0b x0b A0t c0t x0t n0 (w.alloc (.cells #[.slice A0b x0b.length c0b, .slice A0t x0t.length c0t, .int .i64 n0] 30)) (hb.al _) (ht.al _)
    rw [hv] at hc
    have hl1 := hb.len63
    have hl2 := ht.len63
    go_enter Try.func9, Try.ntmps9
    go_wp2_with fail
    refine hc.mono ?_
    rintro e w1 ⟨rfl, hb1⟩
    have hbw : Below w.heap.size w w1 := ((Below.refl _ w).alloc (Nat.le_refl _) _).trans (hb1.mono (by simp))
    have hs1 := hb1.size
    simp at hs1
    have q0 : w1.cell? ⟨w.heap.size, 0, none⟩ = some (.slice A0b x0b.length c0b) := by rw [hb1.cell (by simp)]; go_simp
    have q1 : w1.cell? ⟨w.heap.size, 1, none⟩ = some (.slice A0t x0t.length c0t) := by rw [hb1.cell (by simp)]; go_simp
    have q2 : w1.cell? ⟨w.heap.size, 2, none⟩ = some (.int .i64 n0) := by rw [hb1.cell (by simp)]; go_simp
    have hbr := (hb.below hbw).more hbw.size
    have htr := (ht.below hbw).more hbw.size
    clear hc
    go_wp2_with fail
    go_ret3
    exact ⟨rfl, hbw⟩
  · have HP : Hid (poP x0b x0t n0 = (2 * ((x0b.length : Int) + 1), 2 * (x0b.length : Int) * (x0t.length : Int) + ((x0b.length : Int) + 1) * (x0t.length : Int), 0)) := Lib.hid (by simp [poP, hv])
    rw [HP.out]
    obtain ⟨h1, _, h2, _⟩ := vsB_parts hv
    obtain ⟨m1, m2, m3, m4⟩ := po_bounds h1.2 h2.2
    have hc := implValidScaffold_any A0b c0b x0b A0t c0t x0t n0 (w.alloc (.cells #[.slice A0b x0b.length c0b, .slice A0t x0t.length c0t, .int .i64 n0] 30)) (hb.al _) (ht.al _)
    rw [hv] at hc
    have hl1 := hb.len63
    have hl2 := ht.len63
    go_enter Try.func9, Try.ntmps9
    go_wp2_with fail
    refine hc.mono ?_
    rintro e w1 ⟨rfl, hb1⟩
    have hbw : Below w.heap.size w w1 := ((Below.refl _ w).alloc (Nat.le_refl _) _).trans (hb1.mono (by simp))
    have hs1 := hb1.size
    simp at hs1
    have q0 : w1.cell? ⟨w.heap.size, 0, none⟩ = some (.slice A0b x0b.length c0b) := by rw [hb1.cell (by simp)]; go_simp
    have q1 : w1.cell? ⟨w.heap.size, 1, none⟩ = some (.slice A0t x0t.length c0t) := by rw [hb1.cell (by simp)]; go_simp
    have q2 : w1.cell? ⟨w.heap.size, 2, none⟩ = some (.int .i64 n0) := by rw [hb1.cell (by simp)]; go_simp
    have hbr := (hb.below hbw).more hbw.size
    have htr := (ht.below hbw).more hbw.size
    clear hc
    go_wp2_with fail
    try go_quiet (fail)
    try go_wp2_with fail
    go_ret3
    exact ⟨rfl, by first | exact hbw | exact below_drewN hbw _⟩
theorem specPolesOf_any (A0b : Option Addr) (c0b : Nat) (x0b : List Int) (A0t : Option Addr) (c0t : Nat) (x0t : List Int) (n0 : Int) (w : World) (hb : Rd LI w w.heap.size A0b c0b x0b) (ht : Rd LI w w.heap.size A0t c0t x0t) :
    Calls Try.prog 10 #[.agg #[.slice A0b x0b.length c0b, .slice A0t x0t.length c0t, .int .i64 n0]] w fun e w' => e = .returned (.tuple #[.int .i64 (poP x0b x0t n0).1, .int .i64 (poP x0b x0t n0).2.1, .int .i64 (poP x0b x0t n0).2.2]) ∧ Below w.heap.size w w' := by
  cases hv : vsB x0b x0t n0
  · have HP : Hid (poP x0b x0t n0 = (0, 0, 1)) := Lib.hid (by simp [poP, hv])
    rw [HP.out]
    have hc := l22Ok_any A0b c0b x0b A0t c0t x0t n0 w.heap.size (w.alloc (.cells #[.slice A0b x0b.length c0b, .slice A0t x0t.length c0t, .int .i64 n0] 30)) (hb.al _) (ht.al _) (by go_simp) (by go_simp) (by go_simp)
    rw [hv] at hc
    have hl1 := hb.len63
    have hl2 := ht.len63
    have hbw : Below w.heap.size w (w.alloc (.cells #[.slice A0b x0b.length c0b, .slice A0t x0t.length c0t, .int .i64 n0] 30)) := (Below.refl _ w).alloc (Nat.le_refl _) _
    have hbr : Rd LI (w.alloc (.cells #[.slice A0b x0b.length c0b, .slice A0t x0t.length c0t, .int .i64 n0] 30)) (w.alloc (.cells #[.slice A0b x0b.length c0b, .slice A0t x0t.length c0t, .int .i64 n0] 30)).heap.size A0b c0b x0b := hb.al _
    have htr : Rd LI (w.alloc (.cells #[.slice A0b x0b.length c0b, .slice A0t x0t.length c0t, .int .i64 n0] 30)) (w.alloc (.cells #[.slice A0b x0b.length c0b, .slice A0t x0t.length c0t, .int .i64 n0] 30)).heap.size A0t c0t x0t := ht.al _
    go_enter Try.func10, Try.ntmps10
    go_wp2_with fail
    refine hc.mono ?_
    rintro e w1 ⟨rfl, rfl⟩
    clear hc
    go_wp2_with fail
    go_ret3
    exact ⟨rfl, hbw⟩
  · have HP : Hid (poP x0b x0t n0 = (2 * ((x0b.length : Int) + 1), 2 * (x0b.length : Int) * (x0t.length : Int) + ((x0b.length : Int) + 1) * (x0t.length : Int), 0)) := Lib.hid (by simp [poP, hv])
    rw [HP.out]
    obtain ⟨h1, _, h2, _⟩ := vsB_parts hv
    obtain ⟨m1, m2, m3, m4⟩ := po_bounds h1.2 h2.2
    have hc := l22Ok_any A0b c0b x0b A0t c0t x0t n0 w.heap.size (w.alloc (.cells #[.slice A0b x0b.length c0b, .slice A0t x0t.length c0t, .int .i64 n0] 30)) (hb.al _) (ht.al _) (by go_simp) (by go_simp) (by go_simp)
    rw [hv] at hc
    have hl1 := hb.len63
    have hl2 := ht.len63
    have hbw : Below w.heap.size w (w.alloc (.cells #[.slice A0b x0b.length c0b, .slice A0t x0t.length c0t, .int .i64 n0] 30)) := (Below.refl _ w).alloc (Nat.le_refl _) _
    have hbr : Rd LI (w.alloc (.cells #[.slice A0b x0b.length c0b, .slice A0t x0t.length c0t, .int .i64 n0] 30)) (w.alloc (.cells #[.slice A0b x0b.length c0b, .slice A0t x0t.length c0t, .int .i64 n0] 30)).heap.size A0b c0b x0b := hb.al _
    have htr : Rd LI (w.alloc (.cells #[.slice A0b x0b.length c0b, .slice A0t x0t.length c0t, .int .i64 n0] 30)) (w.alloc (.cells #[.slice A0b x0b.length c0b, .slice A0t x0t.length c0t, .int .i64 n0] 30)).heap.size A0t c0t x0t := ht.al _
    go_enter Try.func10, Try.ntmps10
    go_wp2_with fail
    refine hc.mono ?_
    rintro e w1 ⟨rfl, rfl⟩
    clear hc
    go_wp2_with fail
    try go_quiet (fail)
    try go_wp2_with fail
    go_ret3
    exact ⟨rfl, by first | exact hbw | exact below_drewN hbw _⟩

def lbP (b t : List Int) (n : Int) : Int × Int := if vsB b t n = true then (sm b, 0) else (0, 1)
theorem implLengthOfBays_any (A0b : Option Addr) (c0b : Nat) (x0b : List Int) (A0t : Option Addr) (c0t : Nat) (x0t : List Int) (n0 : Int) (w : World) (hb : Rd LI w w.heap.size A0b c0b x0b) (ht : Rd LI w w.heap.size A0t c0t x0t) :
    Calls Try.prog 13 #[.agg #[.slice A0b x0b.length c0b, .slice A0t x0t.length c0t, .int .i64 n0]] w fun e w' => e = .returned (.tuple #[.int .i64 (lbP x0b x0t n0).1, .int .i64 (lbP x0b x0t n0).2]) ∧ Below w.heap.size w w' := by
  cases hv : vsB x0b x0t n0
  · have HP : Hid (lbP x0b x0t n0 = (0, 1)) := Lib.hid (by simp [lbP, hv])
    rw [HP.out]
    have hc := implValidScaffold_any A0b c0b x0b A0t c0t x0t n0 (w.alloc (.cells #[.slice A0b x0b.length c0b, .slice A0t x0t.length c0t, .int .i64 n0] 30)) (hb.al _) (ht.al _)
    rw [hv] at hc
    have hl1 := hb.len63
    have hl2 := ht.len63
    go_enter Try.func13, Try.ntmps13
    go_wp2_with fail
    refine hc.mono ?_
    rintro e w1 ⟨rfl, hb1⟩
    have hbw : Below w.heap.size w w1 := ((Below.refl _ w).alloc (Nat.le_refl _) _).trans (hb1.mono (by simp))
    have hs1 := hb1.size
    simp at hs1
    have q0 : w1.cell? ⟨w.heap.size, 0, none⟩ = some (.slice A0b x0b.length c0b) := by rw [hb1.cell (by simp)]; go_simp
    have q1 : w1.cell? ⟨w.heap.size, 1, none⟩ = some (.slice A0t x0t.length c0t) := by rw [hb1.cell (by simp)]; go_simp
    have q2 : w1.cell? ⟨w.heap.size, 2, none⟩ = some (.int .i64 n0) := by rw [hb1.cell (by simp)]; go_simp
    have hbr := (hb.below hbw).more hbw.size
    have htr := (ht.below hbw).more hbw.size
    clear hc
    go_wp2_with fail
    go_ret2
    exact ⟨rfl, hbw⟩
  · have HP : Hid (lbP x0b x0t n0 = (sm x0b, 0)) := Lib.hid (by simp [lbP, hv])
    rw [HP.out]
    obtain ⟨_, h1, _⟩ := vsB_parts hv
    obtain ⟨⟨_, h2⟩, _⟩ := vs_sum hv
    have hc := implValidScaffold_any A0b c0b x0b A0t c0t x0t n0 (w.alloc (.cells #[.slice A0b x0b.length c0b, .slice A0t x0t.length c0t, .int .i64 n0] 30)) (hb.al _) (ht.al _)
    rw [hv] at hc
    have hl1 := hb.len63
    have hl2 := ht.len63
    go_enter Try.func13, Try.ntmps13
    go_wp2_with fail
    refine hc.mono ?_
    rintro e w1 ⟨rfl, hb1⟩
    have hbw : Below w.heap.size w w1 := ((Below.refl _ w).alloc (Nat.le_refl _) _).trans (hb1.mono (by simp))
    have hs1 := hb1.size
    simp at hs1
    have q0 : w1.cell? ⟨w.heap.size, 0, none⟩ = some (.slice A0b x0b.length c0b) := by rw [hb1.cell (by simp)]; go_simp
    have q1 : w1.cell? ⟨w.heap.size, 1, none⟩ = some (.slice A0t x0t.length c0t) := by rw [hb1.cell (by simp)]; go_simp
    have q2 : w1.cell? ⟨w.heap.size, 2, none⟩ = some (.int .i64 n0) := by rw [hb1.cell (by simp)]; go_simp
    have hbr := (hb.below hbw).more hbw.size
    have htr := (ht.below hbw).more hbw.size
    clear hc
    go_wp2_with fail
    refine (sumOf_any A0b c0b x0b _ _ hbr (fun x hx => by have := h1 x hx; omega) (by omega)).mono ?_
    rintro e w2 ⟨rfl, rfl⟩
    go_wp2_with fail
    go_ret2
    exact ⟨rfl, hbw⟩
theorem specLengthOfBays_any (A0b : Option Addr) (c0b : Nat) (x0b : List Int) (A0t : Option Addr) (c0t : Nat) (x0t : List Int) (n0 : Int) (w : World) (hb : Rd LI w w.heap.size A0b c0b x0b) (ht : Rd LI w w.heap.size A0t c0t x0t) :
    Calls Try.prog 14 #[.agg #[.slice A0b x0b.length c0b, .slice A0t x0t.length c0t, .int .i64 n0]] w fun e w' => e = .returned (.tuple #[.int .i64 (lbP x0b x0t n0).1, .int .i64 (lbP x0b x0t n0).2]) ∧ Below w.heap.size w w' := by
  cases hv : vsB x0b x0t n0
  · have HP : Hid (lbP x0b x0t n0 = (0, 1)) := Lib.hid (by simp [lbP, hv])
    rw [HP.out]
    have hc := l22Ok_any A0b c0b x0b A0t c0t x0t n0 w.heap.size (w.alloc (.cells #[.slice A0b x0b.length c0b, .slice A0t x0t.length c0t, .int .i64 n0] 30)) (hb.al _) (ht.al _) (by go_simp) (by go_simp) (by go_simp)
    rw [hv] at hc
    have hl1 := hb.len63
    have hl2 := ht.len63
    have hbw : Below w.heap.size w (w.alloc (.cells #[.slice A0b x0b.length c0b, .slice A0t x0t.length c0t, .int .i64 n0] 30)) := (Below.refl _ w).alloc (Nat.le_refl _) _
    have hbr : Rd LI (w.alloc (.cells #[.slice A0b x0b.length c0b, .slice A0t x0t.length c0t, .int .i64 n0] 30)) (w.alloc (.cells #[.slice A0b x0b.length c0b, .slice A0t x0t.length c0t, .int .i64 n0] 30)).heap.size A0b c0b x0b := hb.al _
    have htr : Rd LI (w.alloc (.cells #[.slice A0b x0b.length c0b, .slice A0t x0t.length c0t, .int .i64 n0] 30)) (w.alloc (.cells #[.slice A0b x0b.length c0b, .slice A0t x0t.length c0t, .int .i64 n0] 30)).heap.size A0t c0t x0t := ht.al _
    go_enter Try.func14, Try.ntmps14
    go_wp2_with fail
    refine hc.mono ?_
    rintro e w1 ⟨rfl, rfl⟩
    clear hc
    go_wp2_with fail
    go_ret2
    exact ⟨rfl, hbw⟩
  · have HP : Hid (lbP x0b x0t n0 = (sm x0b, 0)) := Lib.hid (by simp [lbP, hv])
    rw [HP.out]
    obtain ⟨_, h1, _⟩ := vsB_parts hv
    obtain ⟨⟨_, h2⟩, _⟩ := vs_sum hv
    have hc := l22Ok_any A0b c0b x0b A0t c0t x0t n0 w.heap.size (w.alloc (.cells #[.slice A0b x0b.length c0b, .slice A0t x0t.length c0t, .int .i64 n0] 30)) (hb.al _) (ht.al _) (by go_simp) (by go_simp) (by go_simp)
    rw [hv] at hc
    have hl1 := hb.len63
    have hl2 := ht.len63
    have hbw : Below w.heap.size w (w.alloc (.cells #[.slice A0b x0b.length c0b, .slice A0t x0t.length c0t, .int .i64 n0] 30)) := (Below.refl _ w).alloc (Nat.le_refl _) _
    have hbr : Rd LI (w.alloc (.cells #[.slice A0b x0b.length c0b, .slice A0t x0t.length c0t, .int .i64 n0] 30)) (w.alloc (.cells #[.slice A0b x0b.length c0b, .slice A0t x0t.length c0t, .int .i64 n0] 30)).heap.size A0b c0b x0b := hb.al _
    have htr : Rd LI (w.alloc (.cells #[.slice A0b x0b.length c0b, .slice A0t x0t.length c0t, .int .i64 n0] 30)) (w.alloc (.cells #[.slice A0b x0b.length c0b, .slice A0t x0t.length c0t, .int .i64 n0] 30)).heap.size A0t c0t x0t := ht.al _
    go_enter Try.func14, Try.ntmps14
    go_wp2_with fail
    refine hc.mono ?_
    rintro e w1 ⟨rfl, rfl⟩
    clear hc
    go_wp2_with fail
    refine (l22Sum_any A0b c0b x0b _ _ hbr (fun x hx => by have := h1 x hx; omega) (by omega)).mono ?_
    rintro e w2 ⟨rfl, rfl⟩
    go_wp2_with fail
    go_ret2
    exact ⟨rfl, hbw⟩


end Go.Proofs.Ytamhkiakplmlmaa
