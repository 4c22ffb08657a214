/-
  Scaffolds in the laws: szScaffold, toScaffold, eqScaffold.
-/
import Derived.Test.YtgoboklahocfhaaDoorScaf
import Derived.Test.YtgoboklahocfhaaDoorNumSS
namespace Go.Proofs.YtgoboklahocfhaaDoor
open Go.ChangeShapes Go.WideShapes Go.RowKit

def szSc (left : Int) (b t : List Int) : Int := if (b.length : Int) ≤ left then (if (t.length : Int) ≤ left - b.length then left - b.length - t.length else -1) else -1
theorem szSc_yes {left : Int} {b t : List Int} (h0 : 0 ≤ left) (h : 0 ≤ szSc left b t) : (b.length : Int) ≤ left ∧ (t.length : Int) ≤ left ∧ szSc left b t ≤ left := by
  unfold szSc at h ⊢
  split at h
  · split at h
    · rw [if_pos (by omega), if_pos (by omega)]; omega
    · omega
  · omega

set_option maxHeartbeats 800000 in
theorem szScaffold_any (A0b : Option Addr) (c0b : Nat) (x0b : List Int) (A0t : Option Addr) (c0t : Nat) (x0t : List Int) (n0 : Int) (left : Int) (w : World) (hl1 : x0b.length ≤ 9223372036854775807) (hl2 : x0t.length ≤ 9223372036854775807) (h0 : 0 ≤ left) (h1 : left ≤ 1048576) :
    Calls Tryd.prog 16 #[.agg #[.slice A0b x0b.length c0b, .slice A0t x0t.length c0t, .int .i64 n0], .int .i64 left] w fun e w' => e = .returned (.int .i64 (szSc left x0b x0t)) ∧ Below w.heap.size w w' := by
  have hb0 : Below w.heap.size w (w.alloc (.cells #[.slice A0b x0b.length c0b, .slice A0t x0t.length c0t, .int .i64 n0] 38)) := (Below.refl _ _).alloc (Nat.le_refl _) _
  have hc := fun w => szInt64S_any A0b c0b x0b.length left w h0 h1 hl1
  by_cases hb : (x0b.length : Int) ≤ left
  · simp only [if_pos hb] at hc
    have hc2 := fun w => szInt64S_any A0t c0t x0t.length (left - x0b.length) w (by omega) (by omega) hl2
    by_cases ht : (x0t.length : Int) ≤ left - x0b.length
    · simp only [if_pos ht] at hc2
      have HV : Hid (szSc left x0b x0t = left - x0b.length - x0t.length) := Lib.hid (by unfold szSc; rw [if_pos hb, if_pos ht])
      go_enter Tryd.func16, Tryd.ntmps16
      go_wp2_with fail
      refine (hc _).mono ?_
      rintro e w1 ⟨rfl, rfl⟩
      go_wp2_with fail
      refine (hc2 _).mono ?_
      rintro e w1 ⟨rfl, rfl⟩
      go_wp2_with fail
      go_ret
      exact ⟨ret_int HV.out.symm, hb0⟩
    · simp only [if_neg ht] at hc2
      have HV : Hid (szSc left x0b x0t = -1) := Lib.hid (by unfold szSc; rw [if_pos hb, if_neg ht])
      go_enter Tryd.func16, Tryd.ntmps16
      go_wp2_with fail
      refine (hc _).mono ?_
      rintro e w1 ⟨rfl, rfl⟩
      go_wp2_with fail
      refine (hc2 _).mono ?_
      rintro e w1 ⟨rfl, rfl⟩
      go_wp2_with fail
      go_ret
      exact ⟨ret_int HV.out.symm, hb0⟩
  · simp only [if_neg hb] at hc
    have HV : Hid (szSc left x0b x0t = -1) := Lib.hid (by unfold szSc; rw [if_neg hb])
    go_enter Tryd.func16, Tryd.ntmps16
    go_wp2_with fail
    refine (hc _).mono ?_
    rintro e w1 ⟨rfl, rfl⟩
    go_wp2_with fail
    go_ret
    exact ⟨ret_int HV.out.symm, hb0⟩

theorem toScaffold_any (A0b : Option Addr) (c0b : Nat) (x0b : List Int) (A0t : Option Addr) (c0t : Nat) (x0t : List Int) (n0 : Int) (w : World) (hb : Rd LI w w.heap.size A0b c0b x0b) (ht : Rd LI w w.heap.size A0t c0t x0t) (hn1 : x0b.length ≤ 1048576) (hn2 : x0t.length ≤ 1048576) :
    Calls Tryd.prog 18 #[.agg #[.slice A0b x0b.length c0b, .slice A0t x0t.length c0t, .int .i64 n0]] w fun e w' => ∃ B1 d1 B2 d2, e = .returned (.agg #[.slice B1 x0b.length d1, .slice B2 x0t.length d2, .int .i64 n0]) ∧ Own LI 2 w' w.heap.size B1 d1 x0b ∧ Own LI 2 w' w.heap.size B2 d2 x0t ∧ Ap B1 B2 ∧ Below w.heap.size w w' := by
  have hl1 := hb.len63
  have hl2 := ht.len63
  go_enter Tryd.func18, Tryd.ntmps18
  go_wp2_with fail
  refine (toInt64S_any A0b c0b x0b _ (((hb.al _).al _).al _) (by omega)).mono ?_
  rintro e w1 ⟨B1, d1, rfl, ho1, hb1⟩
  have hs1 := hb1.size
  simp at hs1
  have q0 : w1.cell? ⟨w.heap.size, 1, none⟩ = some (.slice A0t x0t.length c0t) := by rw [hb1.cell (by simp <;> omega)]; try go_simp
  have q1 : w1.cell? ⟨w.heap.size, 2, none⟩ = some (.int .i64 n0) := by rw [hb1.cell (by simp <;> omega)]; try go_simp
  have q2 : w1.cell? ⟨w.heap.size + 1 + 1, 0, none⟩ = some (.slice none 0 0) := by rw [hb1.cell (by simp)]; go_simp
  have q3 : w1.frozen? ⟨w.heap.size + 1 + 1, 0, none⟩ = false := by rw [hb1.frozen (by simp)]; go_simp
  have hbx : Below w.heap.size w (w1.setCell ⟨w.heap.size + 1 + 1, 0, none⟩ (.slice B1 x0b.length d1)) :=
    ((((((Below.refl _ w).alloc (Nat.le_refl _) _).alloc (by simp) _).alloc (by simp <;> omega) _).trans (hb1.mono (by simp <;> omega)))).setCell (by simp <;> omega) _
  go_wp2_with fail
  refine (toInt64S_any A0t c0t x0t _ ((ht.below hbx).more hbx.size) (by omega)).mono ?_
  rintro e w2 ⟨B2, d2, rfl, ho2, hb2⟩
  have hs2 := hb2.size
  simp at hs2
  have hlt1 : w.heap.size + 1 + 1 < w1.heap.size := by omega
  have r1 : w2.cell? ⟨w.heap.size, 2, none⟩ = some (.int .i64 n0) := by rw [hb2.cell (by simp <;> omega)]; go_simp
  have r2 : w2.cell? ⟨w.heap.size + 1 + 1, 0, none⟩ = some (.slice B1 x0b.length d1) := by rw [hb2.cell (by simp <;> omega)]; go_simp
  have r3 : w2.cell? ⟨w.heap.size + 1 + 1, 1, none⟩ = some (.slice none 0 0) := by rw [hb2.cell (by simp <;> omega), World.cell?_setCell_other _ _ _ _ (by simp), hb1.cell (by simp)]; go_simp
  have r4 : w2.cell? ⟨w.heap.size + 1 + 1, 2, none⟩ = some (.int .i64 0) := by rw [hb2.cell (by simp <;> omega), World.cell?_setCell_other _ _ _ _ (by simp), hb1.cell (by simp)]; go_simp
  have f3 : w2.frozen? ⟨w.heap.size + 1 + 1, 1, none⟩ = false := by rw [hb2.frozen (by simp <;> omega)]; go_simp; rw [hb1.frozen (by simp)]; go_simp
  have f4 : w2.frozen? ⟨w.heap.size + 1 + 1, 2, none⟩ = false := by rw [hb2.frozen (by simp <;> omega)]; go_simp; rw [hb1.frozen (by simp)]; go_simp
  have s0 : w2.cell? ⟨w.heap.size + 1, 0, none⟩ = some (.slice none 0 0) := by rw [hb2.cell (by simp <;> omega), World.cell?_setCell_other _ _ _ _ (by simp), hb1.cell (by simp <;> omega)]; try go_simp
  have s1 : w2.cell? ⟨w.heap.size + 1, 1, none⟩ = some (.slice none 0 0) := by rw [hb2.cell (by simp <;> omega), World.cell?_setCell_other _ _ _ _ (by simp), hb1.cell (by simp <;> omega)]; try go_simp
  have s2 : w2.cell? ⟨w.heap.size + 1, 2, none⟩ = some (.int .i64 0) := by rw [hb2.cell (by simp <;> omega), World.cell?_setCell_other _ _ _ _ (by simp), hb1.cell (by simp <;> omega)]; try go_simp
  have g0 : w2.frozen? ⟨w.heap.size + 1, 0, none⟩ = false := by rw [hb2.frozen (by simp <;> omega)]; go_simp; rw [hb1.frozen (by simp <;> omega)]; go_simp
  have g1 : w2.frozen? ⟨w.heap.size + 1, 1, none⟩ = false := by rw [hb2.frozen (by simp <;> omega)]; go_simp; rw [hb1.frozen (by simp <;> omega)]; go_simp
  have g2 : w2.frozen? ⟨w.heap.size + 1, 2, none⟩ = false := by rw [hb2.frozen (by simp <;> omega)]; go_simp; rw [hb1.frozen (by simp <;> omega)]; go_simp
  have hl1' := ho1.blk_lt
  have hl2' := ho2.blk_lt
  simp at hl1' hl2'
  have far1 : ∀ (b o : Nat), b ≤ w.heap.size + 1 + 1 → ∀ W, Own LI 2 W w.heap.size B1 d1 x0b → ∀ u, Own LI 2 (W.setCell ⟨b, o, none⟩ u) w.heap.size B1 d1 x0b :=
    fun b o hb W h u => h.setFar (fun e => by have := (hl1' b e).1; omega) u
  have far2 : ∀ (b o : Nat), b ≤ w.heap.size + 1 + 1 → ∀ W, Own LI 2 W w.heap.size B2 d2 x0t → ∀ u, Own LI 2 (W.setCell ⟨b, o, none⟩ u) w.heap.size B2 d2 x0t :=
    fun b o hb W h u => h.setFar (fun e => by have := (hl2' b e).1; omega) u
  have ho1' := (far1 (w.heap.size + 1 + 1) 0 (by omega) _ (ho1.lower (by simp <;> omega)) (.slice B1 x0b.length d1)).below hb2
  have ho2' : Own LI 2 w2 w.heap.size B2 d2 x0t := ho2.lower (by simp <;> omega)
  have hby : Below w.heap.size w w2 := hbx.trans (hb2.mono (by simp <;> omega))
  have hap : Ap B1 B2 := Ap.of_lt (b := w1.heap.size) (fun g hg => (hl1' g hg).2) (fun g hg => (hl2' g hg).1)
  go_wp2_with fail
  refine bodyPost_ret (v := .agg #[.slice B1 x0b.length d1, .slice B2 x0t.length d2, .int .i64 n0]) (by simp [results, Tryd.results18, go_sem, s0, s1, s2, g0, g1, g2]) rfl ⟨B1, d1, B2, d2, rfl, ?_, ?_, hap, ?_⟩
  · repeat (refine far1 _ _ (by omega) _ ?_ _)
    exact ho1'
  · repeat (refine far2 _ _ (by omega) _ ?_ _)
    exact ho2'
  · repeat (refine Below.setCell ?_ (by simp <;> omega) _)
    exact hby

set_option maxHeartbeats 1600000 in
theorem eqScaffold_any (A0b : Option Addr) (c0b : Nat) (x0b : List Int) (A0t : Option Addr) (c0t : Nat) (x0t : List Int) (n0 : Int) (A1b : Option Addr) (c1b : Nat) (A1t : Option Addr) (c1t : Nat) (w : World) (hb : Rd LI w w.heap.size A0b c0b x0b) (ht : Rd LI w w.heap.size A0t c0t x0t) (hb' : Rd LI w w.heap.size A1b c1b x0b) (ht' : Rd LI w w.heap.size A1t c1t x0t) :
    Calls Tryd.prog 20 #[.agg #[.slice A0b x0b.length c0b, .slice A0t x0t.length c0t, .int .i64 n0], .agg #[.slice A1b x0b.length c1b, .slice A1t x0t.length c1t, .int .i64 n0]] w fun e w' => e = .returned (.bool true) ∧ Below w.heap.size w w' := by
  go_enter Tryd.func20, Tryd.ntmps20
  go_wp2_with fail
  have hc := eqInt64S_quiet A0b A1b c0b c1b x0b x0b _ _ ((hb.al (.cells #[.slice A0b x0b.length c0b, .slice A0t x0t.length c0t, .int .i64 n0] 41)).al (.cells #[.slice A1b x0b.length c1b, .slice A1t x0t.length c1t, .int .i64 n0] 41)) ((hb'.al _).al _)
  rw [eqB_self] at hc
  refine hc.mono ?_
  rintro e w1 ⟨rfl, nq, rfl⟩
  go_wp2_with fail
  have hc2 := eqInt64S_quiet A0t A1t c0t c1t x0t x0t _ _ (((ht.al (.cells #[.slice A0b x0b.length c0b, .slice A0t x0t.length c0t, .int .i64 n0] 41)).al (.cells #[.slice A1b x0b.length c1b, .slice A1t x0t.length c1t, .int .i64 n0] 41)).drewN nq) (((ht'.al _).al _).drewN nq)
  rw [eqB_self] at hc2
  refine hc2.mono ?_
  rintro e w1 ⟨rfl, nq2, rfl⟩
  go_wp2_with fail
  go_ret
  exact ⟨rfl, below_drewN (((Below.refl _ _).alloc (Nat.le_refl _) _).alloc (by simp) _) _⟩
end Go.Proofs.YtgoboklahocfhaaDoor
