/-
  FnExactHandText returns true for every argument: the walk.
-/
import Derived.Test.YtgoboklahocfhaaDoorHandX
import Derived.Test.YtgoboklahocfhaaDoorOpen
import Derived.Test.YtgoboklahocfhaaDoorOpenHand
import Derived.Deep.RegionHeld3
namespace Go.Proofs.YtgoboklahocfhaaDoor
open Go.ChangeShapes Go.WideShapes Go.RowKit

set_option maxRecDepth 100000 in
set_option maxHeartbeats 3200000 in
theorem lawHandText_any (f0_0 : ByteArray) (f0_1 : Int) (f0_2 : Bool) (w : World) (_hi0 : OkHand (f0_0, f0_1, f0_2)) :
    Calls Tryd.prog 3 #[.agg #[.string f0_0, .int .i64 f0_1, .bool f0_2]] w fun e w' => e = .returned (.bool true) ∧ Below w.heap.size w w' := by
  by_cases hz0 : 0 ≤ (szN 1048576 f0_0.size)
  rotate_left
  · skip
    have hneg : (szN 1048576 f0_0.size) < 0 := by omega
    go_enter Tryd.func3, Tryd.ntmps3
    go_wp2_with fail
    refine (szHand_any f0_0 f0_1 f0_2 _ _ (by omega) (by omega) _hi0).mono ?_
    rintro e w1 ⟨rfl, hc1⟩
    have hb1 := bthen ((Below.refl w.heap.size w).alloc (Nat.le_refl _) _) (Nat.le_refl _) hc1
    have hs1 := hc1.size
    (try simp at hs1)
    have hx1_0 := bthen (Below.refl (w.alloc (.cells #[.string f0_0, .int .i64 f0_1, .bool f0_2] 23)).heap.size (w.alloc (.cells #[.string f0_0, .int .i64 f0_1, .bool f0_2] 23))) (Nat.le_refl _) hc1
    have hy1_0 := hx1_0.size
    (try simp at hy1_0)
    have k1_0_0 : w1.cell? ⟨w.heap.size, 0, none⟩ = some (.string f0_0) := by rw [hx1_0.cell (by simp <;> omega)]; try go_simp
    have k1_0_1 : w1.cell? ⟨w.heap.size, 1, none⟩ = some (.int .i64 f0_1) := by rw [hx1_0.cell (by simp <;> omega)]; try go_simp
    have k1_0_2 : w1.cell? ⟨w.heap.size, 2, none⟩ = some (.bool f0_2) := by rw [hx1_0.cell (by simp <;> omega)]; try go_simp
    have kl1_0 : w.heap.size < w1.heap.size := by omega
    go_wp2_with fail
    go_ret
    exact ⟨rfl, hb1⟩
  obtain ⟨hu0a, hu0c⟩ := szN_yes (by omega) hz0
  go_enter Tryd.func3, Tryd.ntmps3
  go_wp2_with fail
  refine (szHand_any f0_0 f0_1 f0_2 _ _ (by omega) (by omega) _hi0).mono ?_
  rintro e w1 ⟨rfl, hc1⟩
  have hb1 := bthen ((Below.refl w.heap.size w).alloc (Nat.le_refl _) _) (Nat.le_refl _) hc1
  have hs1 := hc1.size
  (try simp at hs1)
  have hx1_0 := bthen (Below.refl (w.alloc (.cells #[.string f0_0, .int .i64 f0_1, .bool f0_2] 23)).heap.size (w.alloc (.cells #[.string f0_0, .int .i64 f0_1, .bool f0_2] 23))) (Nat.le_refl _) hc1
  have hy1_0 := hx1_0.size
  (try simp at hy1_0)
  have k1_0_0 : w1.cell? ⟨w.heap.size, 0, none⟩ = some (.string f0_0) := by rw [hx1_0.cell (by simp <;> omega)]; try go_simp
  have k1_0_1 : w1.cell? ⟨w.heap.size, 1, none⟩ = some (.int .i64 f0_1) := by rw [hx1_0.cell (by simp <;> omega)]; try go_simp
  have k1_0_2 : w1.cell? ⟨w.heap.size, 2, none⟩ = some (.bool f0_2) := by rw [hx1_0.cell (by simp <;> omega)]; try go_simp
  have kl1_0 : w.heap.size < w1.heap.size := by omega
  go_wp2_with fail
  refine (toHand_any f0_0 f0_1 f0_2 _).mono ?_
  rintro e w2 ⟨rfl, hc2⟩
  have hb2 := bthen hb1 (Nat.le_refl _) hc2
  have hs2 := hc2.size
  (try simp at hs2)
  have hx2_0 := bthen hx1_0 (Nat.le_refl _) hc2
  have hy2_0 := hx2_0.size
  (try simp at hy2_0)
  clear k1_0_0 k1_0_1 k1_0_2 kl1_0
  have k2_0_0 : w2.cell? ⟨w.heap.size, 0, none⟩ = some (.string f0_0) := by rw [hx2_0.cell (by simp <;> omega)]; try go_simp
  have k2_0_1 : w2.cell? ⟨w.heap.size, 1, none⟩ = some (.int .i64 f0_1) := by rw [hx2_0.cell (by simp <;> omega)]; try go_simp
  have k2_0_2 : w2.cell? ⟨w.heap.size, 2, none⟩ = some (.bool f0_2) := by rw [hx2_0.cell (by simp <;> omega)]; try go_simp
  have kl2_0 : w.heap.size < w2.heap.size := by omega
  go_wp2_with fail
  refine (specHandText_any f0_0 f0_1 f0_2 _ (by omega)).mono ?_
  rintro e w3 ⟨rfl, hc3⟩
  have hb3 := bthen hb2 (Nat.le_refl _) hc3
  have hs3 := hc3.size
  (try simp at hs3)
  have hx3_0 := bthen hx2_0 (Nat.le_refl _) hc3
  have hy3_0 := hx3_0.size
  (try simp at hy3_0)
  clear k2_0_0 k2_0_1 k2_0_2 kl2_0
  have k3_0_0 : w3.cell? ⟨w.heap.size, 0, none⟩ = some (.string f0_0) := by rw [hx3_0.cell (by simp <;> omega)]; try go_simp
  have k3_0_1 : w3.cell? ⟨w.heap.size, 1, none⟩ = some (.int .i64 f0_1) := by rw [hx3_0.cell (by simp <;> omega)]; try go_simp
  have k3_0_2 : w3.cell? ⟨w.heap.size, 2, none⟩ = some (.bool f0_2) := by rw [hx3_0.cell (by simp <;> omega)]; try go_simp
  have kl3_0 : w.heap.size < w3.heap.size := by omega
  go_wp2_with fail
  refine (toHand_any f0_0 f0_1 f0_2 _).mono ?_
  rintro e w4 ⟨rfl, hc4⟩
  have hb4 := bthen hb3 (Nat.le_refl _) hc4
  have hs4 := hc4.size
  (try simp at hs4)
  have hx4_0 := bthen hx3_0 (Nat.le_refl _) hc4
  have hy4_0 := hx4_0.size
  (try simp at hy4_0)
  clear k3_0_0 k3_0_1 k3_0_2 kl3_0
  have k4_0_0 : w4.cell? ⟨w.heap.size, 0, none⟩ = some (.string f0_0) := by rw [hx4_0.cell (by simp <;> omega)]; try go_simp
  have k4_0_1 : w4.cell? ⟨w.heap.size, 1, none⟩ = some (.int .i64 f0_1) := by rw [hx4_0.cell (by simp <;> omega)]; try go_simp
  have k4_0_2 : w4.cell? ⟨w.heap.size, 2, none⟩ = some (.bool f0_2) := by rw [hx4_0.cell (by simp <;> omega)]; try go_simp
  have kl4_0 : w.heap.size < w4.heap.size := by omega
  go_wp2_with fail
  refine (implHandText_any f0_0 f0_1 f0_2 _ (by omega)).mono ?_
  rintro e w5 ⟨rfl, hc5⟩
  have hb5 := bthen hb4 (Nat.le_refl _) hc5
  have hs5 := hc5.size
  (try simp at hs5)
  have hx5_0 := bthen hx4_0 (Nat.le_refl _) hc5
  have hy5_0 := hx5_0.size
  (try simp at hy5_0)
  clear k4_0_0 k4_0_1 k4_0_2 kl4_0
  have k5_0_0 : w5.cell? ⟨w.heap.size, 0, none⟩ = some (.string f0_0) := by rw [hx5_0.cell (by simp <;> omega)]; try go_simp
  have k5_0_1 : w5.cell? ⟨w.heap.size, 1, none⟩ = some (.int .i64 f0_1) := by rw [hx5_0.cell (by simp <;> omega)]; try go_simp
  have k5_0_2 : w5.cell? ⟨w.heap.size, 2, none⟩ = some (.bool f0_2) := by rw [hx5_0.cell (by simp <;> omega)]; try go_simp
  have kl5_0 : w.heap.size < w5.heap.size := by omega
  go_wp2_with fail
  go_ret
  exact ⟨rfl, hb5⟩
end Go.Proofs.YtgoboklahocfhaaDoor
