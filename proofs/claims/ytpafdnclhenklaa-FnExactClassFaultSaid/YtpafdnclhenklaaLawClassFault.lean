/-
  FnExactClassFault returns true for every argument: the walk.
-/
import Derived.Test.YtpafdnclhenklaaTestedC
import Derived.Deep.RegionHeld3
namespace Go.Proofs.Ytpafdnclhenklaa
open Go.ChangeShapes Go.WideShapes Go.RowKit

set_option maxRecDepth 100000 in
set_option maxHeartbeats 3200000 in
theorem lawClassFault_any (A0 : Option Addr) (c0 : Nat) (x0 : List TestedD) (f1_0 : ByteArray) (f1_1 : Int) (f1_2 : Int) (f1_3 : Int) (w : World) (hr0 : Rd LTested w w.heap.size A0 c0 x0) (_hi0 : ∀ n ∈ x0, OkTested n) (_hi1 : OkClass (f1_0, f1_1, f1_2, f1_3)) :
    Calls Try.prog 4 #[.slice A0 x0.length c0, .agg #[.string f1_0, .int .i64 f1_1, .int .i64 f1_2, .int .i64 f1_3]] w fun e w' => e = .returned (.bool true) ∧ Below w.heap.size w w' := by
  have hlen0 := hr0.len63
  by_cases hz0 : 0 ≤ (szN 1048576 x0.length)
  rotate_left
  · skip
    have hneg : (szN 1048576 x0.length) < 0 := by omega
    go_enter Try.func4, Try.ntmps4
    go_wp2_with fail
    refine (szTestedS_any A0 c0 x0.length _ _ (by omega) (by omega) hlen0).mono ?_
    rintro e wx ⟨rfl, rfl⟩
    go_wp2_with fail
    go_ret
    exact ⟨rfl, ((Below.refl w.heap.size w).alloc (Nat.le_refl _) _)⟩
  obtain ⟨hu0a, hu0c⟩ := szN_yes (by omega) hz0
  by_cases hz1 : 0 ≤ (szN (szN 1048576 x0.length) f1_0.size)
  rotate_left
  · skip
    have hneg : (szN (szN 1048576 x0.length) f1_0.size) < 0 := by omega
    go_enter Try.func4, Try.ntmps4
    go_wp2_with fail
    refine (szTestedS_any A0 c0 x0.length _ _ (by omega) (by omega) hlen0).mono ?_
    rintro e wx ⟨rfl, rfl⟩
    go_wp2_with fail
    refine (szClass_any f1_0 f1_1 f1_2 f1_3 _ _ (by omega) (by omega) _hi1).mono ?_
    rintro e w1 ⟨rfl, hc1⟩
    have hb1 := bthen ((Below.refl w.heap.size w).alloc (Nat.le_refl _) _) (Nat.le_refl _) hc1
    have hs1 := hc1.size
    (try simp at hs1)
    have hx1_0 := bthen (Below.refl (w.alloc (.cells #[.string f1_0, .int .i64 f1_1, .int .i64 f1_2, .int .i64 f1_3] 36)).heap.size (w.alloc (.cells #[.string f1_0, .int .i64 f1_1, .int .i64 f1_2, .int .i64 f1_3] 36))) (Nat.le_refl _) hc1
    have hy1_0 := hx1_0.size
    simp at hy1_0
    have k1_0_0 : w1.cell? ⟨w.heap.size, 0, none⟩ = some (.string f1_0) := by rw [hx1_0.cell (by simp <;> omega)]; try go_simp
    have k1_0_1 : w1.cell? ⟨w.heap.size, 1, none⟩ = some (.int .i64 f1_1) := by rw [hx1_0.cell (by simp <;> omega)]; try go_simp
    have k1_0_2 : w1.cell? ⟨w.heap.size, 2, none⟩ = some (.int .i64 f1_2) := by rw [hx1_0.cell (by simp <;> omega)]; try go_simp
    have k1_0_3 : w1.cell? ⟨w.heap.size, 3, none⟩ = some (.int .i64 f1_3) := by rw [hx1_0.cell (by simp <;> omega)]; try go_simp
    have kl1_0 : w.heap.size < w1.heap.size := by omega
    go_wp2_with fail
    go_ret
    exact ⟨rfl, hb1⟩
  obtain ⟨hu1a, hu1c⟩ := szN_yes (by omega) hz1
  go_enter Try.func4, Try.ntmps4
  go_wp2_with fail
  refine (szTestedS_any A0 c0 x0.length _ _ (by omega) (by omega) hlen0).mono ?_
  rintro e wx ⟨rfl, rfl⟩
  go_wp2_with fail
  refine (szClass_any f1_0 f1_1 f1_2 f1_3 _ _ (by omega) (by omega) _hi1).mono ?_
  rintro e w1 ⟨rfl, hc1⟩
  have hb1 := bthen ((Below.refl w.heap.size w).alloc (Nat.le_refl _) _) (Nat.le_refl _) hc1
  have hs1 := hc1.size
  (try simp at hs1)
  have hx1_0 := bthen (Below.refl (w.alloc (.cells #[.string f1_0, .int .i64 f1_1, .int .i64 f1_2, .int .i64 f1_3] 36)).heap.size (w.alloc (.cells #[.string f1_0, .int .i64 f1_1, .int .i64 f1_2, .int .i64 f1_3] 36))) (Nat.le_refl _) hc1
  have hy1_0 := hx1_0.size
  simp at hy1_0
  have k1_0_0 : w1.cell? ⟨w.heap.size, 0, none⟩ = some (.string f1_0) := by rw [hx1_0.cell (by simp <;> omega)]; try go_simp
  have k1_0_1 : w1.cell? ⟨w.heap.size, 1, none⟩ = some (.int .i64 f1_1) := by rw [hx1_0.cell (by simp <;> omega)]; try go_simp
  have k1_0_2 : w1.cell? ⟨w.heap.size, 2, none⟩ = some (.int .i64 f1_2) := by rw [hx1_0.cell (by simp <;> omega)]; try go_simp
  have k1_0_3 : w1.cell? ⟨w.heap.size, 3, none⟩ = some (.int .i64 f1_3) := by rw [hx1_0.cell (by simp <;> omega)]; try go_simp
  have kl1_0 : w.heap.size < w1.heap.size := by omega
  go_wp2_with fail
  go_region_held3 (fun W => W.cell? ⟨w.heap.size, 0, none⟩ = some (.string f1_0) ∧ W.cell? ⟨w.heap.size, 1, none⟩ = some (.int .i64 f1_1) ∧ W.cell? ⟨w.heap.size, 2, none⟩ = some (.int .i64 f1_2) ∧ W.cell? ⟨w.heap.size, 3, none⟩ = some (.int .i64 f1_3))
    (first | go_keep | (go_split_ands; refine ⟨?_, ?_, ?_, ?_⟩ <;> (refine (hc2.cell ?_).trans ?_; (focus (simp <;> omega)); assumption)) | (go_split_ands; refine ⟨?_, ?_, ?_, ?_⟩ <;> (refine (hc3.cell ?_).trans ?_; (focus (simp <;> omega)); assumption)) | (go_split_ands; refine ⟨?_, ?_, ?_, ?_⟩ <;> (refine (hc4.cell ?_).trans ?_; (focus (simp <;> omega)); assumption)))
    ((first
      | (go_at_call 20; (with_reducible refine (toTestedS_any A0 c0 x0 _ ((hr0.below hb1).more hb1.size).drew (by omega)).mono ?_); rintro e w2 ⟨B2, d2, rfl, ho2, hc2⟩; have hl2 := ho2.blk_lt; have hb2 := bthen hb1.drew (Nat.le_refl _) hc2; have hs2 := hc2.size; (try simp at hs2))
      | (go_at_call 21; (with_reducible refine (toClass_any f1_0 f1_1 f1_2 f1_3 _).mono ?_); rintro e w3 ⟨rfl, hc3⟩; have hb3 := bthen hb2 (Nat.le_refl _) hc3; have hs3 := hc3.size; (try simp at hs3); have ho2' := Own.below ho2 hc3)
      | (go_at_call 19; (with_reducible refine (specClassFault_any B2 d2 x0 f1_0 f1_1 f1_2 f1_3 _ (Own.rd ho2') _hi1).mono ?_); rintro e w4 ⟨rfl, hc4⟩; have hb4 := bthen hb3 (Nat.le_refl _) hc4; have hs4 := hc4.size; (try simp at hs4); have ho2'' := Own.below ho2' hc4)))
  have hx2_0 := bthen hx1_0.drew (Nat.le_refl _) hc2
  have hx3_0 := bthen hx2_0 (Nat.le_refl _) hc3
  have hx4_0 := bthen hx3_0 (Nat.le_refl _) hc4
  have hy4_0 := hx4_0.size
  simp at hy4_0
  clear k1_0_0 k1_0_1 k1_0_2 k1_0_3 kl1_0
  have k4_0_0 : w4.cell? ⟨w.heap.size, 0, none⟩ = some (.string f1_0) := by rw [hx4_0.cell (by simp <;> omega)]; try go_simp
  have k4_0_1 : w4.cell? ⟨w.heap.size, 1, none⟩ = some (.int .i64 f1_1) := by rw [hx4_0.cell (by simp <;> omega)]; try go_simp
  have k4_0_2 : w4.cell? ⟨w.heap.size, 2, none⟩ = some (.int .i64 f1_2) := by rw [hx4_0.cell (by simp <;> omega)]; try go_simp
  have k4_0_3 : w4.cell? ⟨w.heap.size, 3, none⟩ = some (.int .i64 f1_3) := by rw [hx4_0.cell (by simp <;> omega)]; try go_simp
  have kl4_0 : w.heap.size < w4.heap.size := by omega
  clear ho2''
  go_wp2_with fail
  refine (toTestedS_any A0 c0 x0 _ ((hr0.below hb4).more hb4.size) (by omega)).mono ?_
  rintro e w5 ⟨B5, d5, rfl, ho5, hc5⟩
  have hl5 := ho5.blk_lt
  have hb5 := bthen hb4 (Nat.le_refl _) hc5
  have hs5 := hc5.size
  (try simp at hs5)
  have hx5_0 := bthen hx4_0 (Nat.le_refl _) hc5
  have hy5_0 := hx5_0.size
  simp at hy5_0
  clear k4_0_0 k4_0_1 k4_0_2 k4_0_3 kl4_0
  have k5_0_0 : w5.cell? ⟨w.heap.size, 0, none⟩ = some (.string f1_0) := by rw [hx5_0.cell (by simp <;> omega)]; try go_simp
  have k5_0_1 : w5.cell? ⟨w.heap.size, 1, none⟩ = some (.int .i64 f1_1) := by rw [hx5_0.cell (by simp <;> omega)]; try go_simp
  have k5_0_2 : w5.cell? ⟨w.heap.size, 2, none⟩ = some (.int .i64 f1_2) := by rw [hx5_0.cell (by simp <;> omega)]; try go_simp
  have k5_0_3 : w5.cell? ⟨w.heap.size, 3, none⟩ = some (.int .i64 f1_3) := by rw [hx5_0.cell (by simp <;> omega)]; try go_simp
  have kl5_0 : w.heap.size < w5.heap.size := by omega
  go_wp2_with fail
  refine (toClass_any f1_0 f1_1 f1_2 f1_3 _).mono ?_
  rintro e w6 ⟨rfl, hc6⟩
  have hb6 := bthen hb5 (Nat.le_refl _) hc6
  have hs6 := hc6.size
  (try simp at hs6)
  have hx6_0 := bthen hx5_0 (Nat.le_refl _) hc6
  have hy6_0 := hx6_0.size
  simp at hy6_0
  have ho5' := Own.below ho5 hc6
  clear k5_0_0 k5_0_1 k5_0_2 k5_0_3 kl5_0
  have k6_0_0 : w6.cell? ⟨w.heap.size, 0, none⟩ = some (.string f1_0) := by rw [hx6_0.cell (by simp <;> omega)]; try go_simp
  have k6_0_1 : w6.cell? ⟨w.heap.size, 1, none⟩ = some (.int .i64 f1_1) := by rw [hx6_0.cell (by simp <;> omega)]; try go_simp
  have k6_0_2 : w6.cell? ⟨w.heap.size, 2, none⟩ = some (.int .i64 f1_2) := by rw [hx6_0.cell (by simp <;> omega)]; try go_simp
  have k6_0_3 : w6.cell? ⟨w.heap.size, 3, none⟩ = some (.int .i64 f1_3) := by rw [hx6_0.cell (by simp <;> omega)]; try go_simp
  have kl6_0 : w.heap.size < w6.heap.size := by omega
  go_wp2_with fail
  refine (implClassFault_any B5 d5 x0 f1_0 f1_1 f1_2 f1_3 _ (Own.rd ho5') _hi1).mono ?_
  rintro e w7 ⟨rfl, hc7⟩
  have hb7 := bthen hb6 (Nat.le_refl _) hc7
  have hs7 := hc7.size
  (try simp at hs7)
  have hx7_0 := bthen hx6_0 (Nat.le_refl _) hc7
  have hy7_0 := hx7_0.size
  simp at hy7_0
  have ho5'' := Own.below ho5' hc7
  clear k6_0_0 k6_0_1 k6_0_2 k6_0_3 kl6_0
  have k7_0_0 : w7.cell? ⟨w.heap.size, 0, none⟩ = some (.string f1_0) := by rw [hx7_0.cell (by simp <;> omega)]; try go_simp
  have k7_0_1 : w7.cell? ⟨w.heap.size, 1, none⟩ = some (.int .i64 f1_1) := by rw [hx7_0.cell (by simp <;> omega)]; try go_simp
  have k7_0_2 : w7.cell? ⟨w.heap.size, 2, none⟩ = some (.int .i64 f1_2) := by rw [hx7_0.cell (by simp <;> omega)]; try go_simp
  have k7_0_3 : w7.cell? ⟨w.heap.size, 3, none⟩ = some (.int .i64 f1_3) := by rw [hx7_0.cell (by simp <;> omega)]; try go_simp
  have kl7_0 : w.heap.size < w7.heap.size := by omega
  go_wp2_with fail
  refine (toTestedS_any A0 c0 x0 _ ((hr0.below hb7).more hb7.size) (by omega)).mono ?_
  rintro e w8 ⟨B8, d8, rfl, ho8, hc8⟩
  have hl8 := ho8.blk_lt
  have hb8 := bthen hb7 (Nat.le_refl _) hc8
  have hs8 := hc8.size
  (try simp at hs8)
  have hx8_0 := bthen hx7_0 (Nat.le_refl _) hc8
  have hy8_0 := hx8_0.size
  simp at hy8_0
  have ho5''' := Own.below ho5'' hc8
  clear k7_0_0 k7_0_1 k7_0_2 k7_0_3 kl7_0
  have k8_0_0 : w8.cell? ⟨w.heap.size, 0, none⟩ = some (.string f1_0) := by rw [hx8_0.cell (by simp <;> omega)]; try go_simp
  have k8_0_1 : w8.cell? ⟨w.heap.size, 1, none⟩ = some (.int .i64 f1_1) := by rw [hx8_0.cell (by simp <;> omega)]; try go_simp
  have k8_0_2 : w8.cell? ⟨w.heap.size, 2, none⟩ = some (.int .i64 f1_2) := by rw [hx8_0.cell (by simp <;> omega)]; try go_simp
  have k8_0_3 : w8.cell? ⟨w.heap.size, 3, none⟩ = some (.int .i64 f1_3) := by rw [hx8_0.cell (by simp <;> omega)]; try go_simp
  have kl8_0 : w.heap.size < w8.heap.size := by omega
  go_wp2_with fail
  refine (eqTestedS_same B5 d5 B8 d8 _ _ (Own.rd ho5''') (Own.rd ho8)).mono ?_
  rintro e w9 ⟨rfl, hc9⟩
  have hb9 := bthen hb8 (Nat.le_refl _) hc9
  have hs9 := hc9.size
  (try simp at hs9)
  have hx9_0 := bthen hx8_0 (Nat.le_refl _) hc9
  have hy9_0 := hx9_0.size
  simp at hy9_0
  have ho5'''' := Own.below ho5''' hc9
  have ho8' := Own.below ho8 hc9
  clear k8_0_0 k8_0_1 k8_0_2 k8_0_3 kl8_0
  have k9_0_0 : w9.cell? ⟨w.heap.size, 0, none⟩ = some (.string f1_0) := by rw [hx9_0.cell (by simp <;> omega)]; try go_simp
  have k9_0_1 : w9.cell? ⟨w.heap.size, 1, none⟩ = some (.int .i64 f1_1) := by rw [hx9_0.cell (by simp <;> omega)]; try go_simp
  have k9_0_2 : w9.cell? ⟨w.heap.size, 2, none⟩ = some (.int .i64 f1_2) := by rw [hx9_0.cell (by simp <;> omega)]; try go_simp
  have k9_0_3 : w9.cell? ⟨w.heap.size, 3, none⟩ = some (.int .i64 f1_3) := by rw [hx9_0.cell (by simp <;> omega)]; try go_simp
  have kl9_0 : w.heap.size < w9.heap.size := by omega
  clear ho8'
  go_wp2_with fail
  go_ret
  exact ⟨rfl, hb9⟩
end Go.Proofs.Ytpafdnclhenklaa
