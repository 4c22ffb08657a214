/-
  FnExactOverloadOf returns true for every argument: the walk.
-/
import Derived.Test.YteaojbmfjlmggaaScafD
import Derived.Test.YteaojbmfjlmggaaScafLaw
import Derived.Test.YteaojbmfjlmggaaOpenSc
import Derived.Test.YteaojbmfjlmggaaOpenStand
import Derived.Deep.RegionHeld3
namespace Go.Proofs.Yteaojbmfjlmggaa
open Go.ChangeShapes Go.WideShapes Go.RowKit

set_option maxRecDepth 100000 in
set_option maxHeartbeats 3200000 in
theorem lawOverloadOf_any (A0b : Option Addr) (c0b : Nat) (x0b : List Int) (A0t : Option Addr) (c0t : Nat) (x0t : List Int) (n0 : Int) (A1 : Option Addr) (c1 : Nat) (x1 : List StandD) (w : World) (hr0b : Rd LI w w.heap.size A0b c0b x0b) (hr0t : Rd LI w w.heap.size A0t c0t x0t) (_hi0 : (∀ n ∈ x0b, I64 n) ∧ (∀ n ∈ x0t, I64 n) ∧ I64 n0) (hr1 : Rd LStand w w.heap.size A1 c1 x1) (_hi1 : ∀ n ∈ x1, OkStand n) :
    Calls Try.prog 12 #[.agg #[.slice A0b x0b.length c0b, .slice A0t x0t.length c0t, .int .i64 n0], .slice A1 x1.length c1] w fun e w' => e = .returned (.bool true) ∧ Below w.heap.size w w' := by
  have hlen0b := hr0b.len63
  have hlen0t := hr0t.len63
  have hlen1 := hr1.len63
  by_cases hz0 : 0 ≤ (szSc 1048576 x0b x0t)
  rotate_left
  · skip
    have hneg : (szSc 1048576 x0b x0t) < 0 := by omega
    go_enter Try.func12, Try.ntmps12
    go_wp2_with fail
    refine (szScaffold_any A0b c0b x0b A0t c0t x0t n0 1048576 _ hlen0b hlen0t (by omega) (by omega)).mono ?_
    rintro e w1 ⟨rfl, hc1⟩
    have hb1 := bthen ((Below.refl w.heap.size w).alloc (Nat.le_refl _) _) (Nat.le_refl _) hc1
    have hs1 := hc1.size
    (try simp at hs1)
    have hx1_0 := bthen (Below.refl (w.alloc (.cells #[.slice A0b x0b.length c0b, .slice A0t x0t.length c0t, .int .i64 n0] 24)).heap.size (w.alloc (.cells #[.slice A0b x0b.length c0b, .slice A0t x0t.length c0t, .int .i64 n0] 24))) (Nat.le_refl _) hc1
    have hy1_0 := hx1_0.size
    simp at hy1_0
    have k1_0_0 : w1.cell? ⟨w.heap.size, 0, none⟩ = some (.slice A0b x0b.length c0b) := by rw [hx1_0.cell (by simp <;> omega)]; try go_simp
    have k1_0_1 : w1.cell? ⟨w.heap.size, 1, none⟩ = some (.slice A0t x0t.length c0t) := by rw [hx1_0.cell (by simp <;> omega)]; try go_simp
    have k1_0_2 : w1.cell? ⟨w.heap.size, 2, none⟩ = some (.int .i64 n0) := by rw [hx1_0.cell (by simp <;> omega)]; try go_simp
    have kl1_0 : w.heap.size < w1.heap.size := by omega
    go_wp2_with fail
    go_ret
    exact ⟨rfl, hb1⟩
  obtain ⟨hu0a, hu0b, hu0c⟩ := szSc_yes (by omega) hz0
  by_cases hz1 : 0 ≤ (szN (szSc 1048576 x0b x0t) x1.length)
  rotate_left
  · skip
    have hneg : (szN (szSc 1048576 x0b x0t) x1.length) < 0 := by omega
    go_enter Try.func12, Try.ntmps12
    go_wp2_with fail
    refine (szScaffold_any A0b c0b x0b A0t c0t x0t n0 1048576 _ hlen0b hlen0t (by omega) (by omega)).mono ?_
    rintro e w1 ⟨rfl, hc1⟩
    have hb1 := bthen ((Below.refl w.heap.size w).alloc (Nat.le_refl _) _) (Nat.le_refl _) hc1
    have hs1 := hc1.size
    (try simp at hs1)
    have hx1_0 := bthen (Below.refl (w.alloc (.cells #[.slice A0b x0b.length c0b, .slice A0t x0t.length c0t, .int .i64 n0] 24)).heap.size (w.alloc (.cells #[.slice A0b x0b.length c0b, .slice A0t x0t.length c0t, .int .i64 n0] 24))) (Nat.le_refl _) hc1
    have hy1_0 := hx1_0.size
    simp at hy1_0
    have k1_0_0 : w1.cell? ⟨w.heap.size, 0, none⟩ = some (.slice A0b x0b.length c0b) := by rw [hx1_0.cell (by simp <;> omega)]; try go_simp
    have k1_0_1 : w1.cell? ⟨w.heap.size, 1, none⟩ = some (.slice A0t x0t.length c0t) := by rw [hx1_0.cell (by simp <;> omega)]; try go_simp
    have k1_0_2 : w1.cell? ⟨w.heap.size, 2, none⟩ = some (.int .i64 n0) := by rw [hx1_0.cell (by simp <;> omega)]; try go_simp
    have kl1_0 : w.heap.size < w1.heap.size := by omega
    go_wp2_with fail
    refine (szStandS_any A1 c1 x1.length _ _ (by omega) (by omega) hlen1).mono ?_
    rintro e wx ⟨rfl, rfl⟩
    go_wp2_with fail
    go_ret
    exact ⟨rfl, hb1⟩
  obtain ⟨hu1a, hu1c⟩ := szN_yes (by omega) hz1
  go_enter Try.func12, Try.ntmps12
  go_wp2_with fail
  refine (szScaffold_any A0b c0b x0b A0t c0t x0t n0 1048576 _ hlen0b hlen0t (by omega) (by omega)).mono ?_
  rintro e w1 ⟨rfl, hc1⟩
  have hb1 := bthen ((Below.refl w.heap.size w).alloc (Nat.le_refl _) _) (Nat.le_refl _) hc1
  have hs1 := hc1.size
  (try simp at hs1)
  have hx1_0 := bthen (Below.refl (w.alloc (.cells #[.slice A0b x0b.length c0b, .slice A0t x0t.length c0t, .int .i64 n0] 24)).heap.size (w.alloc (.cells #[.slice A0b x0b.length c0b, .slice A0t x0t.length c0t, .int .i64 n0] 24))) (Nat.le_refl _) hc1
  have hy1_0 := hx1_0.size
  simp at hy1_0
  have k1_0_0 : w1.cell? ⟨w.heap.size, 0, none⟩ = some (.slice A0b x0b.length c0b) := by rw [hx1_0.cell (by simp <;> omega)]; try go_simp
  have k1_0_1 : w1.cell? ⟨w.heap.size, 1, none⟩ = some (.slice A0t x0t.length c0t) := by rw [hx1_0.cell (by simp <;> omega)]; try go_simp
  have k1_0_2 : w1.cell? ⟨w.heap.size, 2, none⟩ = some (.int .i64 n0) := by rw [hx1_0.cell (by simp <;> omega)]; try go_simp
  have kl1_0 : w.heap.size < w1.heap.size := by omega
  go_wp2_with fail
  refine (szStandS_any A1 c1 x1.length _ _ (by omega) (by omega) hlen1).mono ?_
  rintro e wx ⟨rfl, rfl⟩
  go_wp2_with fail
  refine (toScaffold_any A0b c0b x0b A0t c0t x0t n0 _ ((hr0b.below hb1).more hb1.size) ((hr0t.below hb1).more hb1.size) (by omega) (by omega)).mono ?_
  rintro e w2 ⟨B2b, d2b, B2t, d2t, rfl, ho2b, ho2t, hap2, hc2⟩
  have hl2b := ho2b.blk_lt
  have hl2t := ho2t.blk_lt
  have hb2 := bthen hb1 (Nat.le_refl _) hc2
  have hs2 := hc2.size
  (try simp at hs2)
  have hx2_0 := bthen hx1_0 (Nat.le_refl _) hc2
  have hy2_0 := hx2_0.size
  simp at hy2_0
  clear k1_0_0 k1_0_1 k1_0_2 kl1_0
  have k2_0_0 : w2.cell? ⟨w.heap.size, 0, none⟩ = some (.slice A0b x0b.length c0b) := by rw [hx2_0.cell (by simp <;> omega)]; try go_simp
  have k2_0_1 : w2.cell? ⟨w.heap.size, 1, none⟩ = some (.slice A0t x0t.length c0t) := by rw [hx2_0.cell (by simp <;> omega)]; try go_simp
  have k2_0_2 : w2.cell? ⟨w.heap.size, 2, none⟩ = some (.int .i64 n0) := by rw [hx2_0.cell (by simp <;> omega)]; try go_simp
  have kl2_0 : w.heap.size < w2.heap.size := by omega
  go_wp2_with fail
  refine (toStandS_any A1 c1 x1 _ ((hr1.below hb2).more hb2.size) (by omega)).mono ?_
  rintro e w3 ⟨B3, d3, rfl, ho3, hc3⟩
  have hl3 := ho3.blk_lt
  have hb3 := bthen hb2 (Nat.le_refl _) hc3
  have hs3 := hc3.size
  (try simp at hs3)
  have hx3_0 := bthen hx2_0 (Nat.le_refl _) hc3
  have hy3_0 := hx3_0.size
  simp at hy3_0
  have ho2b' := Own.below ho2b hc3
  have ho2t' := Own.below ho2t hc3
  clear k2_0_0 k2_0_1 k2_0_2 kl2_0
  have k3_0_0 : w3.cell? ⟨w.heap.size, 0, none⟩ = some (.slice A0b x0b.length c0b) := by rw [hx3_0.cell (by simp <;> omega)]; try go_simp
  have k3_0_1 : w3.cell? ⟨w.heap.size, 1, none⟩ = some (.slice A0t x0t.length c0t) := by rw [hx3_0.cell (by simp <;> omega)]; try go_simp
  have k3_0_2 : w3.cell? ⟨w.heap.size, 2, none⟩ = some (.int .i64 n0) := by rw [hx3_0.cell (by simp <;> omega)]; try go_simp
  have kl3_0 : w.heap.size < w3.heap.size := by omega
  go_wp2_with fail
  refine (specOverloadOf_any B2b d2b x0b B2t d2t x0t n0 B3 d3 x1 _ (Own.rd ho2b') (Own.rd ho2t') (Own.rd ho3)).mono ?_
  rintro e w4 ⟨rfl, hc4⟩
  have hb4 := bthen hb3 (Nat.le_refl _) hc4
  have hs4 := hc4.size
  (try simp at hs4)
  have hx4_0 := bthen hx3_0 (Nat.le_refl _) hc4
  have hy4_0 := hx4_0.size
  simp at hy4_0
  have ho2b'' := Own.below ho2b' hc4
  have ho2t'' := Own.below ho2t' hc4
  have ho3' := Own.below ho3 hc4
  clear k3_0_0 k3_0_1 k3_0_2 kl3_0
  have k4_0_0 : w4.cell? ⟨w.heap.size, 0, none⟩ = some (.slice A0b x0b.length c0b) := by rw [hx4_0.cell (by simp <;> omega)]; try go_simp
  have k4_0_1 : w4.cell? ⟨w.heap.size, 1, none⟩ = some (.slice A0t x0t.length c0t) := by rw [hx4_0.cell (by simp <;> omega)]; try go_simp
  have k4_0_2 : w4.cell? ⟨w.heap.size, 2, none⟩ = some (.int .i64 n0) := by rw [hx4_0.cell (by simp <;> omega)]; try go_simp
  have kl4_0 : w.heap.size < w4.heap.size := by omega
  clear ho2b''
  clear ho2t''
  clear ho3'
  go_wp2_with fail
  refine (toScaffold_any A0b c0b x0b A0t c0t x0t n0 _ ((hr0b.below (hb4.alloc hb4.size _)).more (hb4.alloc hb4.size _).size) ((hr0t.below (hb4.alloc hb4.size _)).more (hb4.alloc hb4.size _).size) (by omega) (by omega)).mono ?_
  rintro e w5 ⟨B5b, d5b, B5t, d5t, rfl, ho5b, ho5t, hap5, hc5⟩
  have hl5b := ho5b.blk_lt
  have hl5t := ho5t.blk_lt
  have hb5 := bthen (hb4.alloc hb4.size _) (Nat.le_refl _) hc5
  have hs5 := hc5.size
  (try simp at hs5)
  have hx5_0 := bthen (hx4_0.alloc hx4_0.size _) (Nat.le_refl _) hc5
  have hy5_0 := hx5_0.size
  simp at hy5_0
  have hx5_1 := bthen (Below.refl (w4.alloc (.cells #[.int .i64 (ovP x0b x0t n0 x1).1.1, .int .i64 (ovP x0b x0t n0 x1).1.2.1, .int .i64 (ovP x0b x0t n0 x1).1.2.2] 55)).heap.size (w4.alloc (.cells #[.int .i64 (ovP x0b x0t n0 x1).1.1, .int .i64 (ovP x0b x0t n0 x1).1.2.1, .int .i64 (ovP x0b x0t n0 x1).1.2.2] 55))) (Nat.le_refl _) hc5
  have hy5_1 := hx5_1.size
  simp at hy5_1
  clear k4_0_0 k4_0_1 k4_0_2 kl4_0
  have k5_0_0 : w5.cell? ⟨w.heap.size, 0, none⟩ = some (.slice A0b x0b.length c0b) := by rw [hx5_0.cell (by simp <;> omega)]; try go_simp
  have k5_0_1 : w5.cell? ⟨w.heap.size, 1, none⟩ = some (.slice A0t x0t.length c0t) := by rw [hx5_0.cell (by simp <;> omega)]; try go_simp
  have k5_0_2 : w5.cell? ⟨w.heap.size, 2, none⟩ = some (.int .i64 n0) := by rw [hx5_0.cell (by simp <;> omega)]; try go_simp
  have k5_1_0 : w5.cell? ⟨w4.heap.size, 0, none⟩ = some (.int .i64 (ovP x0b x0t n0 x1).1.1) := by rw [hx5_1.cell (by simp <;> omega)]; try go_simp
  have k5_1_1 : w5.cell? ⟨w4.heap.size, 1, none⟩ = some (.int .i64 (ovP x0b x0t n0 x1).1.2.1) := by rw [hx5_1.cell (by simp <;> omega)]; try go_simp
  have k5_1_2 : w5.cell? ⟨w4.heap.size, 2, none⟩ = some (.int .i64 (ovP x0b x0t n0 x1).1.2.2) := by rw [hx5_1.cell (by simp <;> omega)]; try go_simp
  have kl5_0 : w.heap.size < w5.heap.size := by omega
  have kl5_1 : w4.heap.size < w5.heap.size := by omega
  go_wp2_with fail
  refine (toStandS_any A1 c1 x1 _ ((hr1.below (hb5.alloc hb5.size _)).more (hb5.alloc hb5.size _).size) (by omega)).mono ?_
  rintro e w6 ⟨B6, d6, rfl, ho6, hc6⟩
  have hl6 := ho6.blk_lt
  have hb6 := bthen (hb5.alloc hb5.size _) (Nat.le_refl _) hc6
  have hs6 := hc6.size
  (try simp at hs6)
  have hx6_0 := bthen (hx5_0.alloc hx5_0.size _) (Nat.le_refl _) hc6
  have hy6_0 := hx6_0.size
  simp at hy6_0
  have hx6_1 := bthen (hx5_1.alloc hx5_1.size _) (Nat.le_refl _) hc6
  have hy6_1 := hx6_1.size
  simp at hy6_1
  have hx6_2 := bthen (Below.refl (w5.alloc (.cells #[.slice B5b x0b.length d5b, .slice B5t x0t.length d5t, .int .i64 n0] 27)).heap.size (w5.alloc (.cells #[.slice B5b x0b.length d5b, .slice B5t x0t.length d5t, .int .i64 n0] 27))) (Nat.le_refl _) hc6
  have hy6_2 := hx6_2.size
  simp at hy6_2
  have ho5b' := Own.below (Own.alloc ho5b _) hc6
  have ho5t' := Own.below (Own.alloc ho5t _) hc6
  clear k5_0_0 k5_0_1 k5_0_2 k5_1_0 k5_1_1 k5_1_2 kl5_0 kl5_1
  have k6_0_0 : w6.cell? ⟨w.heap.size, 0, none⟩ = some (.slice A0b x0b.length c0b) := by rw [hx6_0.cell (by simp <;> omega)]; try go_simp
  have k6_0_1 : w6.cell? ⟨w.heap.size, 1, none⟩ = some (.slice A0t x0t.length c0t) := by rw [hx6_0.cell (by simp <;> omega)]; try go_simp
  have k6_0_2 : w6.cell? ⟨w.heap.size, 2, none⟩ = some (.int .i64 n0) := by rw [hx6_0.cell (by simp <;> omega)]; try go_simp
  have k6_1_0 : w6.cell? ⟨w4.heap.size, 0, none⟩ = some (.int .i64 (ovP x0b x0t n0 x1).1.1) := by rw [hx6_1.cell (by simp <;> omega)]; try go_simp
  have k6_1_1 : w6.cell? ⟨w4.heap.size, 1, none⟩ = some (.int .i64 (ovP x0b x0t n0 x1).1.2.1) := by rw [hx6_1.cell (by simp <;> omega)]; try go_simp
  have k6_1_2 : w6.cell? ⟨w4.heap.size, 2, none⟩ = some (.int .i64 (ovP x0b x0t n0 x1).1.2.2) := by rw [hx6_1.cell (by simp <;> omega)]; try go_simp
  have k6_2_0 : w6.cell? ⟨w5.heap.size, 0, none⟩ = some (.slice B5b x0b.length d5b) := by rw [hx6_2.cell (by simp <;> omega)]; try go_simp
  have k6_2_1 : w6.cell? ⟨w5.heap.size, 1, none⟩ = some (.slice B5t x0t.length d5t) := by rw [hx6_2.cell (by simp <;> omega)]; try go_simp
  have k6_2_2 : w6.cell? ⟨w5.heap.size, 2, none⟩ = some (.int .i64 n0) := by rw [hx6_2.cell (by simp <;> omega)]; try go_simp
  have kl6_0 : w.heap.size < w6.heap.size := by omega
  have kl6_1 : w4.heap.size < w6.heap.size := by omega
  have kl6_2 : w5.heap.size < w6.heap.size := by omega
  go_wp2_with fail
  refine (implOverloadOf_any B5b d5b x0b B5t d5t x0t n0 B6 d6 x1 _ (Own.rd ho5b') (Own.rd ho5t') (Own.rd ho6)).mono ?_
  rintro e w7 ⟨rfl, hc7⟩
  have hb7 := bthen hb6 (Nat.le_refl _) hc7
  have hs7 := hc7.size
  (try simp at hs7)
  have hx7_0 := bthen hx6_0 (Nat.le_refl _) hc7
  have hy7_0 := hx7_0.size
  simp at hy7_0
  have hx7_1 := bthen hx6_1 (Nat.le_refl _) hc7
  have hy7_1 := hx7_1.size
  simp at hy7_1
  have hx7_2 := bthen hx6_2 (Nat.le_refl _) hc7
  have hy7_2 := hx7_2.size
  simp at hy7_2
  have ho5b'' := Own.below ho5b' hc7
  have ho5t'' := Own.below ho5t' hc7
  have ho6' := Own.below ho6 hc7
  clear k6_0_0 k6_0_1 k6_0_2 k6_1_0 k6_1_1 k6_1_2 k6_2_0 k6_2_1 k6_2_2 kl6_0 kl6_1 kl6_2
  have k7_0_0 : w7.cell? ⟨w.heap.size, 0, none⟩ = some (.slice A0b x0b.length c0b) := by rw [hx7_0.cell (by simp <;> omega)]; try go_simp
  have k7_0_1 : w7.cell? ⟨w.heap.size, 1, none⟩ = some (.slice A0t x0t.length c0t) := by rw [hx7_0.cell (by simp <;> omega)]; try go_simp
  have k7_0_2 : w7.cell? ⟨w.heap.size, 2, none⟩ = some (.int .i64 n0) := by rw [hx7_0.cell (by simp <;> omega)]; try go_simp
  have k7_1_0 : w7.cell? ⟨w4.heap.size, 0, none⟩ = some (.int .i64 (ovP x0b x0t n0 x1).1.1) := by rw [hx7_1.cell (by simp <;> omega)]; try go_simp
  have k7_1_1 : w7.cell? ⟨w4.heap.size, 1, none⟩ = some (.int .i64 (ovP x0b x0t n0 x1).1.2.1) := by rw [hx7_1.cell (by simp <;> omega)]; try go_simp
  have k7_1_2 : w7.cell? ⟨w4.heap.size, 2, none⟩ = some (.int .i64 (ovP x0b x0t n0 x1).1.2.2) := by rw [hx7_1.cell (by simp <;> omega)]; try go_simp
  have k7_2_0 : w7.cell? ⟨w5.heap.size, 0, none⟩ = some (.slice B5b x0b.length d5b) := by rw [hx7_2.cell (by simp <;> omega)]; try go_simp
  have k7_2_1 : w7.cell? ⟨w5.heap.size, 1, none⟩ = some (.slice B5t x0t.length d5t) := by rw [hx7_2.cell (by simp <;> omega)]; try go_simp
  have k7_2_2 : w7.cell? ⟨w5.heap.size, 2, none⟩ = some (.int .i64 n0) := by rw [hx7_2.cell (by simp <;> omega)]; try go_simp
  have kl7_0 : w.heap.size < w7.heap.size := by omega
  have kl7_1 : w4.heap.size < w7.heap.size := by omega
  have kl7_2 : w5.heap.size < w7.heap.size := by omega
  go_wp2_with fail
  refine (eqStand_any _ _ _ _).mono ?_
  rintro e w8 ⟨rfl, hc8⟩
  have hb8 := bthen (hb7.alloc hb7.size _) (Nat.le_refl _) hc8
  have hs8 := hc8.size
  (try simp at hs8)
  have hx8_0 := bthen (hx7_0.alloc hx7_0.size _) (Nat.le_refl _) hc8
  have hy8_0 := hx8_0.size
  simp at hy8_0
  have hx8_1 := bthen (hx7_1.alloc hx7_1.size _) (Nat.le_refl _) hc8
  have hy8_1 := hx8_1.size
  simp at hy8_1
  have hx8_2 := bthen (hx7_2.alloc hx7_2.size _) (Nat.le_refl _) hc8
  have hy8_2 := hx8_2.size
  simp at hy8_2
  have hx8_3 := bthen (Below.refl (w7.alloc (.cells #[.int .i64 (ovP x0b x0t n0 x1).1.1, .int .i64 (ovP x0b x0t n0 x1).1.2.1, .int .i64 (ovP x0b x0t n0 x1).1.2.2] 55)).heap.size (w7.alloc (.cells #[.int .i64 (ovP x0b x0t n0 x1).1.1, .int .i64 (ovP x0b x0t n0 x1).1.2.1, .int .i64 (ovP x0b x0t n0 x1).1.2.2] 55))) (Nat.le_refl _) hc8
  have hy8_3 := hx8_3.size
  simp at hy8_3
  have ho5b''' := Own.below (Own.alloc ho5b'' _) hc8
  have ho5t''' := Own.below (Own.alloc ho5t'' _) hc8
  have ho6'' := Own.below (Own.alloc ho6' _) hc8
  clear k7_0_0 k7_0_1 k7_0_2 k7_1_0 k7_1_1 k7_1_2 k7_2_0 k7_2_1 k7_2_2 kl7_0 kl7_1 kl7_2
  have k8_0_0 : w8.cell? ⟨w.heap.size, 0, none⟩ = some (.slice A0b x0b.length c0b) := by rw [hx8_0.cell (by simp <;> omega)]; try go_simp
  have k8_0_1 : w8.cell? ⟨w.heap.size, 1, none⟩ = some (.slice A0t x0t.length c0t) := by rw [hx8_0.cell (by simp <;> omega)]; try go_simp
  have k8_0_2 : w8.cell? ⟨w.heap.size, 2, none⟩ = some (.int .i64 n0) := by rw [hx8_0.cell (by simp <;> omega)]; try go_simp
  have k8_1_0 : w8.cell? ⟨w4.heap.size, 0, none⟩ = some (.int .i64 (ovP x0b x0t n0 x1).1.1) := by rw [hx8_1.cell (by simp <;> omega)]; try go_simp
  have k8_1_1 : w8.cell? ⟨w4.heap.size, 1, none⟩ = some (.int .i64 (ovP x0b x0t n0 x1).1.2.1) := by rw [hx8_1.cell (by simp <;> omega)]; try go_simp
  have k8_1_2 : w8.cell? ⟨w4.heap.size, 2, none⟩ = some (.int .i64 (ovP x0b x0t n0 x1).1.2.2) := by rw [hx8_1.cell (by simp <;> omega)]; try go_simp
  have k8_2_0 : w8.cell? ⟨w5.heap.size, 0, none⟩ = some (.slice B5b x0b.length d5b) := by rw [hx8_2.cell (by simp <;> omega)]; try go_simp
  have k8_2_1 : w8.cell? ⟨w5.heap.size, 1, none⟩ = some (.slice B5t x0t.length d5t) := by rw [hx8_2.cell (by simp <;> omega)]; try go_simp
  have k8_2_2 : w8.cell? ⟨w5.heap.size, 2, none⟩ = some (.int .i64 n0) := by rw [hx8_2.cell (by simp <;> omega)]; try go_simp
  have k8_3_0 : w8.cell? ⟨w7.heap.size, 0, none⟩ = some (.int .i64 (ovP x0b x0t n0 x1).1.1) := by rw [hx8_3.cell (by simp <;> omega)]; try go_simp
  have k8_3_1 : w8.cell? ⟨w7.heap.size, 1, none⟩ = some (.int .i64 (ovP x0b x0t n0 x1).1.2.1) := by rw [hx8_3.cell (by simp <;> omega)]; try go_simp
  have k8_3_2 : w8.cell? ⟨w7.heap.size, 2, none⟩ = some (.int .i64 (ovP x0b x0t n0 x1).1.2.2) := by rw [hx8_3.cell (by simp <;> omega)]; try go_simp
  have kl8_0 : w.heap.size < w8.heap.size := by omega
  have kl8_1 : w4.heap.size < w8.heap.size := by omega
  have kl8_2 : w5.heap.size < w8.heap.size := by omega
  have kl8_3 : w7.heap.size < w8.heap.size := by omega
  go_wp2_with fail
  go_region_held3 (fun W => W.cell? ⟨w.heap.size, 0, none⟩ = some (.slice A0b x0b.length c0b) ∧ W.cell? ⟨w.heap.size, 1, none⟩ = some (.slice A0t x0t.length c0t) ∧ W.cell? ⟨w.heap.size, 2, none⟩ = some (.int .i64 n0) ∧ W.cell? ⟨w5.heap.size, 0, none⟩ = some (.slice B5b x0b.length d5b) ∧ W.cell? ⟨w5.heap.size, 1, none⟩ = some (.slice B5t x0t.length d5t) ∧ W.cell? ⟨w5.heap.size, 2, none⟩ = some (.int .i64 n0))
    (first | go_keep | (go_split_ands; refine ⟨?_, ?_, ?_, ?_, ?_, ?_⟩ <;> (refine (hc9.cell ?_).trans ?_; (focus (simp <;> omega)); assumption)) | (go_split_ands; refine ⟨?_, ?_, ?_, ?_, ?_, ?_⟩ <;> (refine (hc10.cell ?_).trans ?_; (focus (simp <;> omega)); assumption)))
    ((first
      | (go_at_call 16; (with_reducible refine (toScaffold_any A0b c0b x0b A0t c0t x0t n0 _ ((hr0b.below hb8).more hb8.size).drew ((hr0t.below hb8).more hb8.size).drew (by omega) (by omega)).mono ?_); rintro e w9 ⟨B9b, d9b, B9t, d9t, rfl, ho9b, ho9t, hap9, hc9⟩; have hl9b := ho9b.blk_lt; have hl9t := ho9t.blk_lt; have hb9 := bthen hb8.drew (Nat.le_refl _) hc9; have hs9 := hc9.size; (try simp at hs9); have ho5b'''' := Own.below (Own.drew ho5b''') hc9; have ho5t'''' := Own.below (Own.drew ho5t''') hc9)
      | (go_at_call 18; (with_reducible refine (eqScaffold_any B5b d5b x0b B5t d5t x0t n0 B9b d9b B9t d9t _ (Own.rd ho5b'''') (Own.rd ho5t'''') (Own.rd ho9b) (Own.rd ho9t)).mono ?_); rintro e w10 ⟨rfl, hc10⟩; have hb10 := bthen hb9 (Nat.le_refl _) hc10; have hs10 := hc10.size; (try simp at hs10); have ho5b''''' := Own.below ho5b'''' hc10; have ho5t''''' := Own.below ho5t'''' hc10; have ho9b' := Own.below ho9b hc10; have ho9t' := Own.below ho9t hc10)))
  have hx9_0 := bthen hx8_0.drew (Nat.le_refl _) hc9
  have hx9_1 := bthen hx8_1.drew (Nat.le_refl _) hc9
  have hx9_2 := bthen hx8_2.drew (Nat.le_refl _) hc9
  have hx9_3 := bthen hx8_3.drew (Nat.le_refl _) hc9
  have ho6''' := Own.below (Own.drew ho6'') hc9
  have hx10_0 := bthen hx9_0 (Nat.le_refl _) hc10
  have hx10_1 := bthen hx9_1 (Nat.le_refl _) hc10
  have hx10_2 := bthen hx9_2 (Nat.le_refl _) hc10
  have hx10_3 := bthen hx9_3 (Nat.le_refl _) hc10
  have ho6'''' := Own.below ho6''' hc10
  have hy10_0 := hx10_0.size
  simp at hy10_0
  have hy10_1 := hx10_1.size
  simp at hy10_1
  have hy10_2 := hx10_2.size
  simp at hy10_2
  have hy10_3 := hx10_3.size
  simp at hy10_3
  clear k8_0_0 k8_0_1 k8_0_2 k8_1_0 k8_1_1 k8_1_2 k8_2_0 k8_2_1 k8_2_2 k8_3_0 k8_3_1 k8_3_2 kl8_0 kl8_1 kl8_2 kl8_3
  have k10_0_0 : w10.cell? ⟨w.heap.size, 0, none⟩ = some (.slice A0b x0b.length c0b) := by rw [hx10_0.cell (by simp <;> omega)]; try go_simp
  have k10_0_1 : w10.cell? ⟨w.heap.size, 1, none⟩ = some (.slice A0t x0t.length c0t) := by rw [hx10_0.cell (by simp <;> omega)]; try go_simp
  have k10_0_2 : w10.cell? ⟨w.heap.size, 2, none⟩ = some (.int .i64 n0) := by rw [hx10_0.cell (by simp <;> omega)]; try go_simp
  have k10_1_0 : w10.cell? ⟨w4.heap.size, 0, none⟩ = some (.int .i64 (ovP x0b x0t n0 x1).1.1) := by rw [hx10_1.cell (by simp <;> omega)]; try go_simp
  have k10_1_1 : w10.cell? ⟨w4.heap.size, 1, none⟩ = some (.int .i64 (ovP x0b x0t n0 x1).1.2.1) := by rw [hx10_1.cell (by simp <;> omega)]; try go_simp
  have k10_1_2 : w10.cell? ⟨w4.heap.size, 2, none⟩ = some (.int .i64 (ovP x0b x0t n0 x1).1.2.2) := by rw [hx10_1.cell (by simp <;> omega)]; try go_simp
  have k10_2_0 : w10.cell? ⟨w5.heap.size, 0, none⟩ = some (.slice B5b x0b.length d5b) := by rw [hx10_2.cell (by simp <;> omega)]; try go_simp
  have k10_2_1 : w10.cell? ⟨w5.heap.size, 1, none⟩ = some (.slice B5t x0t.length d5t) := by rw [hx10_2.cell (by simp <;> omega)]; try go_simp
  have k10_2_2 : w10.cell? ⟨w5.heap.size, 2, none⟩ = some (.int .i64 n0) := by rw [hx10_2.cell (by simp <;> omega)]; try go_simp
  have k10_3_0 : w10.cell? ⟨w7.heap.size, 0, none⟩ = some (.int .i64 (ovP x0b x0t n0 x1).1.1) := by rw [hx10_3.cell (by simp <;> omega)]; try go_simp
  have k10_3_1 : w10.cell? ⟨w7.heap.size, 1, none⟩ = some (.int .i64 (ovP x0b x0t n0 x1).1.2.1) := by rw [hx10_3.cell (by simp <;> omega)]; try go_simp
  have k10_3_2 : w10.cell? ⟨w7.heap.size, 2, none⟩ = some (.int .i64 (ovP x0b x0t n0 x1).1.2.2) := by rw [hx10_3.cell (by simp <;> omega)]; try go_simp
  have kl10_0 : w.heap.size < w10.heap.size := by omega
  have kl10_1 : w4.heap.size < w10.heap.size := by omega
  have kl10_2 : w5.heap.size < w10.heap.size := by omega
  have kl10_3 : w7.heap.size < w10.heap.size := by omega
  clear ho9b'
  clear ho9t'
  go_wp2_with fail
  refine (toStandS_any A1 c1 x1 _ ((hr1.below hb10).more hb10.size) (by omega)).mono ?_
  rintro e w11 ⟨B11, d11, rfl, ho11, hc11⟩
  have hl11 := ho11.blk_lt
  have hb11 := bthen hb10 (Nat.le_refl _) hc11
  have hs11 := hc11.size
  (try simp at hs11)
  have hx11_0 := bthen hx10_0 (Nat.le_refl _) hc11
  have hy11_0 := hx11_0.size
  simp at hy11_0
  have hx11_1 := bthen hx10_1 (Nat.le_refl _) hc11
  have hy11_1 := hx11_1.size
  simp at hy11_1
  have hx11_2 := bthen hx10_2 (Nat.le_refl _) hc11
  have hy11_2 := hx11_2.size
  simp at hy11_2
  have hx11_3 := bthen hx10_3 (Nat.le_refl _) hc11
  have hy11_3 := hx11_3.size
  simp at hy11_3
  have ho5b'''''' := Own.below ho5b''''' hc11
  have ho5t'''''' := Own.below ho5t''''' hc11
  have ho6''''' := Own.below ho6'''' hc11
  clear k10_0_0 k10_0_1 k10_0_2 k10_1_0 k10_1_1 k10_1_2 k10_2_0 k10_2_1 k10_2_2 k10_3_0 k10_3_1 k10_3_2 kl10_0 kl10_1 kl10_2 kl10_3
  have k11_0_0 : w11.cell? ⟨w.heap.size, 0, none⟩ = some (.slice A0b x0b.length c0b) := by rw [hx11_0.cell (by simp <;> omega)]; try go_simp
  have k11_0_1 : w11.cell? ⟨w.heap.size, 1, none⟩ = some (.slice A0t x0t.length c0t) := by rw [hx11_0.cell (by simp <;> omega)]; try go_simp
  have k11_0_2 : w11.cell? ⟨w.heap.size, 2, none⟩ = some (.int .i64 n0) := by rw [hx11_0.cell (by simp <;> omega)]; try go_simp
  have k11_1_0 : w11.cell? ⟨w4.heap.size, 0, none⟩ = some (.int .i64 (ovP x0b x0t n0 x1).1.1) := by rw [hx11_1.cell (by simp <;> omega)]; try go_simp
  have k11_1_1 : w11.cell? ⟨w4.heap.size, 1, none⟩ = some (.int .i64 (ovP x0b x0t n0 x1).1.2.1) := by rw [hx11_1.cell (by simp <;> omega)]; try go_simp
  have k11_1_2 : w11.cell? ⟨w4.heap.size, 2, none⟩ = some (.int .i64 (ovP x0b x0t n0 x1).1.2.2) := by rw [hx11_1.cell (by simp <;> omega)]; try go_simp
  have k11_2_0 : w11.cell? ⟨w5.heap.size, 0, none⟩ = some (.slice B5b x0b.length d5b) := by rw [hx11_2.cell (by simp <;> omega)]; try go_simp
  have k11_2_1 : w11.cell? ⟨w5.heap.size, 1, none⟩ = some (.slice B5t x0t.length d5t) := by rw [hx11_2.cell (by simp <;> omega)]; try go_simp
  have k11_2_2 : w11.cell? ⟨w5.heap.size, 2, none⟩ = some (.int .i64 n0) := by rw [hx11_2.cell (by simp <;> omega)]; try go_simp
  have k11_3_0 : w11.cell? ⟨w7.heap.size, 0, none⟩ = some (.int .i64 (ovP x0b x0t n0 x1).1.1) := by rw [hx11_3.cell (by simp <;> omega)]; try go_simp
  have k11_3_1 : w11.cell? ⟨w7.heap.size, 1, none⟩ = some (.int .i64 (ovP x0b x0t n0 x1).1.2.1) := by rw [hx11_3.cell (by simp <;> omega)]; try go_simp
  have k11_3_2 : w11.cell? ⟨w7.heap.size, 2, none⟩ = some (.int .i64 (ovP x0b x0t n0 x1).1.2.2) := by rw [hx11_3.cell (by simp <;> omega)]; try go_simp
  have kl11_0 : w.heap.size < w11.heap.size := by omega
  have kl11_1 : w4.heap.size < w11.heap.size := by omega
  have kl11_2 : w5.heap.size < w11.heap.size := by omega
  have kl11_3 : w7.heap.size < w11.heap.size := by omega
  go_wp2_with fail
  refine (eqStandS_same B6 d6 B11 d11 _ _ (Own.rd ho6''''') (Own.rd ho11)).mono ?_
  rintro e w12 ⟨rfl, hc12⟩
  have hb12 := bthen hb11 (Nat.le_refl _) hc12
  have hs12 := hc12.size
  (try simp at hs12)
  have hx12_0 := bthen hx11_0 (Nat.le_refl _) hc12
  have hy12_0 := hx12_0.size
  simp at hy12_0
  have hx12_1 := bthen hx11_1 (Nat.le_refl _) hc12
  have hy12_1 := hx12_1.size
  simp at hy12_1
  have hx12_2 := bthen hx11_2 (Nat.le_refl _) hc12
  have hy12_2 := hx12_2.size
  simp at hy12_2
  have hx12_3 := bthen hx11_3 (Nat.le_refl _) hc12
  have hy12_3 := hx12_3.size
  simp at hy12_3
  have ho5b''''''' := Own.below ho5b'''''' hc12
  have ho5t''''''' := Own.below ho5t'''''' hc12
  have ho6'''''' := Own.below ho6''''' hc12
  have ho11' := Own.below ho11 hc12
  clear k11_0_0 k11_0_1 k11_0_2 k11_1_0 k11_1_1 k11_1_2 k11_2_0 k11_2_1 k11_2_2 k11_3_0 k11_3_1 k11_3_2 kl11_0 kl11_1 kl11_2 kl11_3
  have k12_0_0 : w12.cell? ⟨w.heap.size, 0, none⟩ = some (.slice A0b x0b.length c0b) := by rw [hx12_0.cell (by simp <;> omega)]; try go_simp
  have k12_0_1 : w12.cell? ⟨w.heap.size, 1, none⟩ = some (.slice A0t x0t.length c0t) := by rw [hx12_0.cell (by simp <;> omega)]; try go_simp
  have k12_0_2 : w12.cell? ⟨w.heap.size, 2, none⟩ = some (.int .i64 n0) := by rw [hx12_0.cell (by simp <;> omega)]; try go_simp
  have k12_1_0 : w12.cell? ⟨w4.heap.size, 0, none⟩ = some (.int .i64 (ovP x0b x0t n0 x1).1.1) := by rw [hx12_1.cell (by simp <;> omega)]; try go_simp
  have k12_1_1 : w12.cell? ⟨w4.heap.size, 1, none⟩ = some (.int .i64 (ovP x0b x0t n0 x1).1.2.1) := by rw [hx12_1.cell (by simp <;> omega)]; try go_simp
  have k12_1_2 : w12.cell? ⟨w4.heap.size, 2, none⟩ = some (.int .i64 (ovP x0b x0t n0 x1).1.2.2) := by rw [hx12_1.cell (by simp <;> omega)]; try go_simp
  have k12_2_0 : w12.cell? ⟨w5.heap.size, 0, none⟩ = some (.slice B5b x0b.length d5b) := by rw [hx12_2.cell (by simp <;> omega)]; try go_simp
  have k12_2_1 : w12.cell? ⟨w5.heap.size, 1, none⟩ = some (.slice B5t x0t.length d5t) := by rw [hx12_2.cell (by simp <;> omega)]; try go_simp
  have k12_2_2 : w12.cell? ⟨w5.heap.size, 2, none⟩ = some (.int .i64 n0) := by rw [hx12_2.cell (by simp <;> omega)]; try go_simp
  have k12_3_0 : w12.cell? ⟨w7.heap.size, 0, none⟩ = some (.int .i64 (ovP x0b x0t n0 x1).1.1) := by rw [hx12_3.cell (by simp <;> omega)]; try go_simp
  have k12_3_1 : w12.cell? ⟨w7.heap.size, 1, none⟩ = some (.int .i64 (ovP x0b x0t n0 x1).1.2.1) := by rw [hx12_3.cell (by simp <;> omega)]; try go_simp
  have k12_3_2 : w12.cell? ⟨w7.heap.size, 2, none⟩ = some (.int .i64 (ovP x0b x0t n0 x1).1.2.2) := by rw [hx12_3.cell (by simp <;> omega)]; try go_simp
  have kl12_0 : w.heap.size < w12.heap.size := by omega
  have kl12_1 : w4.heap.size < w12.heap.size := by omega
  have kl12_2 : w5.heap.size < w12.heap.size := by omega
  have kl12_3 : w7.heap.size < w12.heap.size := by omega
  clear ho11'
  go_wp2_with fail
  go_ret
  exact ⟨rfl, hb12⟩
end Go.Proofs.Yteaojbmfjlmggaa
