/-
  FnExactRoomFor returns true for every argument: the walk.
-/
import Derived.Test.YteaojbmfjlmggaaScafE
import Derived.Test.YteaojbmfjlmggaaScafM
import Derived.Test.YteaojbmfjlmggaaOpenSc
import Derived.Test.YteaojbmfjlmggaaOpenStand
import Derived.Deep.RegionHeld3
namespace Go.Proofs.Yteaojbmfjlmggaa
open Go.ChangeShapes Go.WideShapes Go.RowKit

set_option maxRecDepth 100000 in
set_option maxHeartbeats 3200000 in
theorem lawRoomFor_any (A0b : Option Addr) (c0b : Nat) (x0b : List Int) (A0t : Option Addr) (c0t : Nat) (x0t : List Int) (n0 : Int) (A1 : Option Addr) (c1 : Nat) (x1 : List StandD) (a2 : Int) (w : World) (hr0b : Rd LI w w.heap.size A0b c0b x0b) (hr0t : Rd LI w w.heap.size A0t c0t x0t) (_hi0 : (∀ n ∈ x0b, I64 n) ∧ (∀ n ∈ x0t, I64 n) ∧ I64 n0) (hr1 : Rd LStand w w.heap.size A1 c1 x1) (_hi1 : ∀ n ∈ x1, OkStand n) (_hi2 : I64 a2) :
    Calls Try.prog 13 #[.agg #[.slice A0b x0b.length c0b, .slice A0t x0t.length c0t, .int .i64 n0], .slice A1 x1.length c1, .int .i64 a2] w fun e w' => e = .returned (.bool true) ∧ Below w.heap.size w w' := by
  have hlen0b := hr0b.len63
  have hlen0t := hr0t.len63
  have hlen1 := hr1.len63
  by_cases hz0 : 0 ≤ (szSc 1048576 x0b x0t)
  rotate_left
  · skip
    have hneg : (szSc 1048576 x0b x0t) < 0 := by omega
    go_enter Try.func13, Try.ntmps13
    go_wp2_with fail
    refine (szScaffold_any A0b c0b x0b A0t c0t x0t n0 1048576 _ hlen0b hlen0t (by omega) (by omega)).mono ?_
    rintro e w1 ⟨rfl, hc1⟩
    have hb1 := bthen ((Below.refl w.heap.size w).alloc (Nat.le_refl _) _) (Nat.le_refl _) hc1
    have hs1 := hc1.size
    (try simp at hs1)
    have hx1_0 := bthen (Below.refl (w.alloc (.cells #[.slice A0b x0b.length c0b, .slice A0t x0t.length c0t, .int .i64 n0] 24)).heap.size (w.alloc (.cells #[.slice A0b x0b.length c0b, .slice A0t x0t.length c0t, .int .i64 n0] 24))) (Nat.le_refl _) hc1
    have hy1_0 := hx1_0.size
    (try simp at hy1_0)
    have k1_0_0 : w1.cell? ⟨w.heap.size, 0, none⟩ = some (.slice A0b x0b.length c0b) := by rw [hx1_0.cell (by simp <;> omega)]; try go_simp
    have k1_0_1 : w1.cell? ⟨w.heap.size, 1, none⟩ = some (.slice A0t x0t.length c0t) := by rw [hx1_0.cell (by simp <;> omega)]; try go_simp
    have k1_0_2 : w1.cell? ⟨w.heap.size, 2, none⟩ = some (.int .i64 n0) := by rw [hx1_0.cell (by simp <;> omega)]; try go_simp
    have kl1_0 : w.heap.size < w1.heap.size := by omega
    go_wp2_with fail
    go_ret
    exact ⟨rfl, hb1⟩
  obtain ⟨hu0a, hu0b, hu0c⟩ := szSc_yes (by omega) hz0
  by_cases hz1 : 0 ≤ (szN (szSc 1048576 x0b x0t) x1.length)
  rotate_left
  · skip
    have hneg : (szN (szSc 1048576 x0b x0t) x1.length) < 0 := by omega
    go_enter Try.func13, Try.ntmps13
    go_wp2_with fail
    refine (szScaffold_any A0b c0b x0b A0t c0t x0t n0 1048576 _ hlen0b hlen0t (by omega) (by omega)).mono ?_
    rintro e w1 ⟨rfl, hc1⟩
    have hb1 := bthen ((Below.refl w.heap.size w).alloc (Nat.le_refl _) _) (Nat.le_refl _) hc1
    have hs1 := hc1.size
    (try simp at hs1)
    have hx1_0 := bthen (Below.refl (w.alloc (.cells #[.slice A0b x0b.length c0b, .slice A0t x0t.length c0t, .int .i64 n0] 24)).heap.size (w.alloc (.cells #[.slice A0b x0b.length c0b, .slice A0t x0t.length c0t, .int .i64 n0] 24))) (Nat.le_refl _) hc1
    have hy1_0 := hx1_0.size
    (try simp at hy1_0)
    have k1_0_0 : w1.cell? ⟨w.heap.size, 0, none⟩ = some (.slice A0b x0b.length c0b) := by rw [hx1_0.cell (by simp <;> omega)]; try go_simp
    have k1_0_1 : w1.cell? ⟨w.heap.size, 1, none⟩ = some (.slice A0t x0t.length c0t) := by rw [hx1_0.cell (by simp <;> omega)]; try go_simp
    have k1_0_2 : w1.cell? ⟨w.heap.size, 2, none⟩ = some (.int .i64 n0) := by rw [hx1_0.cell (by simp <;> omega)]; try go_simp
    have kl1_0 : w.heap.size < w1.heap.size := by omega
    go_wp2_with fail
    refine (szStandS_any A1 c1 x1.length _ _ (by omega) (by omega) hlen1).mono ?_
    rintro e wx ⟨rfl, rfl⟩
    go_wp2_with fail
    go_ret
    exact ⟨rfl, hb1⟩
  obtain ⟨hu1a, hu1c⟩ := szN_yes (by omega) hz1
  go_enter Try.func13, Try.ntmps13
  go_wp2_with fail
  refine (szScaffold_any A0b c0b x0b A0t c0t x0t n0 1048576 _ hlen0b hlen0t (by omega) (by omega)).mono ?_
  rintro e w1 ⟨rfl, hc1⟩
  have hb1 := bthen ((Below.refl w.heap.size w).alloc (Nat.le_refl _) _) (Nat.le_refl _) hc1
  have hs1 := hc1.size
  (try simp at hs1)
  have hx1_0 := bthen (Below.refl (w.alloc (.cells #[.slice A0b x0b.length c0b, .slice A0t x0t.length c0t, .int .i64 n0] 24)).heap.size (w.alloc (.cells #[.slice A0b x0b.length c0b, .slice A0t x0t.length c0t, .int .i64 n0] 24))) (Nat.le_refl _) hc1
  have hy1_0 := hx1_0.size
  (try simp at hy1_0)
  have k1_0_0 : w1.cell? ⟨w.heap.size, 0, none⟩ = some (.slice A0b x0b.length c0b) := by rw [hx1_0.cell (by simp <;> omega)]; try go_simp
  have k1_0_1 : w1.cell? ⟨w.heap.size, 1, none⟩ = some (.slice A0t x0t.length c0t) := by rw [hx1_0.cell (by simp <;> omega)]; try go_simp
  have k1_0_2 : w1.cell? ⟨w.heap.size, 2, none⟩ = some (.int .i64 n0) := by rw [hx1_0.cell (by simp <;> omega)]; try go_simp
  have kl1_0 : w.heap.size < w1.heap.size := by omega
  go_wp2_with fail
  refine (szStandS_any A1 c1 x1.length _ _ (by omega) (by omega) hlen1).mono ?_
  rintro e wx ⟨rfl, rfl⟩
  go_wp2_with fail
  refine (toScaffold_any A0b c0b x0b A0t c0t x0t n0 _ ((hr0b.below hb1).more hb1.size) ((hr0t.below hb1).more hb1.size) (by omega) (by omega)).mono ?_
  rintro e w2 ⟨B2b, d2b, B2t, d2t, rfl, ho2b, ho2t, hap2, hc2⟩
  have hl2b := ho2b.blk_lt
  have hl2t := ho2t.blk_lt
  (try simp at hl2b)
  (try simp at hl2t)
  have hb2 := bthen hb1 (Nat.le_refl _) hc2
  have hs2 := hc2.size
  (try simp at hs2)
  have hx2_0 := bthen hx1_0 (Nat.le_refl _) hc2
  have hy2_0 := hx2_0.size
  (try simp at hy2_0)
  clear k1_0_0 k1_0_1 k1_0_2 kl1_0
  have k2_0_0 : w2.cell? ⟨w.heap.size, 0, none⟩ = some (.slice A0b x0b.length c0b) := by rw [hx2_0.cell (by simp <;> omega)]; try go_simp
  have k2_0_1 : w2.cell? ⟨w.heap.size, 1, none⟩ = some (.slice A0t x0t.length c0t) := by rw [hx2_0.cell (by simp <;> omega)]; try go_simp
  have k2_0_2 : w2.cell? ⟨w.heap.size, 2, none⟩ = some (.int .i64 n0) := by rw [hx2_0.cell (by simp <;> omega)]; try go_simp
  have kl2_0 : w.heap.size < w2.heap.size := by omega
  go_wp2_with fail
  refine (toStandS_any A1 c1 x1 _ ((hr1.below hb2).more hb2.size) (by omega)).mono ?_
  rintro e w3 ⟨B3, d3, rfl, ho3, hc3⟩
  have hl3 := ho3.blk_lt
  (try simp at hl3)
  have hb3 := bthen hb2 (Nat.le_refl _) hc3
  have hs3 := hc3.size
  (try simp at hs3)
  have hx3_0 := bthen hx2_0 (Nat.le_refl _) hc3
  have hy3_0 := hx3_0.size
  (try simp at hy3_0)
  have ho2b' := Own.below ho2b hc3
  have ho2t' := Own.below ho2t hc3
  clear k2_0_0 k2_0_1 k2_0_2 kl2_0
  have k3_0_0 : w3.cell? ⟨w.heap.size, 0, none⟩ = some (.slice A0b x0b.length c0b) := by rw [hx3_0.cell (by simp <;> omega)]; try go_simp
  have k3_0_1 : w3.cell? ⟨w.heap.size, 1, none⟩ = some (.slice A0t x0t.length c0t) := by rw [hx3_0.cell (by simp <;> omega)]; try go_simp
  have k3_0_2 : w3.cell? ⟨w.heap.size, 2, none⟩ = some (.int .i64 n0) := by rw [hx3_0.cell (by simp <;> omega)]; try go_simp
  have kl3_0 : w.heap.size < w3.heap.size := by omega
  go_wp2_with fail
  refine (specRoomFor_any B2b d2b x0b B2t d2t x0t n0 B3 d3 x1 a2 _ (Own.rd ho2b') (Own.rd ho2t') (Own.rd ho3)).mono ?_
  rintro e w4 ⟨B4, d4, rfl, ho4, hc4⟩
  have hl4 := ho4.blk_lt
  (try simp at hl4)
  have hn4 := rfP_len x0b x0t n0 x1 a2
  have hb4 := bthen hb3 (Nat.le_refl _) hc4
  have hs4 := hc4.size
  (try simp at hs4)
  have hx4_0 := bthen hx3_0 (Nat.le_refl _) hc4
  have hy4_0 := hx4_0.size
  (try simp at hy4_0)
  have ho2b'' := Own.below ho2b' hc4
  have ho2t'' := Own.below ho2t' hc4
  have ho3' := Own.below ho3 hc4
  clear k3_0_0 k3_0_1 k3_0_2 kl3_0
  have k4_0_0 : w4.cell? ⟨w.heap.size, 0, none⟩ = some (.slice A0b x0b.length c0b) := by rw [hx4_0.cell (by simp <;> omega)]; try go_simp
  have k4_0_1 : w4.cell? ⟨w.heap.size, 1, none⟩ = some (.slice A0t x0t.length c0t) := by rw [hx4_0.cell (by simp <;> omega)]; try go_simp
  have k4_0_2 : w4.cell? ⟨w.heap.size, 2, none⟩ = some (.int .i64 n0) := by rw [hx4_0.cell (by simp <;> omega)]; try go_simp
  have kl4_0 : w.heap.size < w4.heap.size := by omega
  clear ho2b''
  clear ho2t''
  clear ho3'
  go_wp2_with fail
  refine (toScaffold_any A0b c0b x0b A0t c0t x0t n0 _ ((hr0b.below hb4).more hb4.size) ((hr0t.below hb4).more hb4.size) (by omega) (by omega)).mono ?_
  rintro e w5 ⟨B5b, d5b, B5t, d5t, rfl, ho5b, ho5t, hap5, hc5⟩
  have hl5b := ho5b.blk_lt
  have hl5t := ho5t.blk_lt
  (try simp at hl5b)
  (try simp at hl5t)
  have hb5 := bthen hb4 (Nat.le_refl _) hc5
  have hs5 := hc5.size
  (try simp at hs5)
  have hx5_0 := bthen hx4_0 (Nat.le_refl _) hc5
  have hy5_0 := hx5_0.size
  (try simp at hy5_0)
  have ho4' := Own.below ho4 hc5
  clear k4_0_0 k4_0_1 k4_0_2 kl4_0
  have k5_0_0 : w5.cell? ⟨w.heap.size, 0, none⟩ = some (.slice A0b x0b.length c0b) := by rw [hx5_0.cell (by simp <;> omega)]; try go_simp
  have k5_0_1 : w5.cell? ⟨w.heap.size, 1, none⟩ = some (.slice A0t x0t.length c0t) := by rw [hx5_0.cell (by simp <;> omega)]; try go_simp
  have k5_0_2 : w5.cell? ⟨w.heap.size, 2, none⟩ = some (.int .i64 n0) := by rw [hx5_0.cell (by simp <;> omega)]; try go_simp
  have kl5_0 : w.heap.size < w5.heap.size := by omega
  go_wp2_with fail
  refine (toStandS_any A1 c1 x1 _ ((hr1.below (hb5.alloc hb5.size _)).more (hb5.alloc hb5.size _).size) (by omega)).mono ?_
  rintro e w6 ⟨B6, d6, rfl, ho6, hc6⟩
  have hl6 := ho6.blk_lt
  (try simp at hl6)
  have hb6 := bthen (hb5.alloc hb5.size _) (Nat.le_refl _) hc6
  have hs6 := hc6.size
  (try simp at hs6)
  have hx6_0 := bthen (hx5_0.alloc hx5_0.size _) (Nat.le_refl _) hc6
  have hy6_0 := hx6_0.size
  (try simp at hy6_0)
  have hx6_1 := bthen (Below.refl (w5.alloc (.cells #[.slice B5b x0b.length d5b, .slice B5t x0t.length d5t, .int .i64 n0] 27)).heap.size (w5.alloc (.cells #[.slice B5b x0b.length d5b, .slice B5t x0t.length d5t, .int .i64 n0] 27))) (Nat.le_refl _) hc6
  have hy6_1 := hx6_1.size
  (try simp at hy6_1)
  have ho4'' := Own.below (Own.alloc ho4' _) hc6
  have ho5b' := Own.below (Own.alloc ho5b _) hc6
  have ho5t' := Own.below (Own.alloc ho5t _) hc6
  clear k5_0_0 k5_0_1 k5_0_2 kl5_0
  have k6_0_0 : w6.cell? ⟨w.heap.size, 0, none⟩ = some (.slice A0b x0b.length c0b) := by rw [hx6_0.cell (by simp <;> omega)]; try go_simp
  have k6_0_1 : w6.cell? ⟨w.heap.size, 1, none⟩ = some (.slice A0t x0t.length c0t) := by rw [hx6_0.cell (by simp <;> omega)]; try go_simp
  have k6_0_2 : w6.cell? ⟨w.heap.size, 2, none⟩ = some (.int .i64 n0) := by rw [hx6_0.cell (by simp <;> omega)]; try go_simp
  have k6_1_0 : w6.cell? ⟨w5.heap.size, 0, none⟩ = some (.slice B5b x0b.length d5b) := by rw [hx6_1.cell (by simp <;> omega)]; try go_simp
  have k6_1_1 : w6.cell? ⟨w5.heap.size, 1, none⟩ = some (.slice B5t x0t.length d5t) := by rw [hx6_1.cell (by simp <;> omega)]; try go_simp
  have k6_1_2 : w6.cell? ⟨w5.heap.size, 2, none⟩ = some (.int .i64 n0) := by rw [hx6_1.cell (by simp <;> omega)]; try go_simp
  have kl6_0 : w.heap.size < w6.heap.size := by omega
  have kl6_1 : w5.heap.size < w6.heap.size := by omega
  go_wp2_with fail
  refine (implRoomFor_any B5b d5b x0b B5t d5t x0t n0 B6 d6 x1 a2 _ (Own.rd ho5b') (Own.rd ho5t') (Own.rd ho6)).mono ?_
  rintro e w7 ⟨B7, d7, rfl, ho7, hc7⟩
  have hl7 := ho7.blk_lt
  (try simp at hl7)
  have hn7 := rfP_len x0b x0t n0 x1 a2
  have hb7 := bthen hb6 (Nat.le_refl _) hc7
  have hs7 := hc7.size
  (try simp at hs7)
  have hx7_0 := bthen hx6_0 (Nat.le_refl _) hc7
  have hy7_0 := hx7_0.size
  (try simp at hy7_0)
  have hx7_1 := bthen hx6_1 (Nat.le_refl _) hc7
  have hy7_1 := hx7_1.size
  (try simp at hy7_1)
  have ho4''' := Own.below ho4'' hc7
  have ho5b'' := Own.below ho5b' hc7
  have ho5t'' := Own.below ho5t' hc7
  have ho6' := Own.below ho6 hc7
  clear k6_0_0 k6_0_1 k6_0_2 k6_1_0 k6_1_1 k6_1_2 kl6_0 kl6_1
  have k7_0_0 : w7.cell? ⟨w.heap.size, 0, none⟩ = some (.slice A0b x0b.length c0b) := by rw [hx7_0.cell (by simp <;> omega)]; try go_simp
  have k7_0_1 : w7.cell? ⟨w.heap.size, 1, none⟩ = some (.slice A0t x0t.length c0t) := by rw [hx7_0.cell (by simp <;> omega)]; try go_simp
  have k7_0_2 : w7.cell? ⟨w.heap.size, 2, none⟩ = some (.int .i64 n0) := by rw [hx7_0.cell (by simp <;> omega)]; try go_simp
  have k7_1_0 : w7.cell? ⟨w5.heap.size, 0, none⟩ = some (.slice B5b x0b.length d5b) := by rw [hx7_1.cell (by simp <;> omega)]; try go_simp
  have k7_1_1 : w7.cell? ⟨w5.heap.size, 1, none⟩ = some (.slice B5t x0t.length d5t) := by rw [hx7_1.cell (by simp <;> omega)]; try go_simp
  have k7_1_2 : w7.cell? ⟨w5.heap.size, 2, none⟩ = some (.int .i64 n0) := by rw [hx7_1.cell (by simp <;> omega)]; try go_simp
  have kl7_0 : w.heap.size < w7.heap.size := by omega
  have kl7_1 : w5.heap.size < w7.heap.size := by omega
  go_wp2_with fail
  refine (eqInt64S_same B7 d7 B4 d4 _ _ (Own.rd ho7) (Own.rd ho4''')).mono ?_
  rintro e w8 ⟨rfl, hc8⟩
  have hb8 := bthen hb7 (Nat.le_refl _) hc8
  have hs8 := hc8.size
  (try simp at hs8)
  have hx8_0 := bthen hx7_0 (Nat.le_refl _) hc8
  have hy8_0 := hx8_0.size
  (try simp at hy8_0)
  have hx8_1 := bthen hx7_1 (Nat.le_refl _) hc8
  have hy8_1 := hx8_1.size
  (try simp at hy8_1)
  have ho4'''' := Own.below ho4''' hc8
  have ho5b''' := Own.below ho5b'' hc8
  have ho5t''' := Own.below ho5t'' hc8
  have ho6'' := Own.below ho6' hc8
  have ho7' := Own.below ho7 hc8
  clear k7_0_0 k7_0_1 k7_0_2 k7_1_0 k7_1_1 k7_1_2 kl7_0 kl7_1
  have k8_0_0 : w8.cell? ⟨w.heap.size, 0, none⟩ = some (.slice A0b x0b.length c0b) := by rw [hx8_0.cell (by simp <;> omega)]; try go_simp
  have k8_0_1 : w8.cell? ⟨w.heap.size, 1, none⟩ = some (.slice A0t x0t.length c0t) := by rw [hx8_0.cell (by simp <;> omega)]; try go_simp
  have k8_0_2 : w8.cell? ⟨w.heap.size, 2, none⟩ = some (.int .i64 n0) := by rw [hx8_0.cell (by simp <;> omega)]; try go_simp
  have k8_1_0 : w8.cell? ⟨w5.heap.size, 0, none⟩ = some (.slice B5b x0b.length d5b) := by rw [hx8_1.cell (by simp <;> omega)]; try go_simp
  have k8_1_1 : w8.cell? ⟨w5.heap.size, 1, none⟩ = some (.slice B5t x0t.length d5t) := by rw [hx8_1.cell (by simp <;> omega)]; try go_simp
  have k8_1_2 : w8.cell? ⟨w5.heap.size, 2, none⟩ = some (.int .i64 n0) := by rw [hx8_1.cell (by simp <;> omega)]; try go_simp
  have kl8_0 : w.heap.size < w8.heap.size := by omega
  have kl8_1 : w5.heap.size < w8.heap.size := by omega
  go_wp2_with fail
  go_region_held3 (fun W => W.cell? ⟨w.heap.size, 0, none⟩ = some (.slice A0b x0b.length c0b) ∧ W.cell? ⟨w.heap.size, 1, none⟩ = some (.slice A0t x0t.length c0t) ∧ W.cell? ⟨w.heap.size, 2, none⟩ = some (.int .i64 n0) ∧ W.cell? ⟨w5.heap.size, 0, none⟩ = some (.slice B5b x0b.length d5b) ∧ W.cell? ⟨w5.heap.size, 1, none⟩ = some (.slice B5t x0t.length d5t) ∧ W.cell? ⟨w5.heap.size, 2, none⟩ = some (.int .i64 n0))
    (first | go_keep | (go_split_ands; refine ⟨?_, ?_, ?_, ?_, ?_, ?_⟩ <;> (refine (hc9.cell ?_).trans ?_; (focus (simp <;> omega)); assumption)) | (go_split_ands; refine ⟨?_, ?_, ?_, ?_, ?_, ?_⟩ <;> (refine (hc10.cell ?_).trans ?_; (focus (simp <;> omega)); assumption)))
    ((first
      | (go_at_call 16; (with_reducible refine (toScaffold_any A0b c0b x0b A0t c0t x0t n0 _ ((hr0b.below hb8).more hb8.size).drew ((hr0t.below hb8).more hb8.size).drew (by omega) (by omega)).mono ?_); rintro e w9 ⟨B9b, d9b, B9t, d9t, rfl, ho9b, ho9t, hap9, hc9⟩; have hl9b := ho9b.blk_lt; have hl9t := ho9t.blk_lt; (try simp at hl9b); (try simp at hl9t); have hb9 := bthen hb8.drew (Nat.le_refl _) hc9; have hs9 := hc9.size; (try simp at hs9); have ho5b'''' := Own.below (Own.drew ho5b''') hc9; have ho5t'''' := Own.below (Own.drew ho5t''') hc9)
      | (go_at_call 18; (with_reducible refine (eqScaffold_any B5b d5b x0b B5t d5t x0t n0 B9b d9b B9t d9t _ (Own.rd ho5b'''') (Own.rd ho5t'''') (Own.rd ho9b) (Own.rd ho9t)).mono ?_); rintro e w10 ⟨rfl, hc10⟩; have hb10 := bthen hb9 (Nat.le_refl _) hc10; have hs10 := hc10.size; (try simp at hs10); have ho5b''''' := Own.below ho5b'''' hc10; have ho5t''''' := Own.below ho5t'''' hc10; have ho9b' := Own.below ho9b hc10; have ho9t' := Own.below ho9t hc10)))
  have hx9_0 := bthen hx8_0.drew (Nat.le_refl _) hc9
  have hx9_1 := bthen hx8_1.drew (Nat.le_refl _) hc9
  have ho4''''' := Own.below (Own.drew ho4'''') hc9
  have ho6''' := Own.below (Own.drew ho6'') hc9
  have ho7'' := Own.below (Own.drew ho7') hc9
  have hx10_0 := bthen hx9_0 (Nat.le_refl _) hc10
  have hx10_1 := bthen hx9_1 (Nat.le_refl _) hc10
  have ho4'''''' := Own.below ho4''''' hc10
  have ho6'''' := Own.below ho6''' hc10
  have ho7''' := Own.below ho7'' hc10
  have hy10_0 := hx10_0.size
  (try simp at hy10_0)
  have hy10_1 := hx10_1.size
  (try simp at hy10_1)
  clear k8_0_0 k8_0_1 k8_0_2 k8_1_0 k8_1_1 k8_1_2 kl8_0 kl8_1
  have k10_0_0 : w10.cell? ⟨w.heap.size, 0, none⟩ = some (.slice A0b x0b.length c0b) := by rw [hx10_0.cell (by simp <;> omega)]; try go_simp
  have k10_0_1 : w10.cell? ⟨w.heap.size, 1, none⟩ = some (.slice A0t x0t.length c0t) := by rw [hx10_0.cell (by simp <;> omega)]; try go_simp
  have k10_0_2 : w10.cell? ⟨w.heap.size, 2, none⟩ = some (.int .i64 n0) := by rw [hx10_0.cell (by simp <;> omega)]; try go_simp
  have k10_1_0 : w10.cell? ⟨w5.heap.size, 0, none⟩ = some (.slice B5b x0b.length d5b) := by rw [hx10_1.cell (by simp <;> omega)]; try go_simp
  have k10_1_1 : w10.cell? ⟨w5.heap.size, 1, none⟩ = some (.slice B5t x0t.length d5t) := by rw [hx10_1.cell (by simp <;> omega)]; try go_simp
  have k10_1_2 : w10.cell? ⟨w5.heap.size, 2, none⟩ = some (.int .i64 n0) := by rw [hx10_1.cell (by simp <;> omega)]; try go_simp
  have kl10_0 : w.heap.size < w10.heap.size := by omega
  have kl10_1 : w5.heap.size < w10.heap.size := by omega
  clear ho9b'
  clear ho9t'
  go_wp2_with fail
  refine (toStandS_any A1 c1 x1 _ ((hr1.below hb10).more hb10.size) (by omega)).mono ?_
  rintro e w11 ⟨B11, d11, rfl, ho11, hc11⟩
  have hl11 := ho11.blk_lt
  (try simp at hl11)
  have hb11 := bthen hb10 (Nat.le_refl _) hc11
  have hs11 := hc11.size
  (try simp at hs11)
  have hx11_0 := bthen hx10_0 (Nat.le_refl _) hc11
  have hy11_0 := hx11_0.size
  (try simp at hy11_0)
  have hx11_1 := bthen hx10_1 (Nat.le_refl _) hc11
  have hy11_1 := hx11_1.size
  (try simp at hy11_1)
  have ho4''''''' := Own.below ho4'''''' hc11
  have ho5b'''''' := Own.below ho5b''''' hc11
  have ho5t'''''' := Own.below ho5t''''' hc11
  have ho6''''' := Own.below ho6'''' hc11
  have ho7'''' := Own.below ho7''' hc11
  clear k10_0_0 k10_0_1 k10_0_2 k10_1_0 k10_1_1 k10_1_2 kl10_0 kl10_1
  have k11_0_0 : w11.cell? ⟨w.heap.size, 0, none⟩ = some (.slice A0b x0b.length c0b) := by rw [hx11_0.cell (by simp <;> omega)]; try go_simp
  have k11_0_1 : w11.cell? ⟨w.heap.size, 1, none⟩ = some (.slice A0t x0t.length c0t) := by rw [hx11_0.cell (by simp <;> omega)]; try go_simp
  have k11_0_2 : w11.cell? ⟨w.heap.size, 2, none⟩ = some (.int .i64 n0) := by rw [hx11_0.cell (by simp <;> omega)]; try go_simp
  have k11_1_0 : w11.cell? ⟨w5.heap.size, 0, none⟩ = some (.slice B5b x0b.length d5b) := by rw [hx11_1.cell (by simp <;> omega)]; try go_simp
  have k11_1_1 : w11.cell? ⟨w5.heap.size, 1, none⟩ = some (.slice B5t x0t.length d5t) := by rw [hx11_1.cell (by simp <;> omega)]; try go_simp
  have k11_1_2 : w11.cell? ⟨w5.heap.size, 2, none⟩ = some (.int .i64 n0) := by rw [hx11_1.cell (by simp <;> omega)]; try go_simp
  have kl11_0 : w.heap.size < w11.heap.size := by omega
  have kl11_1 : w5.heap.size < w11.heap.size := by omega
  go_wp2_with fail
  refine (eqStandS_same B6 d6 B11 d11 _ _ (Own.rd ho6''''') (Own.rd ho11)).mono ?_
  rintro e w12 ⟨rfl, hc12⟩
  have hb12 := bthen hb11 (Nat.le_refl _) hc12
  have hs12 := hc12.size
  (try simp at hs12)
  have hx12_0 := bthen hx11_0 (Nat.le_refl _) hc12
  have hy12_0 := hx12_0.size
  (try simp at hy12_0)
  have hx12_1 := bthen hx11_1 (Nat.le_refl _) hc12
  have hy12_1 := hx12_1.size
  (try simp at hy12_1)
  have ho4'''''''' := Own.below ho4''''''' hc12
  have ho5b''''''' := Own.below ho5b'''''' hc12
  have ho5t''''''' := Own.below ho5t'''''' hc12
  have ho6'''''' := Own.below ho6''''' hc12
  have ho7''''' := Own.below ho7'''' hc12
  have ho11' := Own.below ho11 hc12
  clear k11_0_0 k11_0_1 k11_0_2 k11_1_0 k11_1_1 k11_1_2 kl11_0 kl11_1
  have k12_0_0 : w12.cell? ⟨w.heap.size, 0, none⟩ = some (.slice A0b x0b.length c0b) := by rw [hx12_0.cell (by simp <;> omega)]; try go_simp
  have k12_0_1 : w12.cell? ⟨w.heap.size, 1, none⟩ = some (.slice A0t x0t.length c0t) := by rw [hx12_0.cell (by simp <;> omega)]; try go_simp
  have k12_0_2 : w12.cell? ⟨w.heap.size, 2, none⟩ = some (.int .i64 n0) := by rw [hx12_0.cell (by simp <;> omega)]; try go_simp
  have k12_1_0 : w12.cell? ⟨w5.heap.size, 0, none⟩ = some (.slice B5b x0b.length d5b) := by rw [hx12_1.cell (by simp <;> omega)]; try go_simp
  have k12_1_1 : w12.cell? ⟨w5.heap.size, 1, none⟩ = some (.slice B5t x0t.length d5t) := by rw [hx12_1.cell (by simp <;> omega)]; try go_simp
  have k12_1_2 : w12.cell? ⟨w5.heap.size, 2, none⟩ = some (.int .i64 n0) := by rw [hx12_1.cell (by simp <;> omega)]; try go_simp
  have kl12_0 : w.heap.size < w12.heap.size := by omega
  have kl12_1 : w5.heap.size < w12.heap.size := by omega
  clear ho11'
  go_wp2_with fail
  refine (markScaffold_any B5b d5b x0b B5t d5t x0t n0 _ _ _ _ ho5b''''''' ho5t''''''' hap5 (by omega) (by omega)).mono ?_
  rintro e w13 ⟨rfl, hm13, hm132, hk13⟩
  have hb13 := hk13.below hb12 hb12.size (fun b hb => by rcases hb with hg2 | hg2 <;> first | (have h1 := hl5b _ hg2; omega) | (have h1 := hl5t _ hg2; omega))
  have hs13 := hk13.size
  have hx13_0 := hk13.below hx12_0 hx12_0.size (fun b hb => by rcases hb with hg2 | hg2 <;> first | (have h1 := hl5b _ hg2; simp at *; omega) | (have h1 := hl5t _ hg2; simp at *; omega))
  have kz13_1_0 : w13.cell? ⟨w5.heap.size, 0, none⟩ = some (.slice B5b x0b.length d5b) := (hk13.cell _ (by simp <;> omega) (fun hS => by rcases hS with hg2 | hg2 <;> first | (have h1 := hl5b _ hg2; simp at h1 <;> omega) | (have h1 := hl5t _ hg2; simp at h1 <;> omega))).trans k12_1_0
  have kz13_1_1 : w13.cell? ⟨w5.heap.size, 1, none⟩ = some (.slice B5t x0t.length d5t) := (hk13.cell _ (by simp <;> omega) (fun hS => by rcases hS with hg2 | hg2 <;> first | (have h1 := hl5b _ hg2; simp at h1 <;> omega) | (have h1 := hl5t _ hg2; simp at h1 <;> omega))).trans k12_1_1
  have kz13_1_2 : w13.cell? ⟨w5.heap.size, 2, none⟩ = some (.int .i64 n0) := (hk13.cell _ (by simp <;> omega) (fun hS => by rcases hS with hg2 | hg2 <;> first | (have h1 := hl5b _ hg2; simp at h1 <;> omega) | (have h1 := hl5t _ hg2; simp at h1 <;> omega))).trans k12_1_2
  have hx13_1 := Below.refl w13.heap.size w13
  have ho4''''''''' := hk13.own ho4'''''''' (fun g hg hS => by have h2 := hl4 g hg; rcases hS with hg2 | hg2 <;> first | (have h1 := hl5b _ hg2; (first | omega | (simp at h2; omega))) | (have h1 := hl5t _ hg2; (first | omega | (simp at h2; omega))))
  have ho6''''''' := hk13.own ho6'''''' (fun g hg hS => by have h2 := hl6 g hg; rcases hS with hg2 | hg2 <;> first | (have h1 := hl5b _ hg2; (first | omega | (simp at h2; omega))) | (have h1 := hl5t _ hg2; (first | omega | (simp at h2; omega))))
  have ho7'''''' := hk13.own ho7''''' (fun g hg hS => by have h2 := hl7 g hg; rcases hS with hg2 | hg2 <;> first | (have h1 := hl5b _ hg2; (first | omega | (simp at h2; omega))) | (have h1 := hl5t _ hg2; (first | omega | (simp at h2; omega))))
  clear k12_0_0 k12_0_1 k12_0_2 k12_1_0 k12_1_1 k12_1_2 kl12_0 kl12_1
  have k13_0_0 : w13.cell? ⟨w.heap.size, 0, none⟩ = some (.slice A0b x0b.length c0b) := by rw [hx13_0.cell (by simp <;> omega)]; try go_simp
  have k13_0_1 : w13.cell? ⟨w.heap.size, 1, none⟩ = some (.slice A0t x0t.length c0t) := by rw [hx13_0.cell (by simp <;> omega)]; try go_simp
  have k13_0_2 : w13.cell? ⟨w.heap.size, 2, none⟩ = some (.int .i64 n0) := by rw [hx13_0.cell (by simp <;> omega)]; try go_simp
  have k13_1_0 : w13.cell? ⟨w5.heap.size, 0, none⟩ = some (.slice B5b x0b.length d5b) := by rw [hx13_1.cell (by simp <;> omega)]; try go_simp
  have k13_1_1 : w13.cell? ⟨w5.heap.size, 1, none⟩ = some (.slice B5t x0t.length d5t) := by rw [hx13_1.cell (by simp <;> omega)]; try go_simp
  have k13_1_2 : w13.cell? ⟨w5.heap.size, 2, none⟩ = some (.int .i64 n0) := by rw [hx13_1.cell (by simp <;> omega)]; try go_simp
  have kl13_0 : w.heap.size < w13.heap.size := by omega
  have kl13_1 : w5.heap.size < w13.heap.size := by omega
  go_wp2_with fail
  refine (markStandS_any B6 d6 _ _ _ _ ho6''''''' (by omega) (by omega)).mono ?_
  rintro e w14 ⟨rfl, hm14, hk14⟩
  have hb14 := hk14.below hb13 hb13.size (fun b hb => by have h1 := hl6 _ hb; omega)
  have hs14 := hk14.size
  have hx14_0 := hk14.below hx13_0 hx13_0.size (fun b hb => by have h1 := hl6 _ hb; simp at *; omega)
  have kz14_1_0 : w14.cell? ⟨w5.heap.size, 0, none⟩ = some (.slice B5b x0b.length d5b) := (hk14.cell _ (by simp <;> omega) (fun hS => by have h1 := hl6 _ hS; simp at h1 <;> omega)).trans k13_1_0
  have kz14_1_1 : w14.cell? ⟨w5.heap.size, 1, none⟩ = some (.slice B5t x0t.length d5t) := (hk14.cell _ (by simp <;> omega) (fun hS => by have h1 := hl6 _ hS; simp at h1 <;> omega)).trans k13_1_1
  have kz14_1_2 : w14.cell? ⟨w5.heap.size, 2, none⟩ = some (.int .i64 n0) := (hk14.cell _ (by simp <;> omega) (fun hS => by have h1 := hl6 _ hS; simp at h1 <;> omega)).trans k13_1_2
  have hx14_1 := Below.refl w14.heap.size w14
  have ho4'''''''''' := hk14.own ho4''''''''' (fun g hg hS => by have h2 := hl4 g hg; have h1 := hl6 _ hS; (first | omega | (simp at h2; omega)))
  have hm13' := hk14.own hm13 (fun g hg hS => by have h2 := hl5b g hg; have h1 := hl6 _ hS; (first | omega | (simp at h2; omega)))
  have hm132' := hk14.own hm132 (fun g hg hS => by have h2 := hl5t g hg; have h1 := hl6 _ hS; (first | omega | (simp at h2; omega)))
  have ho7''''''' := hk14.own ho7'''''' (fun g hg hS => by have h2 := hl7 g hg; have h1 := hl6 _ hS; (first | omega | (simp at h2; omega)))
  clear k13_0_0 k13_0_1 k13_0_2 k13_1_0 k13_1_1 k13_1_2 kl13_0 kl13_1
  have k14_0_0 : w14.cell? ⟨w.heap.size, 0, none⟩ = some (.slice A0b x0b.length c0b) := by rw [hx14_0.cell (by simp <;> omega)]; try go_simp
  have k14_0_1 : w14.cell? ⟨w.heap.size, 1, none⟩ = some (.slice A0t x0t.length c0t) := by rw [hx14_0.cell (by simp <;> omega)]; try go_simp
  have k14_0_2 : w14.cell? ⟨w.heap.size, 2, none⟩ = some (.int .i64 n0) := by rw [hx14_0.cell (by simp <;> omega)]; try go_simp
  have k14_1_0 : w14.cell? ⟨w5.heap.size, 0, none⟩ = some (.slice B5b x0b.length d5b) := by rw [hx14_1.cell (by simp <;> omega)]; try go_simp
  have k14_1_1 : w14.cell? ⟨w5.heap.size, 1, none⟩ = some (.slice B5t x0t.length d5t) := by rw [hx14_1.cell (by simp <;> omega)]; try go_simp
  have k14_1_2 : w14.cell? ⟨w5.heap.size, 2, none⟩ = some (.int .i64 n0) := by rw [hx14_1.cell (by simp <;> omega)]; try go_simp
  have kl14_0 : w.heap.size < w14.heap.size := by omega
  have kl14_1 : w5.heap.size < w14.heap.size := by omega
  go_wp2_with fail
  refine (eqInt64S_same B7 d7 B4 d4 _ _ (Own.rd ho7''''''') (Own.rd ho4'''''''''')).mono ?_
  rintro e w15 ⟨rfl, hc15⟩
  have hb15 := bthen hb14 (Nat.le_refl _) hc15
  have hs15 := hc15.size
  (try simp at hs15)
  have hx15_0 := bthen hx14_0 (Nat.le_refl _) hc15
  have hy15_0 := hx15_0.size
  (try simp at hy15_0)
  have hx15_1 := bthen hx14_1 (Nat.le_refl _) hc15
  have hy15_1 := hx15_1.size
  (try simp at hy15_1)
  have ho4''''''''''' := Own.below ho4'''''''''' hc15
  have hm13'' := Own.below hm13' hc15
  have hm132'' := Own.below hm132' hc15
  have hm14' := Own.below hm14 hc15
  have ho7'''''''' := Own.below ho7''''''' hc15
  clear k14_0_0 k14_0_1 k14_0_2 k14_1_0 k14_1_1 k14_1_2 kl14_0 kl14_1
  have k15_0_0 : w15.cell? ⟨w.heap.size, 0, none⟩ = some (.slice A0b x0b.length c0b) := by rw [hx15_0.cell (by simp <;> omega)]; try go_simp
  have k15_0_1 : w15.cell? ⟨w.heap.size, 1, none⟩ = some (.slice A0t x0t.length c0t) := by rw [hx15_0.cell (by simp <;> omega)]; try go_simp
  have k15_0_2 : w15.cell? ⟨w.heap.size, 2, none⟩ = some (.int .i64 n0) := by rw [hx15_0.cell (by simp <;> omega)]; try go_simp
  have k15_1_0 : w15.cell? ⟨w5.heap.size, 0, none⟩ = some (.slice B5b x0b.length d5b) := by rw [hx15_1.cell (by simp <;> omega)]; try go_simp
  have k15_1_1 : w15.cell? ⟨w5.heap.size, 1, none⟩ = some (.slice B5t x0t.length d5t) := by rw [hx15_1.cell (by simp <;> omega)]; try go_simp
  have k15_1_2 : w15.cell? ⟨w5.heap.size, 2, none⟩ = some (.int .i64 n0) := by rw [hx15_1.cell (by simp <;> omega)]; try go_simp
  have kl15_0 : w.heap.size < w15.heap.size := by omega
  have kl15_1 : w5.heap.size < w15.heap.size := by omega
  go_wp2_with fail
  refine (markInt64S_any B7 d7 _ _ _ _ ho7'''''''' (by omega) (by omega)).mono ?_
  rintro e w16 ⟨rfl, hm16, hk16⟩
  have hb16 := hk16.below hb15 hb15.size (fun b hb => by have h1 := hl7 _ hb; omega)
  have hs16 := hk16.size
  have hx16_0 := hk16.below hx15_0 hx15_0.size (fun b hb => by have h1 := hl7 _ hb; simp at *; omega)
  have kz16_1_0 : w16.cell? ⟨w5.heap.size, 0, none⟩ = some (.slice B5b x0b.length d5b) := (hk16.cell _ (by simp <;> omega) (fun hS => by have h1 := hl7 _ hS; simp at h1 <;> omega)).trans k15_1_0
  have kz16_1_1 : w16.cell? ⟨w5.heap.size, 1, none⟩ = some (.slice B5t x0t.length d5t) := (hk16.cell _ (by simp <;> omega) (fun hS => by have h1 := hl7 _ hS; simp at h1 <;> omega)).trans k15_1_1
  have kz16_1_2 : w16.cell? ⟨w5.heap.size, 2, none⟩ = some (.int .i64 n0) := (hk16.cell _ (by simp <;> omega) (fun hS => by have h1 := hl7 _ hS; simp at h1 <;> omega)).trans k15_1_2
  have hx16_1 := Below.refl w16.heap.size w16
  have ho4'''''''''''' := hk16.own ho4''''''''''' (fun g hg hS => by have h2 := hl4 g hg; have h1 := hl7 _ hS; (first | omega | (simp at h2; omega)))
  have hm13''' := hk16.own hm13'' (fun g hg hS => by have h2 := hl5b g hg; have h1 := hl7 _ hS; (first | omega | (simp at h2; omega)))
  have hm132''' := hk16.own hm132'' (fun g hg hS => by have h2 := hl5t g hg; have h1 := hl7 _ hS; (first | omega | (simp at h2; omega)))
  have hm14'' := hk16.own hm14' (fun g hg hS => by have h2 := hl6 g hg; have h1 := hl7 _ hS; (first | omega | (simp at h2; omega)))
  clear k15_0_0 k15_0_1 k15_0_2 k15_1_0 k15_1_1 k15_1_2 kl15_0 kl15_1
  have k16_0_0 : w16.cell? ⟨w.heap.size, 0, none⟩ = some (.slice A0b x0b.length c0b) := by rw [hx16_0.cell (by simp <;> omega)]; try go_simp
  have k16_0_1 : w16.cell? ⟨w.heap.size, 1, none⟩ = some (.slice A0t x0t.length c0t) := by rw [hx16_0.cell (by simp <;> omega)]; try go_simp
  have k16_0_2 : w16.cell? ⟨w.heap.size, 2, none⟩ = some (.int .i64 n0) := by rw [hx16_0.cell (by simp <;> omega)]; try go_simp
  have k16_1_0 : w16.cell? ⟨w5.heap.size, 0, none⟩ = some (.slice B5b x0b.length d5b) := by rw [hx16_1.cell (by simp <;> omega)]; try go_simp
  have k16_1_1 : w16.cell? ⟨w5.heap.size, 1, none⟩ = some (.slice B5t x0t.length d5t) := by rw [hx16_1.cell (by simp <;> omega)]; try go_simp
  have k16_1_2 : w16.cell? ⟨w5.heap.size, 2, none⟩ = some (.int .i64 n0) := by rw [hx16_1.cell (by simp <;> omega)]; try go_simp
  have kl16_0 : w.heap.size < w16.heap.size := by omega
  have kl16_1 : w5.heap.size < w16.heap.size := by omega
  go_wp2_with fail
  refine (heldInt64S_any B7 d7 _ 1 _ _ (Own.rd hm16) (by omega) (by omega)).mono ?_
  rintro e wx ⟨rfl, rfl⟩
  go_wp2_with fail
  refine (toScaffold_any A0b c0b x0b A0t c0t x0t n0 _ ((hr0b.below hb16).more hb16.size) ((hr0t.below hb16).more hb16.size) (by omega) (by omega)).mono ?_
  rintro e w17 ⟨B17b, d17b, B17t, d17t, rfl, ho17b, ho17t, hap17, hc17⟩
  have hl17b := ho17b.blk_lt
  have hl17t := ho17t.blk_lt
  (try simp at hl17b)
  (try simp at hl17t)
  have hb17 := bthen hb16 (Nat.le_refl _) hc17
  have hs17 := hc17.size
  (try simp at hs17)
  have hx17_0 := bthen hx16_0 (Nat.le_refl _) hc17
  have hy17_0 := hx17_0.size
  (try simp at hy17_0)
  have hx17_1 := bthen hx16_1 (Nat.le_refl _) hc17
  have hy17_1 := hx17_1.size
  (try simp at hy17_1)
  have ho4''''''''''''' := Own.below ho4'''''''''''' hc17
  have hm13'''' := Own.below hm13''' hc17
  have hm132'''' := Own.below hm132''' hc17
  have hm14''' := Own.below hm14'' hc17
  have hm16' := Own.below hm16 hc17
  clear k16_0_0 k16_0_1 k16_0_2 k16_1_0 k16_1_1 k16_1_2 kl16_0 kl16_1
  have k17_0_0 : w17.cell? ⟨w.heap.size, 0, none⟩ = some (.slice A0b x0b.length c0b) := by rw [hx17_0.cell (by simp <;> omega)]; try go_simp
  have k17_0_1 : w17.cell? ⟨w.heap.size, 1, none⟩ = some (.slice A0t x0t.length c0t) := by rw [hx17_0.cell (by simp <;> omega)]; try go_simp
  have k17_0_2 : w17.cell? ⟨w.heap.size, 2, none⟩ = some (.int .i64 n0) := by rw [hx17_0.cell (by simp <;> omega)]; try go_simp
  have k17_1_0 : w17.cell? ⟨w5.heap.size, 0, none⟩ = some (.slice B5b x0b.length d5b) := by rw [hx17_1.cell (by simp <;> omega)]; try go_simp
  have k17_1_1 : w17.cell? ⟨w5.heap.size, 1, none⟩ = some (.slice B5t x0t.length d5t) := by rw [hx17_1.cell (by simp <;> omega)]; try go_simp
  have k17_1_2 : w17.cell? ⟨w5.heap.size, 2, none⟩ = some (.int .i64 n0) := by rw [hx17_1.cell (by simp <;> omega)]; try go_simp
  have kl17_0 : w.heap.size < w17.heap.size := by omega
  have kl17_1 : w5.heap.size < w17.heap.size := by omega
  go_wp2_with fail
  refine (toStandS_any A1 c1 x1 _ ((hr1.below hb17).more hb17.size) (by omega)).mono ?_
  rintro e w18 ⟨B18, d18, rfl, ho18, hc18⟩
  have hl18 := ho18.blk_lt
  (try simp at hl18)
  have hb18 := bthen hb17 (Nat.le_refl _) hc18
  have hs18 := hc18.size
  (try simp at hs18)
  have hx18_0 := bthen hx17_0 (Nat.le_refl _) hc18
  have hy18_0 := hx18_0.size
  (try simp at hy18_0)
  have hx18_1 := bthen hx17_1 (Nat.le_refl _) hc18
  have hy18_1 := hx18_1.size
  (try simp at hy18_1)
  have ho4'''''''''''''' := Own.below ho4''''''''''''' hc18
  have hm13''''' := Own.below hm13'''' hc18
  have hm132''''' := Own.below hm132'''' hc18
  have hm14'''' := Own.below hm14''' hc18
  have hm16'' := Own.below hm16' hc18
  have ho17b' := Own.below ho17b hc18
  have ho17t' := Own.below ho17t hc18
  clear k17_0_0 k17_0_1 k17_0_2 k17_1_0 k17_1_1 k17_1_2 kl17_0 kl17_1
  have k18_0_0 : w18.cell? ⟨w.heap.size, 0, none⟩ = some (.slice A0b x0b.length c0b) := by rw [hx18_0.cell (by simp <;> omega)]; try go_simp
  have k18_0_1 : w18.cell? ⟨w.heap.size, 1, none⟩ = some (.slice A0t x0t.length c0t) := by rw [hx18_0.cell (by simp <;> omega)]; try go_simp
  have k18_0_2 : w18.cell? ⟨w.heap.size, 2, none⟩ = some (.int .i64 n0) := by rw [hx18_0.cell (by simp <;> omega)]; try go_simp
  have k18_1_0 : w18.cell? ⟨w5.heap.size, 0, none⟩ = some (.slice B5b x0b.length d5b) := by rw [hx18_1.cell (by simp <;> omega)]; try go_simp
  have k18_1_1 : w18.cell? ⟨w5.heap.size, 1, none⟩ = some (.slice B5t x0t.length d5t) := by rw [hx18_1.cell (by simp <;> omega)]; try go_simp
  have k18_1_2 : w18.cell? ⟨w5.heap.size, 2, none⟩ = some (.int .i64 n0) := by rw [hx18_1.cell (by simp <;> omega)]; try go_simp
  have kl18_0 : w.heap.size < w18.heap.size := by omega
  have kl18_1 : w5.heap.size < w18.heap.size := by omega
  go_wp2_with fail
  refine (implRoomFor_any B17b d17b x0b B17t d17t x0t n0 B18 d18 x1 a2 _ (Own.rd ho17b') (Own.rd ho17t') (Own.rd ho18)).mono ?_
  rintro e w19 ⟨B19, d19, rfl, ho19, hc19⟩
  have hl19 := ho19.blk_lt
  (try simp at hl19)
  have hn19 := rfP_len x0b x0t n0 x1 a2
  have hb19 := bthen hb18 (Nat.le_refl _) hc19
  have hs19 := hc19.size
  (try simp at hs19)
  have hx19_0 := bthen hx18_0 (Nat.le_refl _) hc19
  have hy19_0 := hx19_0.size
  (try simp at hy19_0)
  have hx19_1 := bthen hx18_1 (Nat.le_refl _) hc19
  have hy19_1 := hx19_1.size
  (try simp at hy19_1)
  have ho4''''''''''''''' := Own.below ho4'''''''''''''' hc19
  have hm13'''''' := Own.below hm13''''' hc19
  have hm132'''''' := Own.below hm132''''' hc19
  have hm14''''' := Own.below hm14'''' hc19
  have hm16''' := Own.below hm16'' hc19
  have ho17b'' := Own.below ho17b' hc19
  have ho17t'' := Own.below ho17t' hc19
  have ho18' := Own.below ho18 hc19
  clear k18_0_0 k18_0_1 k18_0_2 k18_1_0 k18_1_1 k18_1_2 kl18_0 kl18_1
  have k19_0_0 : w19.cell? ⟨w.heap.size, 0, none⟩ = some (.slice A0b x0b.length c0b) := by rw [hx19_0.cell (by simp <;> omega)]; try go_simp
  have k19_0_1 : w19.cell? ⟨w.heap.size, 1, none⟩ = some (.slice A0t x0t.length c0t) := by rw [hx19_0.cell (by simp <;> omega)]; try go_simp
  have k19_0_2 : w19.cell? ⟨w.heap.size, 2, none⟩ = some (.int .i64 n0) := by rw [hx19_0.cell (by simp <;> omega)]; try go_simp
  have k19_1_0 : w19.cell? ⟨w5.heap.size, 0, none⟩ = some (.slice B5b x0b.length d5b) := by rw [hx19_1.cell (by simp <;> omega)]; try go_simp
  have k19_1_1 : w19.cell? ⟨w5.heap.size, 1, none⟩ = some (.slice B5t x0t.length d5t) := by rw [hx19_1.cell (by simp <;> omega)]; try go_simp
  have k19_1_2 : w19.cell? ⟨w5.heap.size, 2, none⟩ = some (.int .i64 n0) := by rw [hx19_1.cell (by simp <;> omega)]; try go_simp
  have kl19_0 : w.heap.size < w19.heap.size := by omega
  have kl19_1 : w5.heap.size < w19.heap.size := by omega
  clear ho17b''
  clear ho17t''
  clear ho18'
  go_wp2_with fail
  refine (eqInt64S_same B19 d19 B4 d4 _ _ (Own.rd ho19) (Own.rd ho4''''''''''''''')).mono ?_
  rintro e w20 ⟨rfl, hc20⟩
  have hb20 := bthen hb19 (Nat.le_refl _) hc20
  have hs20 := hc20.size
  (try simp at hs20)
  have hx20_0 := bthen hx19_0 (Nat.le_refl _) hc20
  have hy20_0 := hx20_0.size
  (try simp at hy20_0)
  have hx20_1 := bthen hx19_1 (Nat.le_refl _) hc20
  have hy20_1 := hx20_1.size
  (try simp at hy20_1)
  have ho4'''''''''''''''' := Own.below ho4''''''''''''''' hc20
  have hm13''''''' := Own.below hm13'''''' hc20
  have hm132''''''' := Own.below hm132'''''' hc20
  have hm14'''''' := Own.below hm14''''' hc20
  have hm16'''' := Own.below hm16''' hc20
  have ho19' := Own.below ho19 hc20
  clear k19_0_0 k19_0_1 k19_0_2 k19_1_0 k19_1_1 k19_1_2 kl19_0 kl19_1
  have k20_0_0 : w20.cell? ⟨w.heap.size, 0, none⟩ = some (.slice A0b x0b.length c0b) := by rw [hx20_0.cell (by simp <;> omega)]; try go_simp
  have k20_0_1 : w20.cell? ⟨w.heap.size, 1, none⟩ = some (.slice A0t x0t.length c0t) := by rw [hx20_0.cell (by simp <;> omega)]; try go_simp
  have k20_0_2 : w20.cell? ⟨w.heap.size, 2, none⟩ = some (.int .i64 n0) := by rw [hx20_0.cell (by simp <;> omega)]; try go_simp
  have k20_1_0 : w20.cell? ⟨w5.heap.size, 0, none⟩ = some (.slice B5b x0b.length d5b) := by rw [hx20_1.cell (by simp <;> omega)]; try go_simp
  have k20_1_1 : w20.cell? ⟨w5.heap.size, 1, none⟩ = some (.slice B5t x0t.length d5t) := by rw [hx20_1.cell (by simp <;> omega)]; try go_simp
  have k20_1_2 : w20.cell? ⟨w5.heap.size, 2, none⟩ = some (.int .i64 n0) := by rw [hx20_1.cell (by simp <;> omega)]; try go_simp
  have kl20_0 : w.heap.size < w20.heap.size := by omega
  have kl20_1 : w5.heap.size < w20.heap.size := by omega
  go_wp2_with fail
  refine (heldInt64S_any B7 d7 _ 1 _ _ (Own.rd hm16'''') (by omega) (by omega)).mono ?_
  rintro e wx ⟨rfl, rfl⟩
  go_wp2_with fail
  go_ret
  exact ⟨rfl, hb20⟩
end Go.Proofs.Yteaojbmfjlmggaa
