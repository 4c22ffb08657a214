/-
  FnExactSameScaffold returns true for every argument: the walk.
-/
import Derived.Test.YteaojbmfjlmggaaScafLaw
import Derived.Test.YteaojbmfjlmggaaOpenSc
import Derived.Deep.RegionHeld3
namespace Go.Proofs.Yteaojbmfjlmggaa
open Go.ChangeShapes Go.WideShapes Go.RowKit

set_option maxRecDepth 100000 in
set_option maxHeartbeats 3200000 in
theorem lawSameScaffold_any (A0b : Option Addr) (c0b : Nat) (x0b : List Int) (A0t : Option Addr) (c0t : Nat) (x0t : List Int) (n0 : Int) (A1b : Option Addr) (c1b : Nat) (x1b : List Int) (A1t : Option Addr) (c1t : Nat) (x1t : List Int) (n1 : Int) (w : World) (hr0b : Rd LI w w.heap.size A0b c0b x0b) (hr0t : Rd LI w w.heap.size A0t c0t x0t) (_hi0 : (∀ n ∈ x0b, I64 n) ∧ (∀ n ∈ x0t, I64 n) ∧ I64 n0) (hr1b : Rd LI w w.heap.size A1b c1b x1b) (hr1t : Rd LI w w.heap.size A1t c1t x1t) (_hi1 : (∀ n ∈ x1b, I64 n) ∧ (∀ n ∈ x1t, I64 n) ∧ I64 n1) :
    Calls Try.prog 3 #[.agg #[.slice A0b x0b.length c0b, .slice A0t x0t.length c0t, .int .i64 n0], .agg #[.slice A1b x1b.length c1b, .slice A1t x1t.length c1t, .int .i64 n1]] w fun e w' => e = .returned (.bool true) ∧ Below w.heap.size w w' := by
  have hlen0b := hr0b.len63
  have hlen0t := hr0t.len63
  have hlen1b := hr1b.len63
  have hlen1t := hr1t.len63
  by_cases hz0 : 0 ≤ (szSc 1048576 x0b x0t)
  rotate_left
  · skip
    have hneg : (szSc 1048576 x0b x0t) < 0 := by omega
    go_enter Try.func3, Try.ntmps3
    go_wp2_with fail
    refine (szScaffold_any A0b c0b x0b A0t c0t x0t n0 1048576 _ hlen0b hlen0t (by omega) (by omega)).mono ?_
    rintro e w1 ⟨rfl, hc1⟩
    have hb1 := bthen (((Below.refl w.heap.size w).alloc (Nat.le_refl _) _).alloc (by simp) _) (Nat.le_refl _) hc1
    have hs1 := hc1.size
    (try simp at hs1)
    have hx1_0 := bthen (Below.refl ((w.alloc (.cells #[.slice A0b x0b.length c0b, .slice A0t x0t.length c0t, .int .i64 n0] 24)).alloc (.cells #[.slice A1b x1b.length c1b, .slice A1t x1t.length c1t, .int .i64 n1] 24)).heap.size ((w.alloc (.cells #[.slice A0b x0b.length c0b, .slice A0t x0t.length c0t, .int .i64 n0] 24)).alloc (.cells #[.slice A1b x1b.length c1b, .slice A1t x1t.length c1t, .int .i64 n1] 24))) (Nat.le_refl _) hc1
    have hy1_0 := hx1_0.size
    simp at hy1_0
    have hx1_1 := bthen (Below.refl ((w.alloc (.cells #[.slice A0b x0b.length c0b, .slice A0t x0t.length c0t, .int .i64 n0] 24)).alloc (.cells #[.slice A1b x1b.length c1b, .slice A1t x1t.length c1t, .int .i64 n1] 24)).heap.size ((w.alloc (.cells #[.slice A0b x0b.length c0b, .slice A0t x0t.length c0t, .int .i64 n0] 24)).alloc (.cells #[.slice A1b x1b.length c1b, .slice A1t x1t.length c1t, .int .i64 n1] 24))) (Nat.le_refl _) hc1
    have hy1_1 := hx1_1.size
    simp at hy1_1
    have k1_0_0 : w1.cell? ⟨w.heap.size, 0, none⟩ = some (.slice A0b x0b.length c0b) := by rw [hx1_0.cell (by simp <;> omega)]; try go_simp
    have k1_0_1 : w1.cell? ⟨w.heap.size, 1, none⟩ = some (.slice A0t x0t.length c0t) := by rw [hx1_0.cell (by simp <;> omega)]; try go_simp
    have k1_0_2 : w1.cell? ⟨w.heap.size, 2, none⟩ = some (.int .i64 n0) := by rw [hx1_0.cell (by simp <;> omega)]; try go_simp
    have k1_1_0 : w1.cell? ⟨w.heap.size + 1, 0, none⟩ = some (.slice A1b x1b.length c1b) := by rw [hx1_1.cell (by simp <;> omega)]; try go_simp
    have k1_1_1 : w1.cell? ⟨w.heap.size + 1, 1, none⟩ = some (.slice A1t x1t.length c1t) := by rw [hx1_1.cell (by simp <;> omega)]; try go_simp
    have k1_1_2 : w1.cell? ⟨w.heap.size + 1, 2, none⟩ = some (.int .i64 n1) := by rw [hx1_1.cell (by simp <;> omega)]; try go_simp
    have kl1_0 : w.heap.size < w1.heap.size := by omega
    have kl1_1 : w.heap.size + 1 < w1.heap.size := by omega
    go_wp2_with fail
    go_ret
    exact ⟨rfl, hb1⟩
  obtain ⟨hu0a, hu0b, hu0c⟩ := szSc_yes (by omega) hz0
  by_cases hz1 : 0 ≤ (szSc (szSc 1048576 x0b x0t) x1b x1t)
  rotate_left
  · skip
    have hneg : (szSc (szSc 1048576 x0b x0t) x1b x1t) < 0 := by omega
    go_enter Try.func3, Try.ntmps3
    go_wp2_with fail
    refine (szScaffold_any A0b c0b x0b A0t c0t x0t n0 1048576 _ hlen0b hlen0t (by omega) (by omega)).mono ?_
    rintro e w1 ⟨rfl, hc1⟩
    have hb1 := bthen (((Below.refl w.heap.size w).alloc (Nat.le_refl _) _).alloc (by simp) _) (Nat.le_refl _) hc1
    have hs1 := hc1.size
    (try simp at hs1)
    have hx1_0 := bthen (Below.refl ((w.alloc (.cells #[.slice A0b x0b.length c0b, .slice A0t x0t.length c0t, .int .i64 n0] 24)).alloc (.cells #[.slice A1b x1b.length c1b, .slice A1t x1t.length c1t, .int .i64 n1] 24)).heap.size ((w.alloc (.cells #[.slice A0b x0b.length c0b, .slice A0t x0t.length c0t, .int .i64 n0] 24)).alloc (.cells #[.slice A1b x1b.length c1b, .slice A1t x1t.length c1t, .int .i64 n1] 24))) (Nat.le_refl _) hc1
    have hy1_0 := hx1_0.size
    simp at hy1_0
    have hx1_1 := bthen (Below.refl ((w.alloc (.cells #[.slice A0b x0b.length c0b, .slice A0t x0t.length c0t, .int .i64 n0] 24)).alloc (.cells #[.slice A1b x1b.length c1b, .slice A1t x1t.length c1t, .int .i64 n1] 24)).heap.size ((w.alloc (.cells #[.slice A0b x0b.length c0b, .slice A0t x0t.length c0t, .int .i64 n0] 24)).alloc (.cells #[.slice A1b x1b.length c1b, .slice A1t x1t.length c1t, .int .i64 n1] 24))) (Nat.le_refl _) hc1
    have hy1_1 := hx1_1.size
    simp at hy1_1
    have k1_0_0 : w1.cell? ⟨w.heap.size, 0, none⟩ = some (.slice A0b x0b.length c0b) := by rw [hx1_0.cell (by simp <;> omega)]; try go_simp
    have k1_0_1 : w1.cell? ⟨w.heap.size, 1, none⟩ = some (.slice A0t x0t.length c0t) := by rw [hx1_0.cell (by simp <;> omega)]; try go_simp
    have k1_0_2 : w1.cell? ⟨w.heap.size, 2, none⟩ = some (.int .i64 n0) := by rw [hx1_0.cell (by simp <;> omega)]; try go_simp
    have k1_1_0 : w1.cell? ⟨w.heap.size + 1, 0, none⟩ = some (.slice A1b x1b.length c1b) := by rw [hx1_1.cell (by simp <;> omega)]; try go_simp
    have k1_1_1 : w1.cell? ⟨w.heap.size + 1, 1, none⟩ = some (.slice A1t x1t.length c1t) := by rw [hx1_1.cell (by simp <;> omega)]; try go_simp
    have k1_1_2 : w1.cell? ⟨w.heap.size + 1, 2, none⟩ = some (.int .i64 n1) := by rw [hx1_1.cell (by simp <;> omega)]; try go_simp
    have kl1_0 : w.heap.size < w1.heap.size := by omega
    have kl1_1 : w.heap.size + 1 < w1.heap.size := by omega
    go_wp2_with fail
    refine (szScaffold_any A1b c1b x1b A1t c1t x1t n1 (szSc 1048576 x0b x0t) _ hlen1b hlen1t (by omega) (by omega)).mono ?_
    rintro e w2 ⟨rfl, hc2⟩
    have hb2 := bthen hb1 (Nat.le_refl _) hc2
    have hs2 := hc2.size
    (try simp at hs2)
    have hx2_0 := bthen hx1_0 (Nat.le_refl _) hc2
    have hy2_0 := hx2_0.size
    simp at hy2_0
    have hx2_1 := bthen hx1_1 (Nat.le_refl _) hc2
    have hy2_1 := hx2_1.size
    simp at hy2_1
    clear k1_0_0 k1_0_1 k1_0_2 k1_1_0 k1_1_1 k1_1_2 kl1_0 kl1_1
    have k2_0_0 : w2.cell? ⟨w.heap.size, 0, none⟩ = some (.slice A0b x0b.length c0b) := by rw [hx2_0.cell (by simp <;> omega)]; try go_simp
    have k2_0_1 : w2.cell? ⟨w.heap.size, 1, none⟩ = some (.slice A0t x0t.length c0t) := by rw [hx2_0.cell (by simp <;> omega)]; try go_simp
    have k2_0_2 : w2.cell? ⟨w.heap.size, 2, none⟩ = some (.int .i64 n0) := by rw [hx2_0.cell (by simp <;> omega)]; try go_simp
    have k2_1_0 : w2.cell? ⟨w.heap.size + 1, 0, none⟩ = some (.slice A1b x1b.length c1b) := by rw [hx2_1.cell (by simp <;> omega)]; try go_simp
    have k2_1_1 : w2.cell? ⟨w.heap.size + 1, 1, none⟩ = some (.slice A1t x1t.length c1t) := by rw [hx2_1.cell (by simp <;> omega)]; try go_simp
    have k2_1_2 : w2.cell? ⟨w.heap.size + 1, 2, none⟩ = some (.int .i64 n1) := by rw [hx2_1.cell (by simp <;> omega)]; try go_simp
    have kl2_0 : w.heap.size < w2.heap.size := by omega
    have kl2_1 : w.heap.size + 1 < w2.heap.size := by omega
    go_wp2_with fail
    go_ret
    exact ⟨rfl, hb2⟩
  obtain ⟨hu1a, hu1b, hu1c⟩ := szSc_yes (by omega) hz1
  go_enter Try.func3, Try.ntmps3
  go_wp2_with fail
  refine (szScaffold_any A0b c0b x0b A0t c0t x0t n0 1048576 _ hlen0b hlen0t (by omega) (by omega)).mono ?_
  rintro e w1 ⟨rfl, hc1⟩
  have hb1 := bthen (((Below.refl w.heap.size w).alloc (Nat.le_refl _) _).alloc (by simp) _) (Nat.le_refl _) hc1
  have hs1 := hc1.size
  (try simp at hs1)
  have hx1_0 := bthen (Below.refl ((w.alloc (.cells #[.slice A0b x0b.length c0b, .slice A0t x0t.length c0t, .int .i64 n0] 24)).alloc (.cells #[.slice A1b x1b.length c1b, .slice A1t x1t.length c1t, .int .i64 n1] 24)).heap.size ((w.alloc (.cells #[.slice A0b x0b.length c0b, .slice A0t x0t.length c0t, .int .i64 n0] 24)).alloc (.cells #[.slice A1b x1b.length c1b, .slice A1t x1t.length c1t, .int .i64 n1] 24))) (Nat.le_refl _) hc1
  have hy1_0 := hx1_0.size
  simp at hy1_0
  have hx1_1 := bthen (Below.refl ((w.alloc (.cells #[.slice A0b x0b.length c0b, .slice A0t x0t.length c0t, .int .i64 n0] 24)).alloc (.cells #[.slice A1b x1b.length c1b, .slice A1t x1t.length c1t, .int .i64 n1] 24)).heap.size ((w.alloc (.cells #[.slice A0b x0b.length c0b, .slice A0t x0t.length c0t, .int .i64 n0] 24)).alloc (.cells #[.slice A1b x1b.length c1b, .slice A1t x1t.length c1t, .int .i64 n1] 24))) (Nat.le_refl _) hc1
  have hy1_1 := hx1_1.size
  simp at hy1_1
  have k1_0_0 : w1.cell? ⟨w.heap.size, 0, none⟩ = some (.slice A0b x0b.length c0b) := by rw [hx1_0.cell (by simp <;> omega)]; try go_simp
  have k1_0_1 : w1.cell? ⟨w.heap.size, 1, none⟩ = some (.slice A0t x0t.length c0t) := by rw [hx1_0.cell (by simp <;> omega)]; try go_simp
  have k1_0_2 : w1.cell? ⟨w.heap.size, 2, none⟩ = some (.int .i64 n0) := by rw [hx1_0.cell (by simp <;> omega)]; try go_simp
  have k1_1_0 : w1.cell? ⟨w.heap.size + 1, 0, none⟩ = some (.slice A1b x1b.length c1b) := by rw [hx1_1.cell (by simp <;> omega)]; try go_simp
  have k1_1_1 : w1.cell? ⟨w.heap.size + 1, 1, none⟩ = some (.slice A1t x1t.length c1t) := by rw [hx1_1.cell (by simp <;> omega)]; try go_simp
  have k1_1_2 : w1.cell? ⟨w.heap.size + 1, 2, none⟩ = some (.int .i64 n1) := by rw [hx1_1.cell (by simp <;> omega)]; try go_simp
  have kl1_0 : w.heap.size < w1.heap.size := by omega
  have kl1_1 : w.heap.size + 1 < w1.heap.size := by omega
  go_wp2_with fail
  refine (szScaffold_any A1b c1b x1b A1t c1t x1t n1 (szSc 1048576 x0b x0t) _ hlen1b hlen1t (by omega) (by omega)).mono ?_
  rintro e w2 ⟨rfl, hc2⟩
  have hb2 := bthen hb1 (Nat.le_refl _) hc2
  have hs2 := hc2.size
  (try simp at hs2)
  have hx2_0 := bthen hx1_0 (Nat.le_refl _) hc2
  have hy2_0 := hx2_0.size
  simp at hy2_0
  have hx2_1 := bthen hx1_1 (Nat.le_refl _) hc2
  have hy2_1 := hx2_1.size
  simp at hy2_1
  clear k1_0_0 k1_0_1 k1_0_2 k1_1_0 k1_1_1 k1_1_2 kl1_0 kl1_1
  have k2_0_0 : w2.cell? ⟨w.heap.size, 0, none⟩ = some (.slice A0b x0b.length c0b) := by rw [hx2_0.cell (by simp <;> omega)]; try go_simp
  have k2_0_1 : w2.cell? ⟨w.heap.size, 1, none⟩ = some (.slice A0t x0t.length c0t) := by rw [hx2_0.cell (by simp <;> omega)]; try go_simp
  have k2_0_2 : w2.cell? ⟨w.heap.size, 2, none⟩ = some (.int .i64 n0) := by rw [hx2_0.cell (by simp <;> omega)]; try go_simp
  have k2_1_0 : w2.cell? ⟨w.heap.size + 1, 0, none⟩ = some (.slice A1b x1b.length c1b) := by rw [hx2_1.cell (by simp <;> omega)]; try go_simp
  have k2_1_1 : w2.cell? ⟨w.heap.size + 1, 1, none⟩ = some (.slice A1t x1t.length c1t) := by rw [hx2_1.cell (by simp <;> omega)]; try go_simp
  have k2_1_2 : w2.cell? ⟨w.heap.size + 1, 2, none⟩ = some (.int .i64 n1) := by rw [hx2_1.cell (by simp <;> omega)]; try go_simp
  have kl2_0 : w.heap.size < w2.heap.size := by omega
  have kl2_1 : w.heap.size + 1 < w2.heap.size := by omega
  go_wp2_with fail
  go_region_held3 (fun W => W.cell? ⟨w.heap.size, 0, none⟩ = some (.slice A0b x0b.length c0b) ∧ W.cell? ⟨w.heap.size, 1, none⟩ = some (.slice A0t x0t.length c0t) ∧ W.cell? ⟨w.heap.size, 2, none⟩ = some (.int .i64 n0) ∧ W.cell? ⟨w.heap.size + 1, 0, none⟩ = some (.slice A1b x1b.length c1b) ∧ W.cell? ⟨w.heap.size + 1, 1, none⟩ = some (.slice A1t x1t.length c1t) ∧ W.cell? ⟨w.heap.size + 1, 2, none⟩ = some (.int .i64 n1))
    (first | go_keep | (go_split_ands; refine ⟨?_, ?_, ?_, ?_, ?_, ?_⟩ <;> (refine (hc3.cell ?_).trans ?_; (focus (simp <;> omega)); assumption)) | (go_split_ands; refine ⟨?_, ?_, ?_, ?_, ?_, ?_⟩ <;> (refine (hc4.cell ?_).trans ?_; (focus (simp <;> omega)); assumption)) | (go_split_ands; refine ⟨?_, ?_, ?_, ?_, ?_, ?_⟩ <;> (refine (hc5.cell ?_).trans ?_; (focus (simp <;> omega)); assumption)))
    ((first
      | (go_at_call 16; (with_reducible refine (toScaffold_any A0b c0b x0b A0t c0t x0t n0 _ ((hr0b.below hb2).more hb2.size).drew ((hr0t.below hb2).more hb2.size).drew (by omega) (by omega)).mono ?_); rintro e w3 ⟨B3b, d3b, B3t, d3t, rfl, ho3b, ho3t, hap3, hc3⟩; have hl3b := ho3b.blk_lt; have hl3t := ho3t.blk_lt; have hb3 := bthen hb2.drew (Nat.le_refl _) hc3; have hs3 := hc3.size; (try simp at hs3))
      | (go_at_call 16; (with_reducible refine (toScaffold_any A1b c1b x1b A1t c1t x1t n1 _ ((hr1b.below hb3).more hb3.size) ((hr1t.below hb3).more hb3.size) (by omega) (by omega)).mono ?_); rintro e w4 ⟨B4b, d4b, B4t, d4t, rfl, ho4b, ho4t, hap4, hc4⟩; have hl4b := ho4b.blk_lt; have hl4t := ho4t.blk_lt; have hb4 := bthen hb3 (Nat.le_refl _) hc4; have hs4 := hc4.size; (try simp at hs4); have ho3b' := Own.below ho3b hc4; have ho3t' := Own.below ho3t hc4)
      | (go_at_call 15; (with_reducible refine (specSameScaffold_any B3b d3b x0b B3t d3t x0t n0 B4b d4b x1b B4t d4t x1t n1 _ (Own.rd ho3b') (Own.rd ho3t') (Own.rd ho4b) (Own.rd ho4t)).mono ?_); rintro e w5 ⟨rfl, hc5⟩; have hb5 := bthen hb4 (Nat.le_refl _) hc5; have hs5 := hc5.size; (try simp at hs5); have ho3b'' := Own.below ho3b' hc5; have ho3t'' := Own.below ho3t' hc5; have ho4b' := Own.below ho4b hc5; have ho4t' := Own.below ho4t hc5)))
  have hx3_0 := bthen hx2_0.drew (Nat.le_refl _) hc3
  have hx3_1 := bthen hx2_1.drew (Nat.le_refl _) hc3
  have hx4_0 := bthen hx3_0 (Nat.le_refl _) hc4
  have hx4_1 := bthen hx3_1 (Nat.le_refl _) hc4
  have hx5_0 := bthen hx4_0 (Nat.le_refl _) hc5
  have hx5_1 := bthen hx4_1 (Nat.le_refl _) hc5
  have hy5_0 := hx5_0.size
  simp at hy5_0
  have hy5_1 := hx5_1.size
  simp at hy5_1
  clear k2_0_0 k2_0_1 k2_0_2 k2_1_0 k2_1_1 k2_1_2 kl2_0 kl2_1
  have k5_0_0 : w5.cell? ⟨w.heap.size, 0, none⟩ = some (.slice A0b x0b.length c0b) := by rw [hx5_0.cell (by simp <;> omega)]; try go_simp
  have k5_0_1 : w5.cell? ⟨w.heap.size, 1, none⟩ = some (.slice A0t x0t.length c0t) := by rw [hx5_0.cell (by simp <;> omega)]; try go_simp
  have k5_0_2 : w5.cell? ⟨w.heap.size, 2, none⟩ = some (.int .i64 n0) := by rw [hx5_0.cell (by simp <;> omega)]; try go_simp
  have k5_1_0 : w5.cell? ⟨w.heap.size + 1, 0, none⟩ = some (.slice A1b x1b.length c1b) := by rw [hx5_1.cell (by simp <;> omega)]; try go_simp
  have k5_1_1 : w5.cell? ⟨w.heap.size + 1, 1, none⟩ = some (.slice A1t x1t.length c1t) := by rw [hx5_1.cell (by simp <;> omega)]; try go_simp
  have k5_1_2 : w5.cell? ⟨w.heap.size + 1, 2, none⟩ = some (.int .i64 n1) := by rw [hx5_1.cell (by simp <;> omega)]; try go_simp
  have kl5_0 : w.heap.size < w5.heap.size := by omega
  have kl5_1 : w.heap.size + 1 < w5.heap.size := by omega
  clear ho3b''
  clear ho3t''
  clear ho4b'
  clear ho4t'
  go_wp2_with fail
  refine (toScaffold_any A0b c0b x0b A0t c0t x0t n0 _ ((hr0b.below hb5).more hb5.size) ((hr0t.below hb5).more hb5.size) (by omega) (by omega)).mono ?_
  rintro e w6 ⟨B6b, d6b, B6t, d6t, rfl, ho6b, ho6t, hap6, hc6⟩
  have hl6b := ho6b.blk_lt
  have hl6t := ho6t.blk_lt
  have hb6 := bthen hb5 (Nat.le_refl _) hc6
  have hs6 := hc6.size
  (try simp at hs6)
  have hx6_0 := bthen hx5_0 (Nat.le_refl _) hc6
  have hy6_0 := hx6_0.size
  simp at hy6_0
  have hx6_1 := bthen hx5_1 (Nat.le_refl _) hc6
  have hy6_1 := hx6_1.size
  simp at hy6_1
  clear k5_0_0 k5_0_1 k5_0_2 k5_1_0 k5_1_1 k5_1_2 kl5_0 kl5_1
  have k6_0_0 : w6.cell? ⟨w.heap.size, 0, none⟩ = some (.slice A0b x0b.length c0b) := by rw [hx6_0.cell (by simp <;> omega)]; try go_simp
  have k6_0_1 : w6.cell? ⟨w.heap.size, 1, none⟩ = some (.slice A0t x0t.length c0t) := by rw [hx6_0.cell (by simp <;> omega)]; try go_simp
  have k6_0_2 : w6.cell? ⟨w.heap.size, 2, none⟩ = some (.int .i64 n0) := by rw [hx6_0.cell (by simp <;> omega)]; try go_simp
  have k6_1_0 : w6.cell? ⟨w.heap.size + 1, 0, none⟩ = some (.slice A1b x1b.length c1b) := by rw [hx6_1.cell (by simp <;> omega)]; try go_simp
  have k6_1_1 : w6.cell? ⟨w.heap.size + 1, 1, none⟩ = some (.slice A1t x1t.length c1t) := by rw [hx6_1.cell (by simp <;> omega)]; try go_simp
  have k6_1_2 : w6.cell? ⟨w.heap.size + 1, 2, none⟩ = some (.int .i64 n1) := by rw [hx6_1.cell (by simp <;> omega)]; try go_simp
  have kl6_0 : w.heap.size < w6.heap.size := by omega
  have kl6_1 : w.heap.size + 1 < w6.heap.size := by omega
  go_wp2_with fail
  refine (toScaffold_any A1b c1b x1b A1t c1t x1t n1 _ ((hr1b.below (hb6.alloc hb6.size _)).more (hb6.alloc hb6.size _).size) ((hr1t.below (hb6.alloc hb6.size _)).more (hb6.alloc hb6.size _).size) (by omega) (by omega)).mono ?_
  rintro e w7 ⟨B7b, d7b, B7t, d7t, rfl, ho7b, ho7t, hap7, hc7⟩
  have hl7b := ho7b.blk_lt
  have hl7t := ho7t.blk_lt
  have hb7 := bthen (hb6.alloc hb6.size _) (Nat.le_refl _) hc7
  have hs7 := hc7.size
  (try simp at hs7)
  have hx7_0 := bthen (hx6_0.alloc hx6_0.size _) (Nat.le_refl _) hc7
  have hy7_0 := hx7_0.size
  simp at hy7_0
  have hx7_1 := bthen (hx6_1.alloc hx6_1.size _) (Nat.le_refl _) hc7
  have hy7_1 := hx7_1.size
  simp at hy7_1
  have hx7_2 := bthen (Below.refl (w6.alloc (.cells #[.slice B6b x0b.length d6b, .slice B6t x0t.length d6t, .int .i64 n0] 27)).heap.size (w6.alloc (.cells #[.slice B6b x0b.length d6b, .slice B6t x0t.length d6t, .int .i64 n0] 27))) (Nat.le_refl _) hc7
  have hy7_2 := hx7_2.size
  simp at hy7_2
  have ho6b' := Own.below (Own.alloc ho6b _) hc7
  have ho6t' := Own.below (Own.alloc ho6t _) hc7
  clear k6_0_0 k6_0_1 k6_0_2 k6_1_0 k6_1_1 k6_1_2 kl6_0 kl6_1
  have k7_0_0 : w7.cell? ⟨w.heap.size, 0, none⟩ = some (.slice A0b x0b.length c0b) := by rw [hx7_0.cell (by simp <;> omega)]; try go_simp
  have k7_0_1 : w7.cell? ⟨w.heap.size, 1, none⟩ = some (.slice A0t x0t.length c0t) := by rw [hx7_0.cell (by simp <;> omega)]; try go_simp
  have k7_0_2 : w7.cell? ⟨w.heap.size, 2, none⟩ = some (.int .i64 n0) := by rw [hx7_0.cell (by simp <;> omega)]; try go_simp
  have k7_1_0 : w7.cell? ⟨w.heap.size + 1, 0, none⟩ = some (.slice A1b x1b.length c1b) := by rw [hx7_1.cell (by simp <;> omega)]; try go_simp
  have k7_1_1 : w7.cell? ⟨w.heap.size + 1, 1, none⟩ = some (.slice A1t x1t.length c1t) := by rw [hx7_1.cell (by simp <;> omega)]; try go_simp
  have k7_1_2 : w7.cell? ⟨w.heap.size + 1, 2, none⟩ = some (.int .i64 n1) := by rw [hx7_1.cell (by simp <;> omega)]; try go_simp
  have k7_2_0 : w7.cell? ⟨w6.heap.size, 0, none⟩ = some (.slice B6b x0b.length d6b) := by rw [hx7_2.cell (by simp <;> omega)]; try go_simp
  have k7_2_1 : w7.cell? ⟨w6.heap.size, 1, none⟩ = some (.slice B6t x0t.length d6t) := by rw [hx7_2.cell (by simp <;> omega)]; try go_simp
  have k7_2_2 : w7.cell? ⟨w6.heap.size, 2, none⟩ = some (.int .i64 n0) := by rw [hx7_2.cell (by simp <;> omega)]; try go_simp
  have kl7_0 : w.heap.size < w7.heap.size := by omega
  have kl7_1 : w.heap.size + 1 < w7.heap.size := by omega
  have kl7_2 : w6.heap.size < w7.heap.size := by omega
  go_wp2_with fail
  refine (implSameScaffold_any B6b d6b x0b B6t d6t x0t n0 B7b d7b x1b B7t d7t x1t n1 _ (Own.rd (Own.alloc ho6b' _)) (Own.rd (Own.alloc ho6t' _)) (Own.rd (Own.alloc ho7b _)) (Own.rd (Own.alloc ho7t _))).mono ?_
  rintro e w8 ⟨rfl, hc8⟩
  have hb8 := bthen (hb7.alloc hb7.size _) (Nat.le_refl _) hc8
  have hs8 := hc8.size
  (try simp at hs8)
  have hx8_0 := bthen (hx7_0.alloc hx7_0.size _) (Nat.le_refl _) hc8
  have hy8_0 := hx8_0.size
  simp at hy8_0
  have hx8_1 := bthen (hx7_1.alloc hx7_1.size _) (Nat.le_refl _) hc8
  have hy8_1 := hx8_1.size
  simp at hy8_1
  have hx8_2 := bthen (hx7_2.alloc hx7_2.size _) (Nat.le_refl _) hc8
  have hy8_2 := hx8_2.size
  simp at hy8_2
  have hx8_3 := bthen (Below.refl (w7.alloc (.cells #[.slice B7b x1b.length d7b, .slice B7t x1t.length d7t, .int .i64 n1] 27)).heap.size (w7.alloc (.cells #[.slice B7b x1b.length d7b, .slice B7t x1t.length d7t, .int .i64 n1] 27))) (Nat.le_refl _) hc8
  have hy8_3 := hx8_3.size
  simp at hy8_3
  have ho6b'' := Own.below (Own.alloc ho6b' _) hc8
  have ho6t'' := Own.below (Own.alloc ho6t' _) hc8
  have ho7b' := Own.below (Own.alloc ho7b _) hc8
  have ho7t' := Own.below (Own.alloc ho7t _) hc8
  clear k7_0_0 k7_0_1 k7_0_2 k7_1_0 k7_1_1 k7_1_2 k7_2_0 k7_2_1 k7_2_2 kl7_0 kl7_1 kl7_2
  have k8_0_0 : w8.cell? ⟨w.heap.size, 0, none⟩ = some (.slice A0b x0b.length c0b) := by rw [hx8_0.cell (by simp <;> omega)]; try go_simp
  have k8_0_1 : w8.cell? ⟨w.heap.size, 1, none⟩ = some (.slice A0t x0t.length c0t) := by rw [hx8_0.cell (by simp <;> omega)]; try go_simp
  have k8_0_2 : w8.cell? ⟨w.heap.size, 2, none⟩ = some (.int .i64 n0) := by rw [hx8_0.cell (by simp <;> omega)]; try go_simp
  have k8_1_0 : w8.cell? ⟨w.heap.size + 1, 0, none⟩ = some (.slice A1b x1b.length c1b) := by rw [hx8_1.cell (by simp <;> omega)]; try go_simp
  have k8_1_1 : w8.cell? ⟨w.heap.size + 1, 1, none⟩ = some (.slice A1t x1t.length c1t) := by rw [hx8_1.cell (by simp <;> omega)]; try go_simp
  have k8_1_2 : w8.cell? ⟨w.heap.size + 1, 2, none⟩ = some (.int .i64 n1) := by rw [hx8_1.cell (by simp <;> omega)]; try go_simp
  have k8_2_0 : w8.cell? ⟨w6.heap.size, 0, none⟩ = some (.slice B6b x0b.length d6b) := by rw [hx8_2.cell (by simp <;> omega)]; try go_simp
  have k8_2_1 : w8.cell? ⟨w6.heap.size, 1, none⟩ = some (.slice B6t x0t.length d6t) := by rw [hx8_2.cell (by simp <;> omega)]; try go_simp
  have k8_2_2 : w8.cell? ⟨w6.heap.size, 2, none⟩ = some (.int .i64 n0) := by rw [hx8_2.cell (by simp <;> omega)]; try go_simp
  have k8_3_0 : w8.cell? ⟨w7.heap.size, 0, none⟩ = some (.slice B7b x1b.length d7b) := by rw [hx8_3.cell (by simp <;> omega)]; try go_simp
  have k8_3_1 : w8.cell? ⟨w7.heap.size, 1, none⟩ = some (.slice B7t x1t.length d7t) := by rw [hx8_3.cell (by simp <;> omega)]; try go_simp
  have k8_3_2 : w8.cell? ⟨w7.heap.size, 2, none⟩ = some (.int .i64 n1) := by rw [hx8_3.cell (by simp <;> omega)]; try go_simp
  have kl8_0 : w.heap.size < w8.heap.size := by omega
  have kl8_1 : w.heap.size + 1 < w8.heap.size := by omega
  have kl8_2 : w6.heap.size < w8.heap.size := by omega
  have kl8_3 : w7.heap.size < w8.heap.size := by omega
  go_wp2_with fail
  go_region_held3 (fun W => W.cell? ⟨w.heap.size, 0, none⟩ = some (.slice A0b x0b.length c0b) ∧ W.cell? ⟨w.heap.size, 1, none⟩ = some (.slice A0t x0t.length c0t) ∧ W.cell? ⟨w.heap.size, 2, none⟩ = some (.int .i64 n0) ∧ W.cell? ⟨w6.heap.size, 0, none⟩ = some (.slice B6b x0b.length d6b) ∧ W.cell? ⟨w6.heap.size, 1, none⟩ = some (.slice B6t x0t.length d6t) ∧ W.cell? ⟨w6.heap.size, 2, none⟩ = some (.int .i64 n0))
    (first | go_keep | (go_split_ands; refine ⟨?_, ?_, ?_, ?_, ?_, ?_⟩ <;> (refine (hc9.cell ?_).trans ?_; (focus (simp <;> omega)); assumption)) | (go_split_ands; refine ⟨?_, ?_, ?_, ?_, ?_, ?_⟩ <;> (refine (hc10.cell ?_).trans ?_; (focus (simp <;> omega)); assumption)))
    ((first
      | (go_at_call 16; (with_reducible refine (toScaffold_any A0b c0b x0b A0t c0t x0t n0 _ ((hr0b.below hb8).more hb8.size).drew ((hr0t.below hb8).more hb8.size).drew (by omega) (by omega)).mono ?_); rintro e w9 ⟨B9b, d9b, B9t, d9t, rfl, ho9b, ho9t, hap9, hc9⟩; have hl9b := ho9b.blk_lt; have hl9t := ho9t.blk_lt; have hb9 := bthen hb8.drew (Nat.le_refl _) hc9; have hs9 := hc9.size; (try simp at hs9); have ho6b''' := Own.below (Own.drew ho6b'') hc9; have ho6t''' := Own.below (Own.drew ho6t'') hc9)
      | (go_at_call 18; (with_reducible refine (eqScaffold_any B6b d6b x0b B6t d6t x0t n0 B9b d9b B9t d9t _ (Own.rd ho6b''') (Own.rd ho6t''') (Own.rd ho9b) (Own.rd ho9t)).mono ?_); rintro e w10 ⟨rfl, hc10⟩; have hb10 := bthen hb9 (Nat.le_refl _) hc10; have hs10 := hc10.size; (try simp at hs10); have ho6b'''' := Own.below ho6b''' hc10; have ho6t'''' := Own.below ho6t''' hc10; have ho9b' := Own.below ho9b hc10; have ho9t' := Own.below ho9t hc10)))
  have hx9_0 := bthen hx8_0.drew (Nat.le_refl _) hc9
  have hx9_1 := bthen hx8_1.drew (Nat.le_refl _) hc9
  have hx9_2 := bthen hx8_2.drew (Nat.le_refl _) hc9
  have hx9_3 := bthen hx8_3.drew (Nat.le_refl _) hc9
  have ho7b'' := Own.below (Own.drew ho7b') hc9
  have ho7t'' := Own.below (Own.drew ho7t') hc9
  have hx10_0 := bthen hx9_0 (Nat.le_refl _) hc10
  have hx10_1 := bthen hx9_1 (Nat.le_refl _) hc10
  have hx10_2 := bthen hx9_2 (Nat.le_refl _) hc10
  have hx10_3 := bthen hx9_3 (Nat.le_refl _) hc10
  have ho7b''' := Own.below ho7b'' hc10
  have ho7t''' := Own.below ho7t'' hc10
  have hy10_0 := hx10_0.size
  simp at hy10_0
  have hy10_1 := hx10_1.size
  simp at hy10_1
  have hy10_2 := hx10_2.size
  simp at hy10_2
  have hy10_3 := hx10_3.size
  simp at hy10_3
  clear k8_0_0 k8_0_1 k8_0_2 k8_1_0 k8_1_1 k8_1_2 k8_2_0 k8_2_1 k8_2_2 k8_3_0 k8_3_1 k8_3_2 kl8_0 kl8_1 kl8_2 kl8_3
  have k10_0_0 : w10.cell? ⟨w.heap.size, 0, none⟩ = some (.slice A0b x0b.length c0b) := by rw [hx10_0.cell (by simp <;> omega)]; try go_simp
  have k10_0_1 : w10.cell? ⟨w.heap.size, 1, none⟩ = some (.slice A0t x0t.length c0t) := by rw [hx10_0.cell (by simp <;> omega)]; try go_simp
  have k10_0_2 : w10.cell? ⟨w.heap.size, 2, none⟩ = some (.int .i64 n0) := by rw [hx10_0.cell (by simp <;> omega)]; try go_simp
  have k10_1_0 : w10.cell? ⟨w.heap.size + 1, 0, none⟩ = some (.slice A1b x1b.length c1b) := by rw [hx10_1.cell (by simp <;> omega)]; try go_simp
  have k10_1_1 : w10.cell? ⟨w.heap.size + 1, 1, none⟩ = some (.slice A1t x1t.length c1t) := by rw [hx10_1.cell (by simp <;> omega)]; try go_simp
  have k10_1_2 : w10.cell? ⟨w.heap.size + 1, 2, none⟩ = some (.int .i64 n1) := by rw [hx10_1.cell (by simp <;> omega)]; try go_simp
  have k10_2_0 : w10.cell? ⟨w6.heap.size, 0, none⟩ = some (.slice B6b x0b.length d6b) := by rw [hx10_2.cell (by simp <;> omega)]; try go_simp
  have k10_2_1 : w10.cell? ⟨w6.heap.size, 1, none⟩ = some (.slice B6t x0t.length d6t) := by rw [hx10_2.cell (by simp <;> omega)]; try go_simp
  have k10_2_2 : w10.cell? ⟨w6.heap.size, 2, none⟩ = some (.int .i64 n0) := by rw [hx10_2.cell (by simp <;> omega)]; try go_simp
  have k10_3_0 : w10.cell? ⟨w7.heap.size, 0, none⟩ = some (.slice B7b x1b.length d7b) := by rw [hx10_3.cell (by simp <;> omega)]; try go_simp
  have k10_3_1 : w10.cell? ⟨w7.heap.size, 1, none⟩ = some (.slice B7t x1t.length d7t) := by rw [hx10_3.cell (by simp <;> omega)]; try go_simp
  have k10_3_2 : w10.cell? ⟨w7.heap.size, 2, none⟩ = some (.int .i64 n1) := by rw [hx10_3.cell (by simp <;> omega)]; try go_simp
  have kl10_0 : w.heap.size < w10.heap.size := by omega
  have kl10_1 : w.heap.size + 1 < w10.heap.size := by omega
  have kl10_2 : w6.heap.size < w10.heap.size := by omega
  have kl10_3 : w7.heap.size < w10.heap.size := by omega
  clear ho9b'
  clear ho9t'
  go_wp2_with fail
  go_region_held3 (fun W => W.cell? ⟨w.heap.size + 1, 0, none⟩ = some (.slice A1b x1b.length c1b) ∧ W.cell? ⟨w.heap.size + 1, 1, none⟩ = some (.slice A1t x1t.length c1t) ∧ W.cell? ⟨w.heap.size + 1, 2, none⟩ = some (.int .i64 n1) ∧ W.cell? ⟨w7.heap.size, 0, none⟩ = some (.slice B7b x1b.length d7b) ∧ W.cell? ⟨w7.heap.size, 1, none⟩ = some (.slice B7t x1t.length d7t) ∧ W.cell? ⟨w7.heap.size, 2, none⟩ = some (.int .i64 n1))
    (first | go_keep | (go_split_ands; refine ⟨?_, ?_, ?_, ?_, ?_, ?_⟩ <;> (refine (hc11.cell ?_).trans ?_; (focus (simp <;> omega)); assumption)) | (go_split_ands; refine ⟨?_, ?_, ?_, ?_, ?_, ?_⟩ <;> (refine (hc12.cell ?_).trans ?_; (focus (simp <;> omega)); assumption)))
    ((first
      | (go_at_call 16; (with_reducible refine (toScaffold_any A1b c1b x1b A1t c1t x1t n1 _ ((hr1b.below hb10).more hb10.size).drew ((hr1t.below hb10).more hb10.size).drew (by omega) (by omega)).mono ?_); rintro e w11 ⟨B11b, d11b, B11t, d11t, rfl, ho11b, ho11t, hap11, hc11⟩; have hl11b := ho11b.blk_lt; have hl11t := ho11t.blk_lt; have hb11 := bthen hb10.drew (Nat.le_refl _) hc11; have hs11 := hc11.size; (try simp at hs11); have ho7b'''' := Own.below (Own.drew ho7b''') hc11; have ho7t'''' := Own.below (Own.drew ho7t''') hc11)
      | (go_at_call 18; (with_reducible refine (eqScaffold_any B7b d7b x1b B7t d7t x1t n1 B11b d11b B11t d11t _ (Own.rd ho7b'''') (Own.rd ho7t'''') (Own.rd ho11b) (Own.rd ho11t)).mono ?_); rintro e w12 ⟨rfl, hc12⟩; have hb12 := bthen hb11 (Nat.le_refl _) hc12; have hs12 := hc12.size; (try simp at hs12); have ho7b''''' := Own.below ho7b'''' hc12; have ho7t''''' := Own.below ho7t'''' hc12; have ho11b' := Own.below ho11b hc12; have ho11t' := Own.below ho11t hc12)))
  have hx11_0 := bthen hx10_0.drew (Nat.le_refl _) hc11
  have hx11_1 := bthen hx10_1.drew (Nat.le_refl _) hc11
  have hx11_2 := bthen hx10_2.drew (Nat.le_refl _) hc11
  have hx11_3 := bthen hx10_3.drew (Nat.le_refl _) hc11
  have ho6b''''' := Own.below (Own.drew ho6b'''') hc11
  have ho6t''''' := Own.below (Own.drew ho6t'''') hc11
  have hx12_0 := bthen hx11_0 (Nat.le_refl _) hc12
  have hx12_1 := bthen hx11_1 (Nat.le_refl _) hc12
  have hx12_2 := bthen hx11_2 (Nat.le_refl _) hc12
  have hx12_3 := bthen hx11_3 (Nat.le_refl _) hc12
  have ho6b'''''' := Own.below ho6b''''' hc12
  have ho6t'''''' := Own.below ho6t''''' hc12
  have hy12_0 := hx12_0.size
  simp at hy12_0
  have hy12_1 := hx12_1.size
  simp at hy12_1
  have hy12_2 := hx12_2.size
  simp at hy12_2
  have hy12_3 := hx12_3.size
  simp at hy12_3
  clear k10_0_0 k10_0_1 k10_0_2 k10_1_0 k10_1_1 k10_1_2 k10_2_0 k10_2_1 k10_2_2 k10_3_0 k10_3_1 k10_3_2 kl10_0 kl10_1 kl10_2 kl10_3
  have k12_0_0 : w12.cell? ⟨w.heap.size, 0, none⟩ = some (.slice A0b x0b.length c0b) := by rw [hx12_0.cell (by simp <;> omega)]; try go_simp
  have k12_0_1 : w12.cell? ⟨w.heap.size, 1, none⟩ = some (.slice A0t x0t.length c0t) := by rw [hx12_0.cell (by simp <;> omega)]; try go_simp
  have k12_0_2 : w12.cell? ⟨w.heap.size, 2, none⟩ = some (.int .i64 n0) := by rw [hx12_0.cell (by simp <;> omega)]; try go_simp
  have k12_1_0 : w12.cell? ⟨w.heap.size + 1, 0, none⟩ = some (.slice A1b x1b.length c1b) := by rw [hx12_1.cell (by simp <;> omega)]; try go_simp
  have k12_1_1 : w12.cell? ⟨w.heap.size + 1, 1, none⟩ = some (.slice A1t x1t.length c1t) := by rw [hx12_1.cell (by simp <;> omega)]; try go_simp
  have k12_1_2 : w12.cell? ⟨w.heap.size + 1, 2, none⟩ = some (.int .i64 n1) := by rw [hx12_1.cell (by simp <;> omega)]; try go_simp
  have k12_2_0 : w12.cell? ⟨w6.heap.size, 0, none⟩ = some (.slice B6b x0b.length d6b) := by rw [hx12_2.cell (by simp <;> omega)]; try go_simp
  have k12_2_1 : w12.cell? ⟨w6.heap.size, 1, none⟩ = some (.slice B6t x0t.length d6t) := by rw [hx12_2.cell (by simp <;> omega)]; try go_simp
  have k12_2_2 : w12.cell? ⟨w6.heap.size, 2, none⟩ = some (.int .i64 n0) := by rw [hx12_2.cell (by simp <;> omega)]; try go_simp
  have k12_3_0 : w12.cell? ⟨w7.heap.size, 0, none⟩ = some (.slice B7b x1b.length d7b) := by rw [hx12_3.cell (by simp <;> omega)]; try go_simp
  have k12_3_1 : w12.cell? ⟨w7.heap.size, 1, none⟩ = some (.slice B7t x1t.length d7t) := by rw [hx12_3.cell (by simp <;> omega)]; try go_simp
  have k12_3_2 : w12.cell? ⟨w7.heap.size, 2, none⟩ = some (.int .i64 n1) := by rw [hx12_3.cell (by simp <;> omega)]; try go_simp
  have kl12_0 : w.heap.size < w12.heap.size := by omega
  have kl12_1 : w.heap.size + 1 < w12.heap.size := by omega
  have kl12_2 : w6.heap.size < w12.heap.size := by omega
  have kl12_3 : w7.heap.size < w12.heap.size := by omega
  clear ho11b'
  clear ho11t'
  go_wp2_with fail
  go_ret
  exact ⟨rfl, hb12⟩
end Go.Proofs.Yteaojbmfjlmggaa
