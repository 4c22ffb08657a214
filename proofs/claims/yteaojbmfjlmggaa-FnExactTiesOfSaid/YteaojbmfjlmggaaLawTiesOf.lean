/-
  FnExactTiesOf returns true for every argument: the walk.
-/
import Derived.Test.YteaojbmfjlmggaaScafF
import Derived.Test.YteaojbmfjlmggaaScafM
import Derived.Deep.RegionHeld3
namespace Go.Proofs.Yteaojbmfjlmggaa
open Go.ChangeShapes Go.WideShapes Go.RowKit

set_option maxRecDepth 100000 in
set_option maxHeartbeats 3200000 in
theorem lawTiesOf_any (A0b : Option Addr) (c0b : Nat) (x0b : List Int) (A0t : Option Addr) (c0t : Nat) (x0t : List Int) (n0 : Int) (w : World) (hr0b : Rd LI w w.heap.size A0b c0b x0b) (hr0t : Rd LI w w.heap.size A0t c0t x0t) (_hi0 : (∀ n ∈ x0b, I64 n) ∧ (∀ n ∈ x0t, I64 n) ∧ I64 n0) :
    Calls Try.prog 11 #[.agg #[.slice A0b x0b.length c0b, .slice A0t x0t.length c0t, .int .i64 n0]] w fun e w' => e = .returned (.bool true) ∧ Below w.heap.size w w' := by
  have hlen0b := hr0b.len63
  have hlen0t := hr0t.len63
  by_cases hz0 : 0 ≤ (szSc 1048576 x0b x0t)
  rotate_left
  · skip
    have hneg : (szSc 1048576 x0b x0t) < 0 := by omega
    go_enter Try.func11, Try.ntmps11
    go_wp2_with fail
    refine (szScaffold_any A0b c0b x0b A0t c0t x0t n0 1048576 _ hlen0b hlen0t (by omega) (by omega)).mono ?_
    rintro e w1 ⟨rfl, hc1⟩
    have hb1 := bthen ((Below.refl w.heap.size w).alloc (Nat.le_refl _) _) (Nat.le_refl _) hc1
    have hs1 := hc1.size
    (try simp at hs1)
    have hx1_0 := bthen (Below.refl (w.alloc (.cells #[.slice A0b x0b.length c0b, .slice A0t x0t.length c0t, .int .i64 n0] 24)).heap.size (w.alloc (.cells #[.slice A0b x0b.length c0b, .slice A0t x0t.length c0t, .int .i64 n0] 24))) (Nat.le_refl _) hc1
    have hy1_0 := hx1_0.size
    (try simp at hy1_0)
    have k1_0_0 : w1.cell? ⟨w.heap.size, 0, none⟩ = some (.slice A0b x0b.length c0b) := by rw [hx1_0.cell (by simp <;> omega)]; try go_simp
    have k1_0_1 : w1.cell? ⟨w.heap.size, 1, none⟩ = some (.slice A0t x0t.length c0t) := by rw [hx1_0.cell (by simp <;> omega)]; try go_simp
    have k1_0_2 : w1.cell? ⟨w.heap.size, 2, none⟩ = some (.int .i64 n0) := by rw [hx1_0.cell (by simp <;> omega)]; try go_simp
    have kl1_0 : w.heap.size < w1.heap.size := by omega
    go_wp2_with fail
    go_ret
    exact ⟨rfl, hb1⟩
  obtain ⟨hu0a, hu0b, hu0c⟩ := szSc_yes (by omega) hz0
  go_enter Try.func11, Try.ntmps11
  go_wp2_with fail
  refine (szScaffold_any A0b c0b x0b A0t c0t x0t n0 1048576 _ hlen0b hlen0t (by omega) (by omega)).mono ?_
  rintro e w1 ⟨rfl, hc1⟩
  have hb1 := bthen ((Below.refl w.heap.size w).alloc (Nat.le_refl _) _) (Nat.le_refl _) hc1
  have hs1 := hc1.size
  (try simp at hs1)
  have hx1_0 := bthen (Below.refl (w.alloc (.cells #[.slice A0b x0b.length c0b, .slice A0t x0t.length c0t, .int .i64 n0] 24)).heap.size (w.alloc (.cells #[.slice A0b x0b.length c0b, .slice A0t x0t.length c0t, .int .i64 n0] 24))) (Nat.le_refl _) hc1
  have hy1_0 := hx1_0.size
  (try simp at hy1_0)
  have k1_0_0 : w1.cell? ⟨w.heap.size, 0, none⟩ = some (.slice A0b x0b.length c0b) := by rw [hx1_0.cell (by simp <;> omega)]; try go_simp
  have k1_0_1 : w1.cell? ⟨w.heap.size, 1, none⟩ = some (.slice A0t x0t.length c0t) := by rw [hx1_0.cell (by simp <;> omega)]; try go_simp
  have k1_0_2 : w1.cell? ⟨w.heap.size, 2, none⟩ = some (.int .i64 n0) := by rw [hx1_0.cell (by simp <;> omega)]; try go_simp
  have kl1_0 : w.heap.size < w1.heap.size := by omega
  go_wp2_with fail
  refine (toScaffold_any A0b c0b x0b A0t c0t x0t n0 _ ((hr0b.below hb1).more hb1.size) ((hr0t.below hb1).more hb1.size) (by omega) (by omega)).mono ?_
  rintro e w2 ⟨B2b, d2b, B2t, d2t, rfl, ho2b, ho2t, hap2, hc2⟩
  have hl2b := ho2b.blk_lt
  have hl2t := ho2t.blk_lt
  (try simp at hl2b)
  (try simp at hl2t)
  have hb2 := bthen hb1 (Nat.le_refl _) hc2
  have hs2 := hc2.size
  (try simp at hs2)
  have hx2_0 := bthen hx1_0 (Nat.le_refl _) hc2
  have hy2_0 := hx2_0.size
  (try simp at hy2_0)
  clear k1_0_0 k1_0_1 k1_0_2 kl1_0
  have k2_0_0 : w2.cell? ⟨w.heap.size, 0, none⟩ = some (.slice A0b x0b.length c0b) := by rw [hx2_0.cell (by simp <;> omega)]; try go_simp
  have k2_0_1 : w2.cell? ⟨w.heap.size, 1, none⟩ = some (.slice A0t x0t.length c0t) := by rw [hx2_0.cell (by simp <;> omega)]; try go_simp
  have k2_0_2 : w2.cell? ⟨w.heap.size, 2, none⟩ = some (.int .i64 n0) := by rw [hx2_0.cell (by simp <;> omega)]; try go_simp
  have kl2_0 : w.heap.size < w2.heap.size := by omega
  go_wp2_with fail
  refine (specTiesOf_any B2b d2b x0b B2t d2t x0t n0 _ (Own.rd ho2b) (Own.rd ho2t)).mono ?_
  rintro e w3 ⟨B3, d3, s3, rfl, ho3, he3, hc3⟩
  have hl3 := ho3.blk_lt
  (try simp only [World.size_alloc] at hl3)
  have hn3 : tl s3 ≤ 1048576 := by rw [tl_dat, he3]; exact tyP_tl _ _ _
  have hb3 := bthen hb2 (Nat.le_refl _) hc3
  have hs3 := hc3.size
  (try simp at hs3)
  have hx3_0 := bthen hx2_0 (Nat.le_refl _) hc3
  have hy3_0 := hx3_0.size
  (try simp at hy3_0)
  have ho2b' := Own.below ho2b hc3
  have ho2t' := Own.below ho2t hc3
  clear k2_0_0 k2_0_1 k2_0_2 kl2_0
  have k3_0_0 : w3.cell? ⟨w.heap.size, 0, none⟩ = some (.slice A0b x0b.length c0b) := by rw [hx3_0.cell (by simp <;> omega)]; try go_simp
  have k3_0_1 : w3.cell? ⟨w.heap.size, 1, none⟩ = some (.slice A0t x0t.length c0t) := by rw [hx3_0.cell (by simp <;> omega)]; try go_simp
  have k3_0_2 : w3.cell? ⟨w.heap.size, 2, none⟩ = some (.int .i64 n0) := by rw [hx3_0.cell (by simp <;> omega)]; try go_simp
  have kl3_0 : w.heap.size < w3.heap.size := by omega
  clear ho2b'
  clear ho2t'
  go_wp2_with fail
  refine (toScaffold_any A0b c0b x0b A0t c0t x0t n0 _ ((hr0b.below hb3).more hb3.size) ((hr0t.below hb3).more hb3.size) (by omega) (by omega)).mono ?_
  rintro e w4 ⟨B4b, d4b, B4t, d4t, rfl, ho4b, ho4t, hap4, hc4⟩
  have hl4b := ho4b.blk_lt
  have hl4t := ho4t.blk_lt
  (try simp at hl4b)
  (try simp at hl4t)
  have hb4 := bthen hb3 (Nat.le_refl _) hc4
  have hs4 := hc4.size
  (try simp at hs4)
  have hx4_0 := bthen hx3_0 (Nat.le_refl _) hc4
  have hy4_0 := hx4_0.size
  (try simp at hy4_0)
  have ho3' := OwnR.below ho3 hc4
  clear k3_0_0 k3_0_1 k3_0_2 kl3_0
  have k4_0_0 : w4.cell? ⟨w.heap.size, 0, none⟩ = some (.slice A0b x0b.length c0b) := by rw [hx4_0.cell (by simp <;> omega)]; try go_simp
  have k4_0_1 : w4.cell? ⟨w.heap.size, 1, none⟩ = some (.slice A0t x0t.length c0t) := by rw [hx4_0.cell (by simp <;> omega)]; try go_simp
  have k4_0_2 : w4.cell? ⟨w.heap.size, 2, none⟩ = some (.int .i64 n0) := by rw [hx4_0.cell (by simp <;> omega)]; try go_simp
  have kl4_0 : w.heap.size < w4.heap.size := by omega
  go_wp2_with fail
  refine (implTiesOf_any B4b d4b x0b B4t d4t x0t n0 _ (Own.rd (Own.alloc ho4b _)) (Own.rd (Own.alloc ho4t _))).mono ?_
  rintro e w5 ⟨B5, d5, s5, rfl, ho5, he5, hc5⟩
  have hl5 := ho5.blk_lt
  (try simp only [World.size_alloc] at hl5)
  have hn5 : tl s5 ≤ 1048576 := by rw [tl_dat, he5]; exact tyP_tl _ _ _
  have hb5 := bthen (hb4.alloc hb4.size _) (Nat.le_refl _) hc5
  have hs5 := hc5.size
  (try simp at hs5)
  have hx5_0 := bthen (hx4_0.alloc hx4_0.size _) (Nat.le_refl _) hc5
  have hy5_0 := hx5_0.size
  (try simp at hy5_0)
  have hx5_1 := bthen (Below.refl (w4.alloc (.cells #[.slice B4b x0b.length d4b, .slice B4t x0t.length d4t, .int .i64 n0] 27)).heap.size (w4.alloc (.cells #[.slice B4b x0b.length d4b, .slice B4t x0t.length d4t, .int .i64 n0] 27))) (Nat.le_refl _) hc5
  have hy5_1 := hx5_1.size
  (try simp at hy5_1)
  have ho3'' := OwnR.below (OwnR.alloc ho3' _) hc5
  have ho4b' := Own.below (Own.alloc ho4b _) hc5
  have ho4t' := Own.below (Own.alloc ho4t _) hc5
  clear k4_0_0 k4_0_1 k4_0_2 kl4_0
  have k5_0_0 : w5.cell? ⟨w.heap.size, 0, none⟩ = some (.slice A0b x0b.length c0b) := by rw [hx5_0.cell (by simp <;> omega)]; try go_simp
  have k5_0_1 : w5.cell? ⟨w.heap.size, 1, none⟩ = some (.slice A0t x0t.length c0t) := by rw [hx5_0.cell (by simp <;> omega)]; try go_simp
  have k5_0_2 : w5.cell? ⟨w.heap.size, 2, none⟩ = some (.int .i64 n0) := by rw [hx5_0.cell (by simp <;> omega)]; try go_simp
  have k5_1_0 : w5.cell? ⟨w4.heap.size, 0, none⟩ = some (.slice B4b x0b.length d4b) := by rw [hx5_1.cell (by simp <;> omega)]; try go_simp
  have k5_1_1 : w5.cell? ⟨w4.heap.size, 1, none⟩ = some (.slice B4t x0t.length d4t) := by rw [hx5_1.cell (by simp <;> omega)]; try go_simp
  have k5_1_2 : w5.cell? ⟨w4.heap.size, 2, none⟩ = some (.int .i64 n0) := by rw [hx5_1.cell (by simp <;> omega)]; try go_simp
  have kl5_0 : w.heap.size < w5.heap.size := by omega
  have kl5_1 : w4.heap.size < w5.heap.size := by omega
  go_wp2_with fail
  refine (eqInt64SS_same B5 d5 s5 B3 d3 s3 _ (OwnR.rd ho5) (OwnR.rd ho3'') (by rw [he5, he3])).mono ?_
  rintro e w6 ⟨rfl, hc6⟩
  have hb6 := bthen hb5 (Nat.le_refl _) hc6
  have hs6 := hc6.size
  (try simp at hs6)
  have hx6_0 := bthen hx5_0 (Nat.le_refl _) hc6
  have hy6_0 := hx6_0.size
  (try simp at hy6_0)
  have hx6_1 := bthen hx5_1 (Nat.le_refl _) hc6
  have hy6_1 := hx6_1.size
  (try simp at hy6_1)
  have ho3''' := OwnR.below ho3'' hc6
  have ho4b'' := Own.below ho4b' hc6
  have ho4t'' := Own.below ho4t' hc6
  have ho5' := OwnR.below ho5 hc6
  clear k5_0_0 k5_0_1 k5_0_2 k5_1_0 k5_1_1 k5_1_2 kl5_0 kl5_1
  have k6_0_0 : w6.cell? ⟨w.heap.size, 0, none⟩ = some (.slice A0b x0b.length c0b) := by rw [hx6_0.cell (by simp <;> omega)]; try go_simp
  have k6_0_1 : w6.cell? ⟨w.heap.size, 1, none⟩ = some (.slice A0t x0t.length c0t) := by rw [hx6_0.cell (by simp <;> omega)]; try go_simp
  have k6_0_2 : w6.cell? ⟨w.heap.size, 2, none⟩ = some (.int .i64 n0) := by rw [hx6_0.cell (by simp <;> omega)]; try go_simp
  have k6_1_0 : w6.cell? ⟨w4.heap.size, 0, none⟩ = some (.slice B4b x0b.length d4b) := by rw [hx6_1.cell (by simp <;> omega)]; try go_simp
  have k6_1_1 : w6.cell? ⟨w4.heap.size, 1, none⟩ = some (.slice B4t x0t.length d4t) := by rw [hx6_1.cell (by simp <;> omega)]; try go_simp
  have k6_1_2 : w6.cell? ⟨w4.heap.size, 2, none⟩ = some (.int .i64 n0) := by rw [hx6_1.cell (by simp <;> omega)]; try go_simp
  have kl6_0 : w.heap.size < w6.heap.size := by omega
  have kl6_1 : w4.heap.size < w6.heap.size := by omega
  go_wp2_with fail
  go_region_held3 (fun W => W.cell? ⟨w.heap.size, 0, none⟩ = some (.slice A0b x0b.length c0b) ∧ W.cell? ⟨w.heap.size, 1, none⟩ = some (.slice A0t x0t.length c0t) ∧ W.cell? ⟨w.heap.size, 2, none⟩ = some (.int .i64 n0) ∧ W.cell? ⟨w4.heap.size, 0, none⟩ = some (.slice B4b x0b.length d4b) ∧ W.cell? ⟨w4.heap.size, 1, none⟩ = some (.slice B4t x0t.length d4t) ∧ W.cell? ⟨w4.heap.size, 2, none⟩ = some (.int .i64 n0))
    (first | go_keep | (go_split_ands; refine ⟨?_, ?_, ?_, ?_, ?_, ?_⟩ <;> (refine (hc7.cell ?_).trans ?_; (focus (simp <;> omega)); assumption)) | (go_split_ands; refine ⟨?_, ?_, ?_, ?_, ?_, ?_⟩ <;> (refine (hc8.cell ?_).trans ?_; (focus (simp <;> omega)); assumption)))
    ((first
      | (go_at_call 16; (with_reducible refine (toScaffold_any A0b c0b x0b A0t c0t x0t n0 _ ((hr0b.below hb6).more hb6.size).drew ((hr0t.below hb6).more hb6.size).drew (by omega) (by omega)).mono ?_); rintro e w7 ⟨B7b, d7b, B7t, d7t, rfl, ho7b, ho7t, hap7, hc7⟩; have hl7b := ho7b.blk_lt; have hl7t := ho7t.blk_lt; (try simp at hl7b); (try simp at hl7t); have hb7 := bthen hb6.drew (Nat.le_refl _) hc7; have hs7 := hc7.size; (try simp at hs7); have ho4b''' := Own.below (Own.drew ho4b'') hc7; have ho4t''' := Own.below (Own.drew ho4t'') hc7)
      | (go_at_call 18; (with_reducible refine (eqScaffold_any B4b d4b x0b B4t d4t x0t n0 B7b d7b B7t d7t _ (Own.rd ho4b''') (Own.rd ho4t''') (Own.rd ho7b) (Own.rd ho7t)).mono ?_); rintro e w8 ⟨rfl, hc8⟩; have hb8 := bthen hb7 (Nat.le_refl _) hc8; have hs8 := hc8.size; (try simp at hs8); have ho4b'''' := Own.below ho4b''' hc8; have ho4t'''' := Own.below ho4t''' hc8; have ho7b' := Own.below ho7b hc8; have ho7t' := Own.below ho7t hc8)))
  have hx7_0 := bthen hx6_0.drew (Nat.le_refl _) hc7
  have hx7_1 := bthen hx6_1.drew (Nat.le_refl _) hc7
  have ho3'''' := OwnR.below (OwnR.drew ho3''') hc7
  have ho5'' := OwnR.below (OwnR.drew ho5') hc7
  have hx8_0 := bthen hx7_0 (Nat.le_refl _) hc8
  have hx8_1 := bthen hx7_1 (Nat.le_refl _) hc8
  have ho3''''' := OwnR.below ho3'''' hc8
  have ho5''' := OwnR.below ho5'' hc8
  have hy8_0 := hx8_0.size
  (try simp at hy8_0)
  have hy8_1 := hx8_1.size
  (try simp at hy8_1)
  clear k6_0_0 k6_0_1 k6_0_2 k6_1_0 k6_1_1 k6_1_2 kl6_0 kl6_1
  have k8_0_0 : w8.cell? ⟨w.heap.size, 0, none⟩ = some (.slice A0b x0b.length c0b) := by rw [hx8_0.cell (by simp <;> omega)]; try go_simp
  have k8_0_1 : w8.cell? ⟨w.heap.size, 1, none⟩ = some (.slice A0t x0t.length c0t) := by rw [hx8_0.cell (by simp <;> omega)]; try go_simp
  have k8_0_2 : w8.cell? ⟨w.heap.size, 2, none⟩ = some (.int .i64 n0) := by rw [hx8_0.cell (by simp <;> omega)]; try go_simp
  have k8_1_0 : w8.cell? ⟨w4.heap.size, 0, none⟩ = some (.slice B4b x0b.length d4b) := by rw [hx8_1.cell (by simp <;> omega)]; try go_simp
  have k8_1_1 : w8.cell? ⟨w4.heap.size, 1, none⟩ = some (.slice B4t x0t.length d4t) := by rw [hx8_1.cell (by simp <;> omega)]; try go_simp
  have k8_1_2 : w8.cell? ⟨w4.heap.size, 2, none⟩ = some (.int .i64 n0) := by rw [hx8_1.cell (by simp <;> omega)]; try go_simp
  have kl8_0 : w.heap.size < w8.heap.size := by omega
  have kl8_1 : w4.heap.size < w8.heap.size := by omega
  clear ho7b'
  clear ho7t'
  go_wp2_with fail
  refine (markScaffold_any B4b d4b x0b B4t d4t x0t n0 _ _ _ _ ho4b'''' ho4t'''' hap4 (by omega) (by omega)).mono ?_
  rintro e w9 ⟨rfl, hm9, hm92, hk9⟩
  have hb9 := hk9.below hb8 hb8.size (fun b hb => by rcases hb with hg2 | hg2 <;> first | (have h1 := hl4b _ hg2; omega) | (have h1 := hl4t _ hg2; omega))
  have hs9 := hk9.size
  have hx9_0 := hk9.below hx8_0 hx8_0.size (fun b hb => by rcases hb with hg2 | hg2 <;> first | (have h1 := hl4b _ hg2; simp at *; omega) | (have h1 := hl4t _ hg2; simp at *; omega))
  have kz9_1_0 : w9.cell? ⟨w4.heap.size, 0, none⟩ = some (.slice B4b x0b.length d4b) := (hk9.cell _ (by simp <;> omega) (fun hS => by rcases hS with hg2 | hg2 <;> first | (have h1 := hl4b _ hg2; simp at h1 <;> omega) | (have h1 := hl4t _ hg2; simp at h1 <;> omega))).trans k8_1_0
  have kz9_1_1 : w9.cell? ⟨w4.heap.size, 1, none⟩ = some (.slice B4t x0t.length d4t) := (hk9.cell _ (by simp <;> omega) (fun hS => by rcases hS with hg2 | hg2 <;> first | (have h1 := hl4b _ hg2; simp at h1 <;> omega) | (have h1 := hl4t _ hg2; simp at h1 <;> omega))).trans k8_1_1
  have kz9_1_2 : w9.cell? ⟨w4.heap.size, 2, none⟩ = some (.int .i64 n0) := (hk9.cell _ (by simp <;> omega) (fun hS => by rcases hS with hg2 | hg2 <;> first | (have h1 := hl4b _ hg2; simp at h1 <;> omega) | (have h1 := hl4t _ hg2; simp at h1 <;> omega))).trans k8_1_2
  have hx9_1 := Below.refl w9.heap.size w9
  have ho3'''''' := hk9.ownR ho3''''' (fun g hg hS => by have h2 := hl3.1 g hg; rcases hS with hg2 | hg2 <;> first | (have h1 := hl4b _ hg2; (first | omega | (simp at h2; omega))) | (have h1 := hl4t _ hg2; (first | omega | (simp at h2; omega)))) (fun q hq g hg hS => by have h2 := hl3.2 q hq g hg; rcases hS with hg2 | hg2 <;> first | (have h1 := hl4b _ hg2; (first | omega | (simp at h2; omega))) | (have h1 := hl4t _ hg2; (first | omega | (simp at h2; omega))))
  have ho5'''' := hk9.ownR ho5''' (fun g hg hS => by have h2 := hl5.1 g hg; rcases hS with hg2 | hg2 <;> first | (have h1 := hl4b _ hg2; (first | omega | (simp at h2; omega))) | (have h1 := hl4t _ hg2; (first | omega | (simp at h2; omega)))) (fun q hq g hg hS => by have h2 := hl5.2 q hq g hg; rcases hS with hg2 | hg2 <;> first | (have h1 := hl4b _ hg2; (first | omega | (simp at h2; omega))) | (have h1 := hl4t _ hg2; (first | omega | (simp at h2; omega))))
  clear k8_0_0 k8_0_1 k8_0_2 k8_1_0 k8_1_1 k8_1_2 kl8_0 kl8_1
  have k9_0_0 : w9.cell? ⟨w.heap.size, 0, none⟩ = some (.slice A0b x0b.length c0b) := by rw [hx9_0.cell (by simp <;> omega)]; try go_simp
  have k9_0_1 : w9.cell? ⟨w.heap.size, 1, none⟩ = some (.slice A0t x0t.length c0t) := by rw [hx9_0.cell (by simp <;> omega)]; try go_simp
  have k9_0_2 : w9.cell? ⟨w.heap.size, 2, none⟩ = some (.int .i64 n0) := by rw [hx9_0.cell (by simp <;> omega)]; try go_simp
  have k9_1_0 : w9.cell? ⟨w4.heap.size, 0, none⟩ = some (.slice B4b x0b.length d4b) := by rw [hx9_1.cell (by simp <;> omega)]; try go_simp
  have k9_1_1 : w9.cell? ⟨w4.heap.size, 1, none⟩ = some (.slice B4t x0t.length d4t) := by rw [hx9_1.cell (by simp <;> omega)]; try go_simp
  have k9_1_2 : w9.cell? ⟨w4.heap.size, 2, none⟩ = some (.int .i64 n0) := by rw [hx9_1.cell (by simp <;> omega)]; try go_simp
  have kl9_0 : w.heap.size < w9.heap.size := by omega
  have kl9_1 : w4.heap.size < w9.heap.size := by omega
  go_wp2_with fail
  refine (eqInt64SS_same B5 d5 s5 B3 d3 s3 _ (OwnR.rd ho5'''') (OwnR.rd ho3'''''') (by rw [he5, he3])).mono ?_
  rintro e w10 ⟨rfl, hc10⟩
  have hb10 := bthen hb9 (Nat.le_refl _) hc10
  have hs10 := hc10.size
  (try simp at hs10)
  have hx10_0 := bthen hx9_0 (Nat.le_refl _) hc10
  have hy10_0 := hx10_0.size
  (try simp at hy10_0)
  have hx10_1 := bthen hx9_1 (Nat.le_refl _) hc10
  have hy10_1 := hx10_1.size
  (try simp at hy10_1)
  have ho3''''''' := OwnR.below ho3'''''' hc10
  have hm9' := Own.below hm9 hc10
  have hm92' := Own.below hm92 hc10
  have ho5''''' := OwnR.below ho5'''' hc10
  clear k9_0_0 k9_0_1 k9_0_2 k9_1_0 k9_1_1 k9_1_2 kl9_0 kl9_1
  have k10_0_0 : w10.cell? ⟨w.heap.size, 0, none⟩ = some (.slice A0b x0b.length c0b) := by rw [hx10_0.cell (by simp <;> omega)]; try go_simp
  have k10_0_1 : w10.cell? ⟨w.heap.size, 1, none⟩ = some (.slice A0t x0t.length c0t) := by rw [hx10_0.cell (by simp <;> omega)]; try go_simp
  have k10_0_2 : w10.cell? ⟨w.heap.size, 2, none⟩ = some (.int .i64 n0) := by rw [hx10_0.cell (by simp <;> omega)]; try go_simp
  have k10_1_0 : w10.cell? ⟨w4.heap.size, 0, none⟩ = some (.slice B4b x0b.length d4b) := by rw [hx10_1.cell (by simp <;> omega)]; try go_simp
  have k10_1_1 : w10.cell? ⟨w4.heap.size, 1, none⟩ = some (.slice B4t x0t.length d4t) := by rw [hx10_1.cell (by simp <;> omega)]; try go_simp
  have k10_1_2 : w10.cell? ⟨w4.heap.size, 2, none⟩ = some (.int .i64 n0) := by rw [hx10_1.cell (by simp <;> omega)]; try go_simp
  have kl10_0 : w.heap.size < w10.heap.size := by omega
  have kl10_1 : w4.heap.size < w10.heap.size := by omega
  go_wp2_with fail
  refine (markInt64SS_any B5 d5 s5 _ _ _ ho5''''' (by omega) (by omega)).mono ?_
  rintro e w11 ⟨rfl, hm11, hk11⟩
  have hb11 := hk11.below hb10 hb10.size (fun b hb => by obtain ⟨r, hr, hg2⟩ := hb; have h1 := hl5.2 r hr _ hg2; omega)
  have hs11 := hk11.size
  have hx11_0 := hk11.below hx10_0 hx10_0.size (fun b hb => by obtain ⟨r, hr, hg2⟩ := hb; have h1 := hl5.2 r hr _ hg2; simp at *; omega)
  have kz11_1_0 : w11.cell? ⟨w4.heap.size, 0, none⟩ = some (.slice B4b x0b.length d4b) := (hk11.cell _ (by simp <;> omega) (fun hS => by obtain ⟨r, hr, hg2⟩ := hS; have h1 := hl5.2 r hr _ hg2; simp at h1 <;> omega)).trans k10_1_0
  have kz11_1_1 : w11.cell? ⟨w4.heap.size, 1, none⟩ = some (.slice B4t x0t.length d4t) := (hk11.cell _ (by simp <;> omega) (fun hS => by obtain ⟨r, hr, hg2⟩ := hS; have h1 := hl5.2 r hr _ hg2; simp at h1 <;> omega)).trans k10_1_1
  have kz11_1_2 : w11.cell? ⟨w4.heap.size, 2, none⟩ = some (.int .i64 n0) := (hk11.cell _ (by simp <;> omega) (fun hS => by obtain ⟨r, hr, hg2⟩ := hS; have h1 := hl5.2 r hr _ hg2; simp at h1 <;> omega)).trans k10_1_2
  have hx11_1 := Below.refl w11.heap.size w11
  have ho3'''''''' := hk11.ownR ho3''''''' (fun g hg hS => by have h2 := hl3.1 g hg; obtain ⟨r, hr, hg2⟩ := hS; have h1 := hl5.2 r hr _ hg2; (first | omega | (simp at h2; omega))) (fun q hq g hg hS => by have h2 := hl3.2 q hq g hg; obtain ⟨r, hr, hg2⟩ := hS; have h1 := hl5.2 r hr _ hg2; (first | omega | (simp at h2; omega)))
  have hm9'' := hk11.own hm9' (fun g hg hS => by have h2 := hl4b g hg; obtain ⟨r, hr, hg2⟩ := hS; have h1 := hl5.2 r hr _ hg2; (first | omega | (simp at h2; omega)))
  have hm92'' := hk11.own hm92' (fun g hg hS => by have h2 := hl4t g hg; obtain ⟨r, hr, hg2⟩ := hS; have h1 := hl5.2 r hr _ hg2; (first | omega | (simp at h2; omega)))
  clear k10_0_0 k10_0_1 k10_0_2 k10_1_0 k10_1_1 k10_1_2 kl10_0 kl10_1
  have k11_0_0 : w11.cell? ⟨w.heap.size, 0, none⟩ = some (.slice A0b x0b.length c0b) := by rw [hx11_0.cell (by simp <;> omega)]; try go_simp
  have k11_0_1 : w11.cell? ⟨w.heap.size, 1, none⟩ = some (.slice A0t x0t.length c0t) := by rw [hx11_0.cell (by simp <;> omega)]; try go_simp
  have k11_0_2 : w11.cell? ⟨w.heap.size, 2, none⟩ = some (.int .i64 n0) := by rw [hx11_0.cell (by simp <;> omega)]; try go_simp
  have k11_1_0 : w11.cell? ⟨w4.heap.size, 0, none⟩ = some (.slice B4b x0b.length d4b) := by rw [hx11_1.cell (by simp <;> omega)]; try go_simp
  have k11_1_1 : w11.cell? ⟨w4.heap.size, 1, none⟩ = some (.slice B4t x0t.length d4t) := by rw [hx11_1.cell (by simp <;> omega)]; try go_simp
  have k11_1_2 : w11.cell? ⟨w4.heap.size, 2, none⟩ = some (.int .i64 n0) := by rw [hx11_1.cell (by simp <;> omega)]; try go_simp
  have kl11_0 : w.heap.size < w11.heap.size := by omega
  have kl11_1 : w4.heap.size < w11.heap.size := by omega
  go_wp2_with fail
  refine (heldInt64SS_any B5 d5 s5 1 _ _ (OwnR.rd hm11) (by omega) (by omega)).mono ?_
  rintro e wx ⟨rfl, rfl⟩
  go_wp2_with fail
  refine (toScaffold_any A0b c0b x0b A0t c0t x0t n0 _ ((hr0b.below hb11).more hb11.size) ((hr0t.below hb11).more hb11.size) (by omega) (by omega)).mono ?_
  rintro e w12 ⟨B12b, d12b, B12t, d12t, rfl, ho12b, ho12t, hap12, hc12⟩
  have hl12b := ho12b.blk_lt
  have hl12t := ho12t.blk_lt
  (try simp at hl12b)
  (try simp at hl12t)
  have hb12 := bthen hb11 (Nat.le_refl _) hc12
  have hs12 := hc12.size
  (try simp at hs12)
  have hx12_0 := bthen hx11_0 (Nat.le_refl _) hc12
  have hy12_0 := hx12_0.size
  (try simp at hy12_0)
  have hx12_1 := bthen hx11_1 (Nat.le_refl _) hc12
  have hy12_1 := hx12_1.size
  (try simp at hy12_1)
  have ho3''''''''' := OwnR.below ho3'''''''' hc12
  have hm9''' := Own.below hm9'' hc12
  have hm92''' := Own.below hm92'' hc12
  have hm11' := OwnR.below hm11 hc12
  clear k11_0_0 k11_0_1 k11_0_2 k11_1_0 k11_1_1 k11_1_2 kl11_0 kl11_1
  have k12_0_0 : w12.cell? ⟨w.heap.size, 0, none⟩ = some (.slice A0b x0b.length c0b) := by rw [hx12_0.cell (by simp <;> omega)]; try go_simp
  have k12_0_1 : w12.cell? ⟨w.heap.size, 1, none⟩ = some (.slice A0t x0t.length c0t) := by rw [hx12_0.cell (by simp <;> omega)]; try go_simp
  have k12_0_2 : w12.cell? ⟨w.heap.size, 2, none⟩ = some (.int .i64 n0) := by rw [hx12_0.cell (by simp <;> omega)]; try go_simp
  have k12_1_0 : w12.cell? ⟨w4.heap.size, 0, none⟩ = some (.slice B4b x0b.length d4b) := by rw [hx12_1.cell (by simp <;> omega)]; try go_simp
  have k12_1_1 : w12.cell? ⟨w4.heap.size, 1, none⟩ = some (.slice B4t x0t.length d4t) := by rw [hx12_1.cell (by simp <;> omega)]; try go_simp
  have k12_1_2 : w12.cell? ⟨w4.heap.size, 2, none⟩ = some (.int .i64 n0) := by rw [hx12_1.cell (by simp <;> omega)]; try go_simp
  have kl12_0 : w.heap.size < w12.heap.size := by omega
  have kl12_1 : w4.heap.size < w12.heap.size := by omega
  go_wp2_with fail
  refine (implTiesOf_any B12b d12b x0b B12t d12t x0t n0 _ (Own.rd ho12b) (Own.rd ho12t)).mono ?_
  rintro e w13 ⟨B13, d13, s13, rfl, ho13, he13, hc13⟩
  have hl13 := ho13.blk_lt
  (try simp only [World.size_alloc] at hl13)
  have hn13 : tl s13 ≤ 1048576 := by rw [tl_dat, he13]; exact tyP_tl _ _ _
  have hb13 := bthen hb12 (Nat.le_refl _) hc13
  have hs13 := hc13.size
  (try simp at hs13)
  have hx13_0 := bthen hx12_0 (Nat.le_refl _) hc13
  have hy13_0 := hx13_0.size
  (try simp at hy13_0)
  have hx13_1 := bthen hx12_1 (Nat.le_refl _) hc13
  have hy13_1 := hx13_1.size
  (try simp at hy13_1)
  have ho3'''''''''' := OwnR.below ho3''''''''' hc13
  have hm9'''' := Own.below hm9''' hc13
  have hm92'''' := Own.below hm92''' hc13
  have hm11'' := OwnR.below hm11' hc13
  have ho12b' := Own.below ho12b hc13
  have ho12t' := Own.below ho12t hc13
  clear k12_0_0 k12_0_1 k12_0_2 k12_1_0 k12_1_1 k12_1_2 kl12_0 kl12_1
  have k13_0_0 : w13.cell? ⟨w.heap.size, 0, none⟩ = some (.slice A0b x0b.length c0b) := by rw [hx13_0.cell (by simp <;> omega)]; try go_simp
  have k13_0_1 : w13.cell? ⟨w.heap.size, 1, none⟩ = some (.slice A0t x0t.length c0t) := by rw [hx13_0.cell (by simp <;> omega)]; try go_simp
  have k13_0_2 : w13.cell? ⟨w.heap.size, 2, none⟩ = some (.int .i64 n0) := by rw [hx13_0.cell (by simp <;> omega)]; try go_simp
  have k13_1_0 : w13.cell? ⟨w4.heap.size, 0, none⟩ = some (.slice B4b x0b.length d4b) := by rw [hx13_1.cell (by simp <;> omega)]; try go_simp
  have k13_1_1 : w13.cell? ⟨w4.heap.size, 1, none⟩ = some (.slice B4t x0t.length d4t) := by rw [hx13_1.cell (by simp <;> omega)]; try go_simp
  have k13_1_2 : w13.cell? ⟨w4.heap.size, 2, none⟩ = some (.int .i64 n0) := by rw [hx13_1.cell (by simp <;> omega)]; try go_simp
  have kl13_0 : w.heap.size < w13.heap.size := by omega
  have kl13_1 : w4.heap.size < w13.heap.size := by omega
  clear ho12b'
  clear ho12t'
  go_wp2_with fail
  refine (eqInt64SS_same B13 d13 s13 B3 d3 s3 _ (OwnR.rd ho13) (OwnR.rd ho3'''''''''') (by rw [he13, he3])).mono ?_
  rintro e w14 ⟨rfl, hc14⟩
  have hb14 := bthen hb13 (Nat.le_refl _) hc14
  have hs14 := hc14.size
  (try simp at hs14)
  have hx14_0 := bthen hx13_0 (Nat.le_refl _) hc14
  have hy14_0 := hx14_0.size
  (try simp at hy14_0)
  have hx14_1 := bthen hx13_1 (Nat.le_refl _) hc14
  have hy14_1 := hx14_1.size
  (try simp at hy14_1)
  have ho3''''''''''' := OwnR.below ho3'''''''''' hc14
  have hm9''''' := Own.below hm9'''' hc14
  have hm92''''' := Own.below hm92'''' hc14
  have hm11''' := OwnR.below hm11'' hc14
  have ho13' := OwnR.below ho13 hc14
  clear k13_0_0 k13_0_1 k13_0_2 k13_1_0 k13_1_1 k13_1_2 kl13_0 kl13_1
  have k14_0_0 : w14.cell? ⟨w.heap.size, 0, none⟩ = some (.slice A0b x0b.length c0b) := by rw [hx14_0.cell (by simp <;> omega)]; try go_simp
  have k14_0_1 : w14.cell? ⟨w.heap.size, 1, none⟩ = some (.slice A0t x0t.length c0t) := by rw [hx14_0.cell (by simp <;> omega)]; try go_simp
  have k14_0_2 : w14.cell? ⟨w.heap.size, 2, none⟩ = some (.int .i64 n0) := by rw [hx14_0.cell (by simp <;> omega)]; try go_simp
  have k14_1_0 : w14.cell? ⟨w4.heap.size, 0, none⟩ = some (.slice B4b x0b.length d4b) := by rw [hx14_1.cell (by simp <;> omega)]; try go_simp
  have k14_1_1 : w14.cell? ⟨w4.heap.size, 1, none⟩ = some (.slice B4t x0t.length d4t) := by rw [hx14_1.cell (by simp <;> omega)]; try go_simp
  have k14_1_2 : w14.cell? ⟨w4.heap.size, 2, none⟩ = some (.int .i64 n0) := by rw [hx14_1.cell (by simp <;> omega)]; try go_simp
  have kl14_0 : w.heap.size < w14.heap.size := by omega
  have kl14_1 : w4.heap.size < w14.heap.size := by omega
  go_wp2_with fail
  refine (heldInt64SS_any B5 d5 s5 1 _ _ (OwnR.rd hm11''') (by omega) (by omega)).mono ?_
  rintro e wx ⟨rfl, rfl⟩
  go_wp2_with fail
  go_ret
  exact ⟨rfl, hb14⟩
end Go.Proofs.Yteaojbmfjlmggaa
