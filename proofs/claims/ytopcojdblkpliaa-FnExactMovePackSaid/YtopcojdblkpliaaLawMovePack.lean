/-
  FnExactMovePack returns true for every argument: the walk.
-/
import Derived.Test.YtopcojdblkpliaaYardG
import Derived.Test.YtopcojdblkpliaaFlatMove
import Derived.Test.YtopcojdblkpliaaOpen
import Derived.Test.YtopcojdblkpliaaOpenSS
import Derived.Test.YtopcojdblkpliaaOpenMove
import Derived.Deep.RegionHeld3
namespace Go.Proofs.Ytopcojdblkpliaa
open Go.ChangeShapes Go.WideShapes Go.RowKit

set_option maxRecDepth 100000 in
set_option maxHeartbeats 3200000 in
theorem lawMovePack_any (A0 : Option Addr) (c0 : Nat) (r0 : List (Row Int)) (f1_0 : Int) (f1_1 : Int) (w : World) (hr0 : RdR LI w w.heap.size A0 c0 r0) (_hi0 : ∀ r ∈ r0, ∀ n ∈ r.2.2, I64 n) (_hi1 : OkMove (f1_0, f1_1)) :
    Calls Try.prog 7 #[.slice A0 r0.length c0, .agg #[.int .i64 f1_0, .int .i64 f1_1]] w fun e w' => e = .returned (.bool true) ∧ Below w.heap.size w w' := by
  have hlen0 := hr0.len63
  by_cases hz0 : 0 ≤ (szRR 1048576 r0)
  rotate_left
  · skip
    have hneg : (szRR 1048576 r0) < 0 := by omega
    go_enter Try.func7, Try.ntmps7
    go_wp2_with fail
    refine (szInt64SS_any A0 c0 r0 _ _ _ (hr0.below ((Below.refl w.heap.size w).alloc (Nat.le_refl _) _)) (by omega) (by omega)).mono ?_
    rintro e wx ⟨rfl, rfl⟩
    go_wp2_with fail
    go_ret
    exact ⟨rfl, ((Below.refl w.heap.size w).alloc (Nat.le_refl _) _)⟩
  have hq0 : r0.length ≤ 1048576 ∧ ∀ r ∈ r0, r.2.2.length ≤ 1048576 := by
    have := szRR_yes (by omega) hz0
    exact ⟨by omega, fun r hr => by have := this.2 r hr; omega⟩
  have hu0c := szRR_le (by omega) hz0
  go_enter Try.func7, Try.ntmps7
  go_wp2_with fail
  refine (szInt64SS_any A0 c0 r0 _ _ _ (hr0.below ((Below.refl w.heap.size w).alloc (Nat.le_refl _) _)) (by omega) (by omega)).mono ?_
  rintro e wx ⟨rfl, rfl⟩
  go_wp2_with fail
  go_region_held3 (fun W => W.cell? ⟨w.heap.size, 0, none⟩ = some (.int .i64 f1_0) ∧ W.cell? ⟨w.heap.size, 1, none⟩ = some (.int .i64 f1_1))
    (first | go_keep | (go_split_ands; refine ⟨?_, ?_⟩ <;> (refine (hc1.cell ?_).trans ?_; (focus (simp <;> omega)); assumption)) | (go_split_ands; refine ⟨?_, ?_⟩ <;> (refine (hc2.cell ?_).trans ?_; (focus (simp <;> omega)); assumption)) | (go_split_ands; refine ⟨?_, ?_⟩ <;> (refine (hc3.cell ?_).trans ?_; (focus (simp <;> omega)); assumption)))
    ((first
      | (go_at_call 12; (with_reducible refine (toInt64SS_any A0 c0 r0 _ ((hr0.below ((Below.refl w.heap.size w).alloc (Nat.le_refl _) _)).more ((Below.refl w.heap.size w).alloc (Nat.le_refl _) _).size).drew hq0.1 hq0.2).mono ?_); rintro e w1 ⟨B1, d1, s1, rfl, ho1, he1, hc1⟩; have hl1 := ho1.blk_lt; (try simp only [World.size_alloc] at hl1); have hb1 := bthen ((Below.refl w.heap.size w).alloc (Nat.le_refl _) _).drew (Nat.le_refl _) hc1; have hs1 := hc1.size; (try simp at hs1))
      | (go_at_call 26; (with_reducible refine (toMove_any f1_0 f1_1 _).mono ?_); rintro e w2 ⟨rfl, hc2⟩; have hb2 := bthen hb1 (Nat.le_refl _) hc2; have hs2 := hc2.size; (try simp at hs2); have ho1' := OwnR.below ho1 hc2)
      | (go_at_call 25; (have hf3 := specMovePack_any B1 d1 s1 f1_0 f1_1 _ (OwnR.rd ho1') (tl_of (by assumption) rfl hz0) (nil_of (by assumption)) _hi1.1 _hi1.2); rw [he1] at hf3; (with_reducible refine hf3.mono ?_); rintro e w3 ⟨B3, d3, s3, rfl, ho3, he3, hc3⟩; clear hf3; have hl3 := ho3.blk_lt; (try simp only [World.size_alloc] at hl3); have hn3 : tl s3 ≤ 1048576 := (by rw [tl_dat, he3]; exact mpP_tl (dat r0) f1_0 f1_1); have hb3 := bthen hb2 (Nat.le_refl _) hc3; have hs3 := hc3.size; (try simp at hs3); have ho1'' := OwnR.below ho1' hc3)))
  have hx1_0 := bthen (Below.refl (w.alloc (.cells #[.int .i64 f1_0, .int .i64 f1_1] 36)).heap.size (w.alloc (.cells #[.int .i64 f1_0, .int .i64 f1_1] 36))).drew (Nat.le_refl _) hc1
  have hx2_0 := bthen hx1_0 (Nat.le_refl _) hc2
  have hx3_0 := bthen hx2_0 (Nat.le_refl _) hc3
  have hy3_0 := hx3_0.size
  (try simp at hy3_0)
  have k3_0_0 : w3.cell? ⟨w.heap.size, 0, none⟩ = some (.int .i64 f1_0) := by rw [hx3_0.cell (by simp <;> omega)]; try go_simp
  have k3_0_1 : w3.cell? ⟨w.heap.size, 1, none⟩ = some (.int .i64 f1_1) := by rw [hx3_0.cell (by simp <;> omega)]; try go_simp
  have kl3_0 : w.heap.size < w3.heap.size := by omega
  clear ho1''
  go_wp2_with fail
  refine (toInt64SS_any A0 c0 r0 _ ((hr0.below hb3).more hb3.size) hq0.1 hq0.2).mono ?_
  rintro e w4 ⟨B4, d4, s4, rfl, ho4, he4, hc4⟩
  have hl4 := ho4.blk_lt
  (try simp only [World.size_alloc] at hl4)
  have hb4 := bthen hb3 (Nat.le_refl _) hc4
  have hs4 := hc4.size
  (try simp at hs4)
  have hx4_0 := bthen hx3_0 (Nat.le_refl _) hc4
  have hy4_0 := hx4_0.size
  (try simp at hy4_0)
  have ho3' := OwnR.below ho3 hc4
  clear k3_0_0 k3_0_1 kl3_0
  have k4_0_0 : w4.cell? ⟨w.heap.size, 0, none⟩ = some (.int .i64 f1_0) := by rw [hx4_0.cell (by simp <;> omega)]; try go_simp
  have k4_0_1 : w4.cell? ⟨w.heap.size, 1, none⟩ = some (.int .i64 f1_1) := by rw [hx4_0.cell (by simp <;> omega)]; try go_simp
  have kl4_0 : w.heap.size < w4.heap.size := by omega
  go_wp2_with fail
  refine (toMove_any f1_0 f1_1 _).mono ?_
  rintro e w5 ⟨rfl, hc5⟩
  have hb5 := bthen hb4 (Nat.le_refl _) hc5
  have hs5 := hc5.size
  (try simp at hs5)
  have hx5_0 := bthen hx4_0 (Nat.le_refl _) hc5
  have hy5_0 := hx5_0.size
  (try simp at hy5_0)
  have ho3'' := OwnR.below ho3' hc5
  have ho4' := OwnR.below ho4 hc5
  clear k4_0_0 k4_0_1 kl4_0
  have k5_0_0 : w5.cell? ⟨w.heap.size, 0, none⟩ = some (.int .i64 f1_0) := by rw [hx5_0.cell (by simp <;> omega)]; try go_simp
  have k5_0_1 : w5.cell? ⟨w.heap.size, 1, none⟩ = some (.int .i64 f1_1) := by rw [hx5_0.cell (by simp <;> omega)]; try go_simp
  have kl5_0 : w.heap.size < w5.heap.size := by omega
  go_wp2_with fail
  have hf6 := implMovePack_any B4 d4 s4 f1_0 f1_1 _ (OwnR.rd ho4') (tl_of (by assumption) rfl hz0) (nil_of (by assumption)) _hi1.1 _hi1.2
  rw [he4] at hf6
  refine hf6.mono ?_
  rintro e w6 ⟨B6, d6, s6, rfl, ho6, he6, hc6⟩
  clear hf6
  have hl6 := ho6.blk_lt
  (try simp only [World.size_alloc] at hl6)
  have hn6 : tl s6 ≤ 1048576 := (by rw [tl_dat, he6]; exact mpP_tl (dat r0) f1_0 f1_1)
  have hb6 := bthen hb5 (Nat.le_refl _) hc6
  have hs6 := hc6.size
  (try simp at hs6)
  have hx6_0 := bthen hx5_0 (Nat.le_refl _) hc6
  have hy6_0 := hx6_0.size
  (try simp at hy6_0)
  have ho3''' := OwnR.below ho3'' hc6
  have ho4'' := OwnR.below ho4' hc6
  clear k5_0_0 k5_0_1 kl5_0
  have k6_0_0 : w6.cell? ⟨w.heap.size, 0, none⟩ = some (.int .i64 f1_0) := by rw [hx6_0.cell (by simp <;> omega)]; try go_simp
  have k6_0_1 : w6.cell? ⟨w.heap.size, 1, none⟩ = some (.int .i64 f1_1) := by rw [hx6_0.cell (by simp <;> omega)]; try go_simp
  have kl6_0 : w.heap.size < w6.heap.size := by omega
  go_wp2_with fail
  refine (eqInt64SS_same B6 d6 s6 B3 d3 s3 _ (OwnR.rd ho6) (OwnR.rd ho3''') (by rw [he6, he3])).mono ?_
  rintro e w7 ⟨rfl, hc7⟩
  have hb7 := bthen hb6 (Nat.le_refl _) hc7
  have hs7 := hc7.size
  (try simp at hs7)
  have hx7_0 := bthen hx6_0 (Nat.le_refl _) hc7
  have hy7_0 := hx7_0.size
  (try simp at hy7_0)
  have ho3'''' := OwnR.below ho3''' hc7
  have ho4''' := OwnR.below ho4'' hc7
  have ho6' := OwnR.below ho6 hc7
  clear k6_0_0 k6_0_1 kl6_0
  have k7_0_0 : w7.cell? ⟨w.heap.size, 0, none⟩ = some (.int .i64 f1_0) := by rw [hx7_0.cell (by simp <;> omega)]; try go_simp
  have k7_0_1 : w7.cell? ⟨w.heap.size, 1, none⟩ = some (.int .i64 f1_1) := by rw [hx7_0.cell (by simp <;> omega)]; try go_simp
  have kl7_0 : w.heap.size < w7.heap.size := by omega
  go_wp2_with fail
  refine (toInt64SS_any A0 c0 r0 _ ((hr0.below hb7).more hb7.size) hq0.1 hq0.2).mono ?_
  rintro e w8 ⟨B8, d8, s8, rfl, ho8, he8, hc8⟩
  have hl8 := ho8.blk_lt
  (try simp only [World.size_alloc] at hl8)
  have hb8 := bthen hb7 (Nat.le_refl _) hc8
  have hs8 := hc8.size
  (try simp at hs8)
  have hx8_0 := bthen hx7_0 (Nat.le_refl _) hc8
  have hy8_0 := hx8_0.size
  (try simp at hy8_0)
  have ho3''''' := OwnR.below ho3'''' hc8
  have ho4'''' := OwnR.below ho4''' hc8
  have ho6'' := OwnR.below ho6' hc8
  clear k7_0_0 k7_0_1 kl7_0
  have k8_0_0 : w8.cell? ⟨w.heap.size, 0, none⟩ = some (.int .i64 f1_0) := by rw [hx8_0.cell (by simp <;> omega)]; try go_simp
  have k8_0_1 : w8.cell? ⟨w.heap.size, 1, none⟩ = some (.int .i64 f1_1) := by rw [hx8_0.cell (by simp <;> omega)]; try go_simp
  have kl8_0 : w.heap.size < w8.heap.size := by omega
  go_wp2_with fail
  refine (eqInt64SS_same B4 d4 s4 B8 d8 s8 _ (OwnR.rd ho4'''') (OwnR.rd ho8) (by rw [he4, he8])).mono ?_
  rintro e w9 ⟨rfl, hc9⟩
  have hb9 := bthen hb8 (Nat.le_refl _) hc9
  have hs9 := hc9.size
  (try simp at hs9)
  have hx9_0 := bthen hx8_0 (Nat.le_refl _) hc9
  have hy9_0 := hx9_0.size
  (try simp at hy9_0)
  have ho3'''''' := OwnR.below ho3''''' hc9
  have ho4''''' := OwnR.below ho4'''' hc9
  have ho6''' := OwnR.below ho6'' hc9
  have ho8' := OwnR.below ho8 hc9
  clear k8_0_0 k8_0_1 kl8_0
  have k9_0_0 : w9.cell? ⟨w.heap.size, 0, none⟩ = some (.int .i64 f1_0) := by rw [hx9_0.cell (by simp <;> omega)]; try go_simp
  have k9_0_1 : w9.cell? ⟨w.heap.size, 1, none⟩ = some (.int .i64 f1_1) := by rw [hx9_0.cell (by simp <;> omega)]; try go_simp
  have kl9_0 : w.heap.size < w9.heap.size := by omega
  clear ho8'
  go_wp2_with fail
  have hn4 : tl s4 ≤ 1048576 * 1048576 := by rw [tl_dat, he4, ← tl_dat]; exact tl_bd hq0.2 hq0.1
  refine (markInt64SS_any B4 d4 s4 _ _ _ ho4''''' (by omega) (by omega)).mono ?_
  rintro e w10 ⟨rfl, hm10, hk10⟩
  have hb10 := hk10.below hb9 hb9.size (fun b hb => by obtain ⟨r, hr, hg2⟩ := hb; have h1 := hl4.2 r hr _ hg2; omega)
  have hs10 := hk10.size
  have hx10_0 := hk10.below hx9_0 hx9_0.size (fun b hb => by obtain ⟨r, hr, hg2⟩ := hb; have h1 := hl4.2 r hr _ hg2; simp at *; omega)
  have ho3''''''' := hk10.ownR ho3'''''' (fun g hg hS => by have h2 := hl3.1 g hg; obtain ⟨r, hr, hg2⟩ := hS; have h1 := hl4.2 r hr _ hg2; (first | omega | (simp at h2; omega))) (fun q hq g hg hS => by have h2 := hl3.2 q hq g hg; obtain ⟨r, hr, hg2⟩ := hS; have h1 := hl4.2 r hr _ hg2; (first | omega | (simp at h2; omega)))
  have ho6'''' := hk10.ownR ho6''' (fun g hg hS => by have h2 := hl6.1 g hg; obtain ⟨r, hr, hg2⟩ := hS; have h1 := hl4.2 r hr _ hg2; (first | omega | (simp at h2; omega))) (fun q hq g hg hS => by have h2 := hl6.2 q hq g hg; obtain ⟨r, hr, hg2⟩ := hS; have h1 := hl4.2 r hr _ hg2; (first | omega | (simp at h2; omega)))
  clear k9_0_0 k9_0_1 kl9_0
  have k10_0_0 : w10.cell? ⟨w.heap.size, 0, none⟩ = some (.int .i64 f1_0) := by rw [hx10_0.cell (by simp <;> omega)]; try go_simp
  have k10_0_1 : w10.cell? ⟨w.heap.size, 1, none⟩ = some (.int .i64 f1_1) := by rw [hx10_0.cell (by simp <;> omega)]; try go_simp
  have kl10_0 : w.heap.size < w10.heap.size := by omega
  go_wp2_with fail
  refine (eqInt64SS_same B6 d6 s6 B3 d3 s3 _ (OwnR.rd ho6'''') (OwnR.rd ho3''''''') (by rw [he6, he3])).mono ?_
  rintro e w11 ⟨rfl, hc11⟩
  have hb11 := bthen hb10 (Nat.le_refl _) hc11
  have hs11 := hc11.size
  (try simp at hs11)
  have hx11_0 := bthen hx10_0 (Nat.le_refl _) hc11
  have hy11_0 := hx11_0.size
  (try simp at hy11_0)
  have ho3'''''''' := OwnR.below ho3''''''' hc11
  have hm10' := OwnR.below hm10 hc11
  have ho6''''' := OwnR.below ho6'''' hc11
  clear k10_0_0 k10_0_1 kl10_0
  have k11_0_0 : w11.cell? ⟨w.heap.size, 0, none⟩ = some (.int .i64 f1_0) := by rw [hx11_0.cell (by simp <;> omega)]; try go_simp
  have k11_0_1 : w11.cell? ⟨w.heap.size, 1, none⟩ = some (.int .i64 f1_1) := by rw [hx11_0.cell (by simp <;> omega)]; try go_simp
  have kl11_0 : w.heap.size < w11.heap.size := by omega
  go_wp2_with fail
  refine (markInt64SS_any B6 d6 s6 _ _ _ ho6''''' (by omega) (by omega)).mono ?_
  rintro e w12 ⟨rfl, hm12, hk12⟩
  have hb12 := hk12.below hb11 hb11.size (fun b hb => by obtain ⟨r, hr, hg2⟩ := hb; have h1 := hl6.2 r hr _ hg2; omega)
  have hs12 := hk12.size
  have hx12_0 := hk12.below hx11_0 hx11_0.size (fun b hb => by obtain ⟨r, hr, hg2⟩ := hb; have h1 := hl6.2 r hr _ hg2; simp at *; omega)
  have ho3''''''''' := hk12.ownR ho3'''''''' (fun g hg hS => by have h2 := hl3.1 g hg; obtain ⟨r, hr, hg2⟩ := hS; have h1 := hl6.2 r hr _ hg2; (first | omega | (simp at h2; omega))) (fun q hq g hg hS => by have h2 := hl3.2 q hq g hg; obtain ⟨r, hr, hg2⟩ := hS; have h1 := hl6.2 r hr _ hg2; (first | omega | (simp at h2; omega)))
  have hm10'' := hk12.ownR hm10' (fun g hg hS => by have h2 := hl4.1 g hg; obtain ⟨r, hr, hg2⟩ := hS; have h1 := hl6.2 r hr _ hg2; (first | omega | (simp at h2; omega))) (fun q hq g hg hS => by have h2 := (upR_lt hl4.2) q hq g hg; obtain ⟨r, hr, hg2⟩ := hS; have h1 := hl6.2 r hr _ hg2; (first | omega | (simp at h2; omega)))
  clear k11_0_0 k11_0_1 kl11_0
  have k12_0_0 : w12.cell? ⟨w.heap.size, 0, none⟩ = some (.int .i64 f1_0) := by rw [hx12_0.cell (by simp <;> omega)]; try go_simp
  have k12_0_1 : w12.cell? ⟨w.heap.size, 1, none⟩ = some (.int .i64 f1_1) := by rw [hx12_0.cell (by simp <;> omega)]; try go_simp
  have kl12_0 : w.heap.size < w12.heap.size := by omega
  go_wp2_with fail
  refine (heldInt64SS_any B6 d6 s6 1 _ _ (OwnR.rd hm12) (by omega) (by omega)).mono ?_
  rintro e wx ⟨rfl, rfl⟩
  go_wp2_with fail
  go_region_held3 (fun W => W.cell? ⟨w.heap.size, 0, none⟩ = some (.int .i64 f1_0) ∧ W.cell? ⟨w.heap.size, 1, none⟩ = some (.int .i64 f1_1))
    (first | go_keep | (go_split_ands; refine ⟨?_, ?_⟩ <;> (refine (hc13.cell ?_).trans ?_; (focus (simp <;> omega)); assumption)) | (go_split_ands; refine ⟨?_, ?_⟩ <;> (refine (hc14.cell ?_).trans ?_; (focus (simp <;> omega)); assumption)) | (go_split_ands; refine ⟨?_, ?_⟩ <;> (refine (hc15.cell ?_).trans ?_; (focus (simp <;> omega)); assumption)))
    ((first
      | (go_at_call 12; (with_reducible refine (toInt64SS_any A0 c0 r0 _ ((hr0.below hb12).more hb12.size).drew hq0.1 hq0.2).mono ?_); rintro e w13 ⟨B13, d13, s13, rfl, ho13, he13, hc13⟩; have hl13 := ho13.blk_lt; (try simp only [World.size_alloc] at hl13); have hb13 := bthen hb12.drew (Nat.le_refl _) hc13; have hs13 := hc13.size; (try simp at hs13))
      | (go_at_call 26; (with_reducible refine (toMove_any f1_0 f1_1 _).mono ?_); rintro e w14 ⟨rfl, hc14⟩; have hb14 := bthen hb13 (Nat.le_refl _) hc14; have hs14 := hc14.size; (try simp at hs14); have ho13' := OwnR.below ho13 hc14)
      | (go_at_call 27; (have hf15 := implMovePack_any B13 d13 s13 f1_0 f1_1 _ (OwnR.rd ho13') (tl_of (by assumption) rfl hz0) (nil_of (by assumption)) _hi1.1 _hi1.2); rw [he13] at hf15; (with_reducible refine hf15.mono ?_); rintro e w15 ⟨B15, d15, s15, rfl, ho15, he15, hc15⟩; clear hf15; have hl15 := ho15.blk_lt; (try simp only [World.size_alloc] at hl15); have hn15 : tl s15 ≤ 1048576 := (by rw [tl_dat, he15]; exact mpP_tl (dat r0) f1_0 f1_1); have hb15 := bthen hb14 (Nat.le_refl _) hc15; have hs15 := hc15.size; (try simp at hs15); have ho13'' := OwnR.below ho13' hc15)))
  have hx13_0 := bthen hx12_0.drew (Nat.le_refl _) hc13
  have ho3'''''''''' := OwnR.below (OwnR.drew ho3''''''''') hc13
  have hm10''' := OwnR.below (OwnR.drew hm10'') hc13
  have hm12' := OwnR.below (OwnR.drew hm12) hc13
  have hx14_0 := bthen hx13_0 (Nat.le_refl _) hc14
  have ho3''''''''''' := OwnR.below ho3'''''''''' hc14
  have hm10'''' := OwnR.below hm10''' hc14
  have hm12'' := OwnR.below hm12' hc14
  have hx15_0 := bthen hx14_0 (Nat.le_refl _) hc15
  have ho3'''''''''''' := OwnR.below ho3''''''''''' hc15
  have hm10''''' := OwnR.below hm10'''' hc15
  have hm12''' := OwnR.below hm12'' hc15
  have hy15_0 := hx15_0.size
  (try simp at hy15_0)
  clear k12_0_0 k12_0_1 kl12_0
  have k15_0_0 : w15.cell? ⟨w.heap.size, 0, none⟩ = some (.int .i64 f1_0) := by rw [hx15_0.cell (by simp <;> omega)]; try go_simp
  have k15_0_1 : w15.cell? ⟨w.heap.size, 1, none⟩ = some (.int .i64 f1_1) := by rw [hx15_0.cell (by simp <;> omega)]; try go_simp
  have kl15_0 : w.heap.size < w15.heap.size := by omega
  clear ho13''
  go_wp2_with fail
  refine (eqInt64SS_same B15 d15 s15 B3 d3 s3 _ (OwnR.rd ho15) (OwnR.rd ho3'''''''''''') (by rw [he15, he3])).mono ?_
  rintro e w16 ⟨rfl, hc16⟩
  have hb16 := bthen hb15 (Nat.le_refl _) hc16
  have hs16 := hc16.size
  (try simp at hs16)
  have hx16_0 := bthen hx15_0 (Nat.le_refl _) hc16
  have hy16_0 := hx16_0.size
  (try simp at hy16_0)
  have ho3''''''''''''' := OwnR.below ho3'''''''''''' hc16
  have hm10'''''' := OwnR.below hm10''''' hc16
  have hm12'''' := OwnR.below hm12''' hc16
  have ho15' := OwnR.below ho15 hc16
  clear k15_0_0 k15_0_1 kl15_0
  have k16_0_0 : w16.cell? ⟨w.heap.size, 0, none⟩ = some (.int .i64 f1_0) := by rw [hx16_0.cell (by simp <;> omega)]; try go_simp
  have k16_0_1 : w16.cell? ⟨w.heap.size, 1, none⟩ = some (.int .i64 f1_1) := by rw [hx16_0.cell (by simp <;> omega)]; try go_simp
  have kl16_0 : w.heap.size < w16.heap.size := by omega
  go_wp2_with fail
  refine (heldInt64SS_any B6 d6 s6 1 _ _ (OwnR.rd hm12'''') (by omega) (by omega)).mono ?_
  rintro e wx ⟨rfl, rfl⟩
  go_wp2_with fail
  go_ret
  exact ⟨rfl, hb16⟩
end Go.Proofs.Ytopcojdblkpliaa
