/-
  FnExactAddHand returns true for every argument: the walk.
-/
import Derived.Test.YtehgaeplmnojmaaGangsH
import Derived.Deep.RegionHeld3
namespace Go.Proofs.Ytehgaeplmnojmaa
open Go.ChangeShapes Go.WideShapes Go.RowKit

set_option maxRecDepth 100000 in
set_option maxHeartbeats 3200000 in
theorem lawAddHand_any (A0 : Option Addr) (c0 : Nat) (x0 : List HandD) (f1_0 : ByteArray) (f1_1 : Int) (f1_2 : Bool) (w : World) (hr0 : Rd LHand w w.heap.size A0 c0 x0) (_hi0 : ∀ n ∈ x0, OkHand n) (_hi1 : OkHand (f1_0, f1_1, f1_2)) :
    Calls Try.prog 8 #[.slice A0 x0.length c0, .agg #[.string f1_0, .int .i64 f1_1, .bool f1_2]] w fun e w' => e = .returned (.bool true) ∧ Below w.heap.size w w' := by
  have hlen0 := hr0.len63
  by_cases hz0 : 0 ≤ (szNm 1048576 (x0.map fun x => x.1))
  rotate_left
  · skip
    have hneg : (szNm 1048576 (x0.map fun x => x.1)) < 0 := by omega
    go_enter Try.func8, Try.ntmps8
    go_wp2_with fail
    refine (szHandS_any A0 c0 x0 _ _ ((hr0.below ((Below.refl w.heap.size w).alloc (Nat.le_refl _) _)).more ((Below.refl w.heap.size w).alloc (Nat.le_refl _) _).size) (by omega) (by omega) _hi0).mono ?_
    rintro e w1 ⟨rfl, hc1⟩
    have hb1 := bthen ((Below.refl w.heap.size w).alloc (Nat.le_refl _) _) (Nat.le_refl _) hc1
    have hs1 := hc1.size
    (try simp at hs1)
    have hx1_0 := bthen (Below.refl (w.alloc (.cells #[.string f1_0, .int .i64 f1_1, .bool f1_2] 43)).heap.size (w.alloc (.cells #[.string f1_0, .int .i64 f1_1, .bool f1_2] 43))) (Nat.le_refl _) hc1
    have hy1_0 := hx1_0.size
    (try simp at hy1_0)
    have k1_0_0 : w1.cell? ⟨w.heap.size, 0, none⟩ = some (.string f1_0) := by rw [hx1_0.cell (by simp <;> omega)]; try go_simp
    have k1_0_1 : w1.cell? ⟨w.heap.size, 1, none⟩ = some (.int .i64 f1_1) := by rw [hx1_0.cell (by simp <;> omega)]; try go_simp
    have k1_0_2 : w1.cell? ⟨w.heap.size, 2, none⟩ = some (.bool f1_2) := by rw [hx1_0.cell (by simp <;> omega)]; try go_simp
    have kl1_0 : w.heap.size < w1.heap.size := by omega
    go_wp2_with fail
    go_ret
    exact ⟨rfl, hb1⟩
  obtain ⟨hu0a, hu0c⟩ := szNm_yes (by omega) hz0
  rw [List.length_map] at hu0a
  by_cases hz1 : 0 ≤ (szN (szNm 1048576 (x0.map fun x => x.1)) f1_0.size)
  rotate_left
  · skip
    have hneg : (szN (szNm 1048576 (x0.map fun x => x.1)) f1_0.size) < 0 := by omega
    go_enter Try.func8, Try.ntmps8
    go_wp2_with fail
    refine (szHandS_any A0 c0 x0 _ _ ((hr0.below ((Below.refl w.heap.size w).alloc (Nat.le_refl _) _)).more ((Below.refl w.heap.size w).alloc (Nat.le_refl _) _).size) (by omega) (by omega) _hi0).mono ?_
    rintro e w1 ⟨rfl, hc1⟩
    have hb1 := bthen ((Below.refl w.heap.size w).alloc (Nat.le_refl _) _) (Nat.le_refl _) hc1
    have hs1 := hc1.size
    (try simp at hs1)
    have hx1_0 := bthen (Below.refl (w.alloc (.cells #[.string f1_0, .int .i64 f1_1, .bool f1_2] 43)).heap.size (w.alloc (.cells #[.string f1_0, .int .i64 f1_1, .bool f1_2] 43))) (Nat.le_refl _) hc1
    have hy1_0 := hx1_0.size
    (try simp at hy1_0)
    have k1_0_0 : w1.cell? ⟨w.heap.size, 0, none⟩ = some (.string f1_0) := by rw [hx1_0.cell (by simp <;> omega)]; try go_simp
    have k1_0_1 : w1.cell? ⟨w.heap.size, 1, none⟩ = some (.int .i64 f1_1) := by rw [hx1_0.cell (by simp <;> omega)]; try go_simp
    have k1_0_2 : w1.cell? ⟨w.heap.size, 2, none⟩ = some (.bool f1_2) := by rw [hx1_0.cell (by simp <;> omega)]; try go_simp
    have kl1_0 : w.heap.size < w1.heap.size := by omega
    go_wp2_with fail
    refine (szHand_any f1_0 f1_1 f1_2 _ _ (by omega) (by omega) _hi1).mono ?_
    rintro e w2 ⟨rfl, hc2⟩
    have hb2 := bthen hb1 (Nat.le_refl _) hc2
    have hs2 := hc2.size
    (try simp at hs2)
    have hx2_0 := bthen hx1_0 (Nat.le_refl _) hc2
    have hy2_0 := hx2_0.size
    (try simp at hy2_0)
    clear k1_0_0 k1_0_1 k1_0_2 kl1_0
    have k2_0_0 : w2.cell? ⟨w.heap.size, 0, none⟩ = some (.string f1_0) := by rw [hx2_0.cell (by simp <;> omega)]; try go_simp
    have k2_0_1 : w2.cell? ⟨w.heap.size, 1, none⟩ = some (.int .i64 f1_1) := by rw [hx2_0.cell (by simp <;> omega)]; try go_simp
    have k2_0_2 : w2.cell? ⟨w.heap.size, 2, none⟩ = some (.bool f1_2) := by rw [hx2_0.cell (by simp <;> omega)]; try go_simp
    have kl2_0 : w.heap.size < w2.heap.size := by omega
    go_wp2_with fail
    go_ret
    exact ⟨rfl, hb2⟩
  obtain ⟨hu1a, hu1c⟩ := szN_yes (by omega) hz1
  go_enter Try.func8, Try.ntmps8
  go_wp2_with fail
  refine (szHandS_any A0 c0 x0 _ _ ((hr0.below ((Below.refl w.heap.size w).alloc (Nat.le_refl _) _)).more ((Below.refl w.heap.size w).alloc (Nat.le_refl _) _).size) (by omega) (by omega) _hi0).mono ?_
  rintro e w1 ⟨rfl, hc1⟩
  have hb1 := bthen ((Below.refl w.heap.size w).alloc (Nat.le_refl _) _) (Nat.le_refl _) hc1
  have hs1 := hc1.size
  (try simp at hs1)
  have hx1_0 := bthen (Below.refl (w.alloc (.cells #[.string f1_0, .int .i64 f1_1, .bool f1_2] 43)).heap.size (w.alloc (.cells #[.string f1_0, .int .i64 f1_1, .bool f1_2] 43))) (Nat.le_refl _) hc1
  have hy1_0 := hx1_0.size
  (try simp at hy1_0)
  have k1_0_0 : w1.cell? ⟨w.heap.size, 0, none⟩ = some (.string f1_0) := by rw [hx1_0.cell (by simp <;> omega)]; try go_simp
  have k1_0_1 : w1.cell? ⟨w.heap.size, 1, none⟩ = some (.int .i64 f1_1) := by rw [hx1_0.cell (by simp <;> omega)]; try go_simp
  have k1_0_2 : w1.cell? ⟨w.heap.size, 2, none⟩ = some (.bool f1_2) := by rw [hx1_0.cell (by simp <;> omega)]; try go_simp
  have kl1_0 : w.heap.size < w1.heap.size := by omega
  go_wp2_with fail
  refine (szHand_any f1_0 f1_1 f1_2 _ _ (by omega) (by omega) _hi1).mono ?_
  rintro e w2 ⟨rfl, hc2⟩
  have hb2 := bthen hb1 (Nat.le_refl _) hc2
  have hs2 := hc2.size
  (try simp at hs2)
  have hx2_0 := bthen hx1_0 (Nat.le_refl _) hc2
  have hy2_0 := hx2_0.size
  (try simp at hy2_0)
  clear k1_0_0 k1_0_1 k1_0_2 kl1_0
  have k2_0_0 : w2.cell? ⟨w.heap.size, 0, none⟩ = some (.string f1_0) := by rw [hx2_0.cell (by simp <;> omega)]; try go_simp
  have k2_0_1 : w2.cell? ⟨w.heap.size, 1, none⟩ = some (.int .i64 f1_1) := by rw [hx2_0.cell (by simp <;> omega)]; try go_simp
  have k2_0_2 : w2.cell? ⟨w.heap.size, 2, none⟩ = some (.bool f1_2) := by rw [hx2_0.cell (by simp <;> omega)]; try go_simp
  have kl2_0 : w.heap.size < w2.heap.size := by omega
  go_wp2_with fail
  go_region_held3 (fun W => W.cell? ⟨w.heap.size, 0, none⟩ = some (.string f1_0) ∧ W.cell? ⟨w.heap.size, 1, none⟩ = some (.int .i64 f1_1) ∧ W.cell? ⟨w.heap.size, 2, none⟩ = some (.bool f1_2))
    (first | go_keep | (go_split_ands; refine ⟨?_, ?_, ?_⟩ <;> (refine (hc3.cell ?_).trans ?_; (focus (simp <;> omega)); assumption)) | (go_split_ands; refine ⟨?_, ?_, ?_⟩ <;> (refine (hc4.cell ?_).trans ?_; (focus (simp <;> omega)); assumption)) | (go_split_ands; refine ⟨?_, ?_, ?_⟩ <;> (refine (hc5.cell ?_).trans ?_; (focus (simp <;> omega)); assumption)))
    ((first
      | (go_at_call 16; (with_reducible refine (toHandS_any A0 c0 x0 _ ((hr0.below hb2).more hb2.size).drew (by omega)).mono ?_); rintro e w3 ⟨B3, d3, rfl, ho3, hc3⟩; have hl3 := ho3.blk_lt; (try simp at hl3); have hb3 := bthen hb2.drew (Nat.le_refl _) hc3; have hs3 := hc3.size; (try simp at hs3))
      | (go_at_call 32; (with_reducible refine (toHand_any f1_0 f1_1 f1_2 _).mono ?_); rintro e w4 ⟨rfl, hc4⟩; have hb4 := bthen hb3 (Nat.le_refl _) hc4; have hs4 := hc4.size; (try simp at hs4); have ho3' := Own.below ho3 hc4)
      | (go_at_call 31; (with_reducible refine (specAddHand_any B3 d3 x0 f1_0 f1_1 f1_2 _ (Own.rd ho3') _hi0 _hi1).mono ?_); rintro e w5 ⟨B5, d5, rfl, ho5, hc5⟩; have hl5 := ho5.blk_lt; (try simp at hl5); have hn5 := ahP_len x0 (f1_0, f1_1, f1_2); have hb5 := bthen hb4 (Nat.le_refl _) hc5; have hs5 := hc5.size; (try simp at hs5); have ho3'' := Own.below ho3' hc5)))
  have hx3_0 := bthen hx2_0.drew (Nat.le_refl _) hc3
  have hx4_0 := bthen hx3_0 (Nat.le_refl _) hc4
  have hx5_0 := bthen hx4_0 (Nat.le_refl _) hc5
  have hy5_0 := hx5_0.size
  (try simp at hy5_0)
  clear k2_0_0 k2_0_1 k2_0_2 kl2_0
  have k5_0_0 : w5.cell? ⟨w.heap.size, 0, none⟩ = some (.string f1_0) := by rw [hx5_0.cell (by simp <;> omega)]; try go_simp
  have k5_0_1 : w5.cell? ⟨w.heap.size, 1, none⟩ = some (.int .i64 f1_1) := by rw [hx5_0.cell (by simp <;> omega)]; try go_simp
  have k5_0_2 : w5.cell? ⟨w.heap.size, 2, none⟩ = some (.bool f1_2) := by rw [hx5_0.cell (by simp <;> omega)]; try go_simp
  have kl5_0 : w.heap.size < w5.heap.size := by omega
  clear ho3''
  go_wp2_with fail
  refine (toHandS_any A0 c0 x0 _ ((hr0.below hb5).more hb5.size) (by omega)).mono ?_
  rintro e w6 ⟨B6, d6, rfl, ho6, hc6⟩
  have hl6 := ho6.blk_lt
  (try simp at hl6)
  have hb6 := bthen hb5 (Nat.le_refl _) hc6
  have hs6 := hc6.size
  (try simp at hs6)
  have hx6_0 := bthen hx5_0 (Nat.le_refl _) hc6
  have hy6_0 := hx6_0.size
  (try simp at hy6_0)
  have ho5' := Own.below ho5 hc6
  clear k5_0_0 k5_0_1 k5_0_2 kl5_0
  have k6_0_0 : w6.cell? ⟨w.heap.size, 0, none⟩ = some (.string f1_0) := by rw [hx6_0.cell (by simp <;> omega)]; try go_simp
  have k6_0_1 : w6.cell? ⟨w.heap.size, 1, none⟩ = some (.int .i64 f1_1) := by rw [hx6_0.cell (by simp <;> omega)]; try go_simp
  have k6_0_2 : w6.cell? ⟨w.heap.size, 2, none⟩ = some (.bool f1_2) := by rw [hx6_0.cell (by simp <;> omega)]; try go_simp
  have kl6_0 : w.heap.size < w6.heap.size := by omega
  go_wp2_with fail
  refine (toHand_any f1_0 f1_1 f1_2 _).mono ?_
  rintro e w7 ⟨rfl, hc7⟩
  have hb7 := bthen hb6 (Nat.le_refl _) hc7
  have hs7 := hc7.size
  (try simp at hs7)
  have hx7_0 := bthen hx6_0 (Nat.le_refl _) hc7
  have hy7_0 := hx7_0.size
  (try simp at hy7_0)
  have ho5'' := Own.below ho5' hc7
  have ho6' := Own.below ho6 hc7
  clear k6_0_0 k6_0_1 k6_0_2 kl6_0
  have k7_0_0 : w7.cell? ⟨w.heap.size, 0, none⟩ = some (.string f1_0) := by rw [hx7_0.cell (by simp <;> omega)]; try go_simp
  have k7_0_1 : w7.cell? ⟨w.heap.size, 1, none⟩ = some (.int .i64 f1_1) := by rw [hx7_0.cell (by simp <;> omega)]; try go_simp
  have k7_0_2 : w7.cell? ⟨w.heap.size, 2, none⟩ = some (.bool f1_2) := by rw [hx7_0.cell (by simp <;> omega)]; try go_simp
  have kl7_0 : w.heap.size < w7.heap.size := by omega
  go_wp2_with fail
  refine (implAddHand_any B6 d6 x0 f1_0 f1_1 f1_2 _ (Own.rd ho6') _hi0 _hi1).mono ?_
  rintro e w8 ⟨B8, d8, rfl, ho8, hc8⟩
  have hl8 := ho8.blk_lt
  (try simp at hl8)
  have hn8 := ahP_len x0 (f1_0, f1_1, f1_2)
  have hb8 := bthen hb7 (Nat.le_refl _) hc8
  have hs8 := hc8.size
  (try simp at hs8)
  have hx8_0 := bthen hx7_0 (Nat.le_refl _) hc8
  have hy8_0 := hx8_0.size
  (try simp at hy8_0)
  have ho5''' := Own.below ho5'' hc8
  have ho6'' := Own.below ho6' hc8
  clear k7_0_0 k7_0_1 k7_0_2 kl7_0
  have k8_0_0 : w8.cell? ⟨w.heap.size, 0, none⟩ = some (.string f1_0) := by rw [hx8_0.cell (by simp <;> omega)]; try go_simp
  have k8_0_1 : w8.cell? ⟨w.heap.size, 1, none⟩ = some (.int .i64 f1_1) := by rw [hx8_0.cell (by simp <;> omega)]; try go_simp
  have k8_0_2 : w8.cell? ⟨w.heap.size, 2, none⟩ = some (.bool f1_2) := by rw [hx8_0.cell (by simp <;> omega)]; try go_simp
  have kl8_0 : w.heap.size < w8.heap.size := by omega
  go_wp2_with fail
  refine (eqHandS_same B8 d8 B5 d5 _ _ (Own.rd ho8) (Own.rd ho5''')).mono ?_
  rintro e w9 ⟨rfl, hc9⟩
  have hb9 := bthen hb8 (Nat.le_refl _) hc9
  have hs9 := hc9.size
  (try simp at hs9)
  have hx9_0 := bthen hx8_0 (Nat.le_refl _) hc9
  have hy9_0 := hx9_0.size
  (try simp at hy9_0)
  have ho5'''' := Own.below ho5''' hc9
  have ho6''' := Own.below ho6'' hc9
  have ho8' := Own.below ho8 hc9
  clear k8_0_0 k8_0_1 k8_0_2 kl8_0
  have k9_0_0 : w9.cell? ⟨w.heap.size, 0, none⟩ = some (.string f1_0) := by rw [hx9_0.cell (by simp <;> omega)]; try go_simp
  have k9_0_1 : w9.cell? ⟨w.heap.size, 1, none⟩ = some (.int .i64 f1_1) := by rw [hx9_0.cell (by simp <;> omega)]; try go_simp
  have k9_0_2 : w9.cell? ⟨w.heap.size, 2, none⟩ = some (.bool f1_2) := by rw [hx9_0.cell (by simp <;> omega)]; try go_simp
  have kl9_0 : w.heap.size < w9.heap.size := by omega
  go_wp2_with fail
  refine (toHandS_any A0 c0 x0 _ ((hr0.below hb9).more hb9.size) (by omega)).mono ?_
  rintro e w10 ⟨B10, d10, rfl, ho10, hc10⟩
  have hl10 := ho10.blk_lt
  (try simp at hl10)
  have hb10 := bthen hb9 (Nat.le_refl _) hc10
  have hs10 := hc10.size
  (try simp at hs10)
  have hx10_0 := bthen hx9_0 (Nat.le_refl _) hc10
  have hy10_0 := hx10_0.size
  (try simp at hy10_0)
  have ho5''''' := Own.below ho5'''' hc10
  have ho6'''' := Own.below ho6''' hc10
  have ho8'' := Own.below ho8' hc10
  clear k9_0_0 k9_0_1 k9_0_2 kl9_0
  have k10_0_0 : w10.cell? ⟨w.heap.size, 0, none⟩ = some (.string f1_0) := by rw [hx10_0.cell (by simp <;> omega)]; try go_simp
  have k10_0_1 : w10.cell? ⟨w.heap.size, 1, none⟩ = some (.int .i64 f1_1) := by rw [hx10_0.cell (by simp <;> omega)]; try go_simp
  have k10_0_2 : w10.cell? ⟨w.heap.size, 2, none⟩ = some (.bool f1_2) := by rw [hx10_0.cell (by simp <;> omega)]; try go_simp
  have kl10_0 : w.heap.size < w10.heap.size := by omega
  go_wp2_with fail
  refine (eqHandS_same B6 d6 B10 d10 _ _ (Own.rd ho6'''') (Own.rd ho10)).mono ?_
  rintro e w11 ⟨rfl, hc11⟩
  have hb11 := bthen hb10 (Nat.le_refl _) hc11
  have hs11 := hc11.size
  (try simp at hs11)
  have hx11_0 := bthen hx10_0 (Nat.le_refl _) hc11
  have hy11_0 := hx11_0.size
  (try simp at hy11_0)
  have ho5'''''' := Own.below ho5''''' hc11
  have ho6''''' := Own.below ho6'''' hc11
  have ho8''' := Own.below ho8'' hc11
  have ho10' := Own.below ho10 hc11
  clear k10_0_0 k10_0_1 k10_0_2 kl10_0
  have k11_0_0 : w11.cell? ⟨w.heap.size, 0, none⟩ = some (.string f1_0) := by rw [hx11_0.cell (by simp <;> omega)]; try go_simp
  have k11_0_1 : w11.cell? ⟨w.heap.size, 1, none⟩ = some (.int .i64 f1_1) := by rw [hx11_0.cell (by simp <;> omega)]; try go_simp
  have k11_0_2 : w11.cell? ⟨w.heap.size, 2, none⟩ = some (.bool f1_2) := by rw [hx11_0.cell (by simp <;> omega)]; try go_simp
  have kl11_0 : w.heap.size < w11.heap.size := by omega
  clear ho10'
  go_wp2_with fail
  refine (markHandS_any B6 d6 _ _ _ _ ho6''''' (by omega) (by omega)).mono ?_
  rintro e w12 ⟨rfl, hm12, hk12⟩
  have hb12 := hk12.below hb11 hb11.size (fun b hb => by have h1 := hl6 _ hb; omega)
  have hs12 := hk12.size
  have hx12_0 := hk12.below hx11_0 hx11_0.size (fun b hb => by have h1 := hl6 _ hb; simp at *; omega)
  have ho5''''''' := hk12.own ho5'''''' (fun g hg hS => by have h2 := hl5 g hg; have h1 := hl6 _ hS; (first | omega | (simp at h2; omega)))
  have ho8'''' := hk12.own ho8''' (fun g hg hS => by have h2 := hl8 g hg; have h1 := hl6 _ hS; (first | omega | (simp at h2; omega)))
  clear k11_0_0 k11_0_1 k11_0_2 kl11_0
  have k12_0_0 : w12.cell? ⟨w.heap.size, 0, none⟩ = some (.string f1_0) := by rw [hx12_0.cell (by simp <;> omega)]; try go_simp
  have k12_0_1 : w12.cell? ⟨w.heap.size, 1, none⟩ = some (.int .i64 f1_1) := by rw [hx12_0.cell (by simp <;> omega)]; try go_simp
  have k12_0_2 : w12.cell? ⟨w.heap.size, 2, none⟩ = some (.bool f1_2) := by rw [hx12_0.cell (by simp <;> omega)]; try go_simp
  have kl12_0 : w.heap.size < w12.heap.size := by omega
  go_wp2_with fail
  refine (eqHandS_same B8 d8 B5 d5 _ _ (Own.rd ho8'''') (Own.rd ho5''''''')).mono ?_
  rintro e w13 ⟨rfl, hc13⟩
  have hb13 := bthen hb12 (Nat.le_refl _) hc13
  have hs13 := hc13.size
  (try simp at hs13)
  have hx13_0 := bthen hx12_0 (Nat.le_refl _) hc13
  have hy13_0 := hx13_0.size
  (try simp at hy13_0)
  have ho5'''''''' := Own.below ho5''''''' hc13
  have hm12' := Own.below hm12 hc13
  have ho8''''' := Own.below ho8'''' hc13
  clear k12_0_0 k12_0_1 k12_0_2 kl12_0
  have k13_0_0 : w13.cell? ⟨w.heap.size, 0, none⟩ = some (.string f1_0) := by rw [hx13_0.cell (by simp <;> omega)]; try go_simp
  have k13_0_1 : w13.cell? ⟨w.heap.size, 1, none⟩ = some (.int .i64 f1_1) := by rw [hx13_0.cell (by simp <;> omega)]; try go_simp
  have k13_0_2 : w13.cell? ⟨w.heap.size, 2, none⟩ = some (.bool f1_2) := by rw [hx13_0.cell (by simp <;> omega)]; try go_simp
  have kl13_0 : w.heap.size < w13.heap.size := by omega
  go_wp2_with fail
  refine (markHandS_any B8 d8 _ _ _ _ ho8''''' (by omega) (by omega)).mono ?_
  rintro e w14 ⟨rfl, hm14, hk14⟩
  have hb14 := hk14.below hb13 hb13.size (fun b hb => by have h1 := hl8 _ hb; omega)
  have hs14 := hk14.size
  have hx14_0 := hk14.below hx13_0 hx13_0.size (fun b hb => by have h1 := hl8 _ hb; simp at *; omega)
  have ho5''''''''' := hk14.own ho5'''''''' (fun g hg hS => by have h2 := hl5 g hg; have h1 := hl8 _ hS; (first | omega | (simp at h2; omega)))
  have hm12'' := hk14.own hm12' (fun g hg hS => by have h2 := hl6 g hg; have h1 := hl8 _ hS; (first | omega | (simp at h2; omega)))
  clear k13_0_0 k13_0_1 k13_0_2 kl13_0
  have k14_0_0 : w14.cell? ⟨w.heap.size, 0, none⟩ = some (.string f1_0) := by rw [hx14_0.cell (by simp <;> omega)]; try go_simp
  have k14_0_1 : w14.cell? ⟨w.heap.size, 1, none⟩ = some (.int .i64 f1_1) := by rw [hx14_0.cell (by simp <;> omega)]; try go_simp
  have k14_0_2 : w14.cell? ⟨w.heap.size, 2, none⟩ = some (.bool f1_2) := by rw [hx14_0.cell (by simp <;> omega)]; try go_simp
  have kl14_0 : w.heap.size < w14.heap.size := by omega
  go_wp2_with fail
  refine (heldHandS_any B8 d8 _ 1 _ _ (Own.rd hm14) (by omega) (by omega) (Nat.le_refl _)).mono ?_
  rintro e w15 ⟨rfl, hc15⟩
  have hb15 := bthen hb14 (Nat.le_refl _) hc15
  have hs15 := hc15.size
  (try simp at hs15)
  have hx15_0 := bthen hx14_0 (Nat.le_refl _) hc15
  have hy15_0 := hx15_0.size
  (try simp at hy15_0)
  have ho5'''''''''' := Own.below ho5''''''''' hc15
  have hm12''' := Own.below hm12'' hc15
  have hm14' := Own.below hm14 hc15
  clear k14_0_0 k14_0_1 k14_0_2 kl14_0
  have k15_0_0 : w15.cell? ⟨w.heap.size, 0, none⟩ = some (.string f1_0) := by rw [hx15_0.cell (by simp <;> omega)]; try go_simp
  have k15_0_1 : w15.cell? ⟨w.heap.size, 1, none⟩ = some (.int .i64 f1_1) := by rw [hx15_0.cell (by simp <;> omega)]; try go_simp
  have k15_0_2 : w15.cell? ⟨w.heap.size, 2, none⟩ = some (.bool f1_2) := by rw [hx15_0.cell (by simp <;> omega)]; try go_simp
  have kl15_0 : w.heap.size < w15.heap.size := by omega
  go_wp2_with fail
  go_region_held3 (fun W => W.cell? ⟨w.heap.size, 0, none⟩ = some (.string f1_0) ∧ W.cell? ⟨w.heap.size, 1, none⟩ = some (.int .i64 f1_1) ∧ W.cell? ⟨w.heap.size, 2, none⟩ = some (.bool f1_2))
    (first | go_keep | (go_split_ands; refine ⟨?_, ?_, ?_⟩ <;> (refine (hc16.cell ?_).trans ?_; (focus (simp <;> omega)); assumption)) | (go_split_ands; refine ⟨?_, ?_, ?_⟩ <;> (refine (hc17.cell ?_).trans ?_; (focus (simp <;> omega)); assumption)) | (go_split_ands; refine ⟨?_, ?_, ?_⟩ <;> (refine (hc18.cell ?_).trans ?_; (focus (simp <;> omega)); assumption)))
    ((first
      | (go_at_call 16; (with_reducible refine (toHandS_any A0 c0 x0 _ ((hr0.below hb15).more hb15.size).drew (by omega)).mono ?_); rintro e w16 ⟨B16, d16, rfl, ho16, hc16⟩; have hl16 := ho16.blk_lt; (try simp at hl16); have hb16 := bthen hb15.drew (Nat.le_refl _) hc16; have hs16 := hc16.size; (try simp at hs16))
      | (go_at_call 32; (with_reducible refine (toHand_any f1_0 f1_1 f1_2 _).mono ?_); rintro e w17 ⟨rfl, hc17⟩; have hb17 := bthen hb16 (Nat.le_refl _) hc17; have hs17 := hc17.size; (try simp at hs17); have ho16' := Own.below ho16 hc17)
      | (go_at_call 33; (with_reducible refine (implAddHand_any B16 d16 x0 f1_0 f1_1 f1_2 _ (Own.rd ho16') _hi0 _hi1).mono ?_); rintro e w18 ⟨B18, d18, rfl, ho18, hc18⟩; have hl18 := ho18.blk_lt; (try simp at hl18); have hn18 := ahP_len x0 (f1_0, f1_1, f1_2); have hb18 := bthen hb17 (Nat.le_refl _) hc18; have hs18 := hc18.size; (try simp at hs18); have ho16'' := Own.below ho16' hc18)))
  have hx16_0 := bthen hx15_0.drew (Nat.le_refl _) hc16
  have ho5''''''''''' := Own.below (Own.drew ho5'''''''''') hc16
  have hm12'''' := Own.below (Own.drew hm12''') hc16
  have hm14'' := Own.below (Own.drew hm14') hc16
  have hx17_0 := bthen hx16_0 (Nat.le_refl _) hc17
  have ho5'''''''''''' := Own.below ho5''''''''''' hc17
  have hm12''''' := Own.below hm12'''' hc17
  have hm14''' := Own.below hm14'' hc17
  have hx18_0 := bthen hx17_0 (Nat.le_refl _) hc18
  have ho5''''''''''''' := Own.below ho5'''''''''''' hc18
  have hm12'''''' := Own.below hm12''''' hc18
  have hm14'''' := Own.below hm14''' hc18
  have hy18_0 := hx18_0.size
  (try simp at hy18_0)
  clear k15_0_0 k15_0_1 k15_0_2 kl15_0
  have k18_0_0 : w18.cell? ⟨w.heap.size, 0, none⟩ = some (.string f1_0) := by rw [hx18_0.cell (by simp <;> omega)]; try go_simp
  have k18_0_1 : w18.cell? ⟨w.heap.size, 1, none⟩ = some (.int .i64 f1_1) := by rw [hx18_0.cell (by simp <;> omega)]; try go_simp
  have k18_0_2 : w18.cell? ⟨w.heap.size, 2, none⟩ = some (.bool f1_2) := by rw [hx18_0.cell (by simp <;> omega)]; try go_simp
  have kl18_0 : w.heap.size < w18.heap.size := by omega
  clear ho16''
  go_wp2_with fail
  refine (eqHandS_same B18 d18 B5 d5 _ _ (Own.rd ho18) (Own.rd ho5''''''''''''')).mono ?_
  rintro e w19 ⟨rfl, hc19⟩
  have hb19 := bthen hb18 (Nat.le_refl _) hc19
  have hs19 := hc19.size
  (try simp at hs19)
  have hx19_0 := bthen hx18_0 (Nat.le_refl _) hc19
  have hy19_0 := hx19_0.size
  (try simp at hy19_0)
  have ho5'''''''''''''' := Own.below ho5''''''''''''' hc19
  have hm12''''''' := Own.below hm12'''''' hc19
  have hm14''''' := Own.below hm14'''' hc19
  have ho18' := Own.below ho18 hc19
  clear k18_0_0 k18_0_1 k18_0_2 kl18_0
  have k19_0_0 : w19.cell? ⟨w.heap.size, 0, none⟩ = some (.string f1_0) := by rw [hx19_0.cell (by simp <;> omega)]; try go_simp
  have k19_0_1 : w19.cell? ⟨w.heap.size, 1, none⟩ = some (.int .i64 f1_1) := by rw [hx19_0.cell (by simp <;> omega)]; try go_simp
  have k19_0_2 : w19.cell? ⟨w.heap.size, 2, none⟩ = some (.bool f1_2) := by rw [hx19_0.cell (by simp <;> omega)]; try go_simp
  have kl19_0 : w.heap.size < w19.heap.size := by omega
  go_wp2_with fail
  refine (heldHandS_any B8 d8 _ 1 _ _ (Own.rd hm14''''') (by omega) (by omega) (Nat.le_refl _)).mono ?_
  rintro e w20 ⟨rfl, hc20⟩
  have hb20 := bthen hb19 (Nat.le_refl _) hc20
  have hs20 := hc20.size
  (try simp at hs20)
  have hx20_0 := bthen hx19_0 (Nat.le_refl _) hc20
  have hy20_0 := hx20_0.size
  (try simp at hy20_0)
  have ho5''''''''''''''' := Own.below ho5'''''''''''''' hc20
  have hm12'''''''' := Own.below hm12''''''' hc20
  have hm14'''''' := Own.below hm14''''' hc20
  have ho18'' := Own.below ho18' hc20
  clear k19_0_0 k19_0_1 k19_0_2 kl19_0
  have k20_0_0 : w20.cell? ⟨w.heap.size, 0, none⟩ = some (.string f1_0) := by rw [hx20_0.cell (by simp <;> omega)]; try go_simp
  have k20_0_1 : w20.cell? ⟨w.heap.size, 1, none⟩ = some (.int .i64 f1_1) := by rw [hx20_0.cell (by simp <;> omega)]; try go_simp
  have k20_0_2 : w20.cell? ⟨w.heap.size, 2, none⟩ = some (.bool f1_2) := by rw [hx20_0.cell (by simp <;> omega)]; try go_simp
  have kl20_0 : w.heap.size < w20.heap.size := by omega
  go_wp2_with fail
  go_ret
  exact ⟨rfl, hb20⟩
end Go.Proofs.Ytehgaeplmnojmaa
