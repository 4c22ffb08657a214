/-
  FnExactLaidEachHour returns true for every argument: the walk.
-/
import Derived.Test.YtehgaeplmnojmaaGangsG
import Derived.Test.YtehgaeplmnojmaaFlatFraction
import Derived.Deep.RegionHeld3
namespace Go.Proofs.Ytehgaeplmnojmaa
open Go.ChangeShapes Go.WideShapes Go.RowKit

set_option maxRecDepth 100000 in
set_option maxHeartbeats 3200000 in
theorem lawLaidEachHour_any (A0 : Option Addr) (c0 : Nat) (x0 : List HandD) (A1 : Option Addr) (c1 : Nat) (x1 : List WorkD) (a2 : Int) (w : World) (hr0 : Rd LHand w w.heap.size A0 c0 x0) (_hi0 : ∀ n ∈ x0, OkHand n) (hr1 : Rd LWork w w.heap.size A1 c1 x1) (_hi1 : ∀ n ∈ x1, OkWork n) (_hi2 : I64 a2) :
    Calls Try.prog 13 #[.slice A0 x0.length c0, .slice A1 x1.length c1, .int .i64 a2] w fun e w' => e = .returned (.bool true) ∧ Below w.heap.size w w' := by
  have hlen0 := hr0.len63
  have hlen1 := hr1.len63
  by_cases hz0 : 0 ≤ (szNm 1048576 (x0.map fun x => x.1))
  rotate_left
  · skip
    have hneg : (szNm 1048576 (x0.map fun x => x.1)) < 0 := by omega
    go_enter Try.func13, Try.ntmps13
    go_wp2_with fail
    refine (szHandS_any A0 c0 x0 _ _ ((hr0.below (Below.refl w.heap.size w)).more (Below.refl w.heap.size w).size) (by omega) (by omega) _hi0).mono ?_
    rintro e w1 ⟨rfl, hc1⟩
    have hb1 := bthen (Below.refl w.heap.size w) (Nat.le_refl _) hc1
    have hs1 := hc1.size
    (try simp at hs1)
    go_wp2_with fail
    go_ret
    exact ⟨rfl, hb1⟩
  obtain ⟨hu0a, hu0c⟩ := szNm_yes (by omega) hz0
  rw [List.length_map] at hu0a
  by_cases hz1 : 0 ≤ (szN (szNm 1048576 (x0.map fun x => x.1)) x1.length)
  rotate_left
  · skip
    have hneg : (szN (szNm 1048576 (x0.map fun x => x.1)) x1.length) < 0 := by omega
    go_enter Try.func13, Try.ntmps13
    go_wp2_with fail
    refine (szHandS_any A0 c0 x0 _ _ ((hr0.below (Below.refl w.heap.size w)).more (Below.refl w.heap.size w).size) (by omega) (by omega) _hi0).mono ?_
    rintro e w1 ⟨rfl, hc1⟩
    have hb1 := bthen (Below.refl w.heap.size w) (Nat.le_refl _) hc1
    have hs1 := hc1.size
    (try simp at hs1)
    go_wp2_with fail
    refine (szWorkS_any A1 c1 x1.length _ _ (by omega) (by omega) hlen1).mono ?_
    rintro e wx ⟨rfl, rfl⟩
    go_wp2_with fail
    go_ret
    exact ⟨rfl, hb1⟩
  obtain ⟨hu1a, hu1c⟩ := szN_yes (by omega) hz1
  go_enter Try.func13, Try.ntmps13
  go_wp2_with fail
  refine (szHandS_any A0 c0 x0 _ _ ((hr0.below (Below.refl w.heap.size w)).more (Below.refl w.heap.size w).size) (by omega) (by omega) _hi0).mono ?_
  rintro e w1 ⟨rfl, hc1⟩
  have hb1 := bthen (Below.refl w.heap.size w) (Nat.le_refl _) hc1
  have hs1 := hc1.size
  (try simp at hs1)
  go_wp2_with fail
  refine (szWorkS_any A1 c1 x1.length _ _ (by omega) (by omega) hlen1).mono ?_
  rintro e wx ⟨rfl, rfl⟩
  go_wp2_with fail
  refine (toHandS_any A0 c0 x0 _ ((hr0.below hb1).more hb1.size) (by omega)).mono ?_
  rintro e w2 ⟨B2, d2, rfl, ho2, hc2⟩
  have hl2 := ho2.blk_lt
  have hb2 := bthen hb1 (Nat.le_refl _) hc2
  have hs2 := hc2.size
  (try simp at hs2)
  go_wp2_with fail
  refine (toWorkS_any A1 c1 x1 _ ((hr1.below hb2).more hb2.size) (by omega)).mono ?_
  rintro e w3 ⟨B3, d3, rfl, ho3, hc3⟩
  have hl3 := ho3.blk_lt
  have hb3 := bthen hb2 (Nat.le_refl _) hc3
  have hs3 := hc3.size
  (try simp at hs3)
  have ho2' := Own.below ho2 hc3
  go_wp2_with fail
  refine (specLaidEachHour_any B2 d2 x0 B3 d3 x1 a2 _ (Own.rd ho2') (Own.rd ho3) _hi0).mono ?_
  rintro e w4 ⟨rfl, hc4⟩
  have hb4 := bthen hb3 (Nat.le_refl _) hc4
  have hs4 := hc4.size
  (try simp at hs4)
  have ho2'' := Own.below ho2' hc4
  have ho3' := Own.below ho3 hc4
  clear ho2''
  clear ho3'
  go_wp2_with fail
  refine (toHandS_any A0 c0 x0 _ ((hr0.below (hb4.alloc hb4.size _)).more (hb4.alloc hb4.size _).size) (by omega)).mono ?_
  rintro e w5 ⟨B5, d5, rfl, ho5, hc5⟩
  have hl5 := ho5.blk_lt
  have hb5 := bthen (hb4.alloc hb4.size _) (Nat.le_refl _) hc5
  have hs5 := hc5.size
  (try simp at hs5)
  have hx5_0 := bthen (Below.refl (w4.alloc (.cells #[.int .i64 (lhP x0 x1 a2).1.1, .int .i64 (lhP x0 x1 a2).1.2] 61)).heap.size (w4.alloc (.cells #[.int .i64 (lhP x0 x1 a2).1.1, .int .i64 (lhP x0 x1 a2).1.2] 61))) (Nat.le_refl _) hc5
  have hy5_0 := hx5_0.size
  (try simp at hy5_0)
  have k5_0_0 : w5.cell? ⟨w4.heap.size, 0, none⟩ = some (.int .i64 (lhP x0 x1 a2).1.1) := by rw [hx5_0.cell (by simp <;> omega)]; try go_simp
  have k5_0_1 : w5.cell? ⟨w4.heap.size, 1, none⟩ = some (.int .i64 (lhP x0 x1 a2).1.2) := by rw [hx5_0.cell (by simp <;> omega)]; try go_simp
  have kl5_0 : w4.heap.size < w5.heap.size := by omega
  go_wp2_with fail
  refine (toWorkS_any A1 c1 x1 _ ((hr1.below hb5).more hb5.size) (by omega)).mono ?_
  rintro e w6 ⟨B6, d6, rfl, ho6, hc6⟩
  have hl6 := ho6.blk_lt
  have hb6 := bthen hb5 (Nat.le_refl _) hc6
  have hs6 := hc6.size
  (try simp at hs6)
  have hx6_0 := bthen hx5_0 (Nat.le_refl _) hc6
  have hy6_0 := hx6_0.size
  (try simp at hy6_0)
  have ho5' := Own.below ho5 hc6
  clear k5_0_0 k5_0_1 kl5_0
  have k6_0_0 : w6.cell? ⟨w4.heap.size, 0, none⟩ = some (.int .i64 (lhP x0 x1 a2).1.1) := by rw [hx6_0.cell (by simp <;> omega)]; try go_simp
  have k6_0_1 : w6.cell? ⟨w4.heap.size, 1, none⟩ = some (.int .i64 (lhP x0 x1 a2).1.2) := by rw [hx6_0.cell (by simp <;> omega)]; try go_simp
  have kl6_0 : w4.heap.size < w6.heap.size := by omega
  go_wp2_with fail
  refine (implLaidEachHour_any B5 d5 x0 B6 d6 x1 a2 _ (Own.rd ho5') (Own.rd ho6) _hi0).mono ?_
  rintro e w7 ⟨rfl, hc7⟩
  have hb7 := bthen hb6 (Nat.le_refl _) hc7
  have hs7 := hc7.size
  (try simp at hs7)
  have hx7_0 := bthen hx6_0 (Nat.le_refl _) hc7
  have hy7_0 := hx7_0.size
  (try simp at hy7_0)
  have ho5'' := Own.below ho5' hc7
  have ho6' := Own.below ho6 hc7
  clear k6_0_0 k6_0_1 kl6_0
  have k7_0_0 : w7.cell? ⟨w4.heap.size, 0, none⟩ = some (.int .i64 (lhP x0 x1 a2).1.1) := by rw [hx7_0.cell (by simp <;> omega)]; try go_simp
  have k7_0_1 : w7.cell? ⟨w4.heap.size, 1, none⟩ = some (.int .i64 (lhP x0 x1 a2).1.2) := by rw [hx7_0.cell (by simp <;> omega)]; try go_simp
  have kl7_0 : w4.heap.size < w7.heap.size := by omega
  go_wp2_with fail
  refine (eqFraction_any _ _ _).mono ?_
  rintro e w8 ⟨rfl, hc8⟩
  have hb8 := bthen (hb7.alloc hb7.size _) (Nat.le_refl _) hc8
  have hs8 := hc8.size
  (try simp at hs8)
  have hx8_0 := bthen (hx7_0.alloc hx7_0.size _) (Nat.le_refl _) hc8
  have hy8_0 := hx8_0.size
  (try simp at hy8_0)
  have hx8_1 := bthen (Below.refl (w7.alloc (.cells #[.int .i64 (lhP x0 x1 a2).1.1, .int .i64 (lhP x0 x1 a2).1.2] 61)).heap.size (w7.alloc (.cells #[.int .i64 (lhP x0 x1 a2).1.1, .int .i64 (lhP x0 x1 a2).1.2] 61))) (Nat.le_refl _) hc8
  have hy8_1 := hx8_1.size
  (try simp at hy8_1)
  have ho5''' := Own.below (Own.alloc ho5'' _) hc8
  have ho6'' := Own.below (Own.alloc ho6' _) hc8
  clear k7_0_0 k7_0_1 kl7_0
  have k8_0_0 : w8.cell? ⟨w4.heap.size, 0, none⟩ = some (.int .i64 (lhP x0 x1 a2).1.1) := by rw [hx8_0.cell (by simp <;> omega)]; try go_simp
  have k8_0_1 : w8.cell? ⟨w4.heap.size, 1, none⟩ = some (.int .i64 (lhP x0 x1 a2).1.2) := by rw [hx8_0.cell (by simp <;> omega)]; try go_simp
  have k8_1_0 : w8.cell? ⟨w7.heap.size, 0, none⟩ = some (.int .i64 (lhP x0 x1 a2).1.1) := by rw [hx8_1.cell (by simp <;> omega)]; try go_simp
  have k8_1_1 : w8.cell? ⟨w7.heap.size, 1, none⟩ = some (.int .i64 (lhP x0 x1 a2).1.2) := by rw [hx8_1.cell (by simp <;> omega)]; try go_simp
  have kl8_0 : w4.heap.size < w8.heap.size := by omega
  have kl8_1 : w7.heap.size < w8.heap.size := by omega
  go_wp2_with fail
  refine (toHandS_any A0 c0 x0 _ ((hr0.below hb8).more hb8.size) (by omega)).mono ?_
  rintro e w9 ⟨B9, d9, rfl, ho9, hc9⟩
  have hl9 := ho9.blk_lt
  have hb9 := bthen hb8 (Nat.le_refl _) hc9
  have hs9 := hc9.size
  (try simp at hs9)
  have hx9_0 := bthen hx8_0 (Nat.le_refl _) hc9
  have hy9_0 := hx9_0.size
  (try simp at hy9_0)
  have hx9_1 := bthen hx8_1 (Nat.le_refl _) hc9
  have hy9_1 := hx9_1.size
  (try simp at hy9_1)
  have ho5'''' := Own.below ho5''' hc9
  have ho6''' := Own.below ho6'' hc9
  clear k8_0_0 k8_0_1 k8_1_0 k8_1_1 kl8_0 kl8_1
  have k9_0_0 : w9.cell? ⟨w4.heap.size, 0, none⟩ = some (.int .i64 (lhP x0 x1 a2).1.1) := by rw [hx9_0.cell (by simp <;> omega)]; try go_simp
  have k9_0_1 : w9.cell? ⟨w4.heap.size, 1, none⟩ = some (.int .i64 (lhP x0 x1 a2).1.2) := by rw [hx9_0.cell (by simp <;> omega)]; try go_simp
  have k9_1_0 : w9.cell? ⟨w7.heap.size, 0, none⟩ = some (.int .i64 (lhP x0 x1 a2).1.1) := by rw [hx9_1.cell (by simp <;> omega)]; try go_simp
  have k9_1_1 : w9.cell? ⟨w7.heap.size, 1, none⟩ = some (.int .i64 (lhP x0 x1 a2).1.2) := by rw [hx9_1.cell (by simp <;> omega)]; try go_simp
  have kl9_0 : w4.heap.size < w9.heap.size := by omega
  have kl9_1 : w7.heap.size < w9.heap.size := by omega
  go_wp2_with fail
  refine (eqHandS_same B5 d5 B9 d9 _ _ (Own.rd ho5'''') (Own.rd ho9)).mono ?_
  rintro e w10 ⟨rfl, hc10⟩
  have hb10 := bthen hb9 (Nat.le_refl _) hc10
  have hs10 := hc10.size
  (try simp at hs10)
  have hx10_0 := bthen hx9_0 (Nat.le_refl _) hc10
  have hy10_0 := hx10_0.size
  (try simp at hy10_0)
  have hx10_1 := bthen hx9_1 (Nat.le_refl _) hc10
  have hy10_1 := hx10_1.size
  (try simp at hy10_1)
  have ho5''''' := Own.below ho5'''' hc10
  have ho6'''' := Own.below ho6''' hc10
  have ho9' := Own.below ho9 hc10
  clear k9_0_0 k9_0_1 k9_1_0 k9_1_1 kl9_0 kl9_1
  have k10_0_0 : w10.cell? ⟨w4.heap.size, 0, none⟩ = some (.int .i64 (lhP x0 x1 a2).1.1) := by rw [hx10_0.cell (by simp <;> omega)]; try go_simp
  have k10_0_1 : w10.cell? ⟨w4.heap.size, 1, none⟩ = some (.int .i64 (lhP x0 x1 a2).1.2) := by rw [hx10_0.cell (by simp <;> omega)]; try go_simp
  have k10_1_0 : w10.cell? ⟨w7.heap.size, 0, none⟩ = some (.int .i64 (lhP x0 x1 a2).1.1) := by rw [hx10_1.cell (by simp <;> omega)]; try go_simp
  have k10_1_1 : w10.cell? ⟨w7.heap.size, 1, none⟩ = some (.int .i64 (lhP x0 x1 a2).1.2) := by rw [hx10_1.cell (by simp <;> omega)]; try go_simp
  have kl10_0 : w4.heap.size < w10.heap.size := by omega
  have kl10_1 : w7.heap.size < w10.heap.size := by omega
  clear ho9'
  go_wp2_with fail
  refine (toWorkS_any A1 c1 x1 _ ((hr1.below hb10).more hb10.size) (by omega)).mono ?_
  rintro e w11 ⟨B11, d11, rfl, ho11, hc11⟩
  have hl11 := ho11.blk_lt
  have hb11 := bthen hb10 (Nat.le_refl _) hc11
  have hs11 := hc11.size
  (try simp at hs11)
  have hx11_0 := bthen hx10_0 (Nat.le_refl _) hc11
  have hy11_0 := hx11_0.size
  (try simp at hy11_0)
  have hx11_1 := bthen hx10_1 (Nat.le_refl _) hc11
  have hy11_1 := hx11_1.size
  (try simp at hy11_1)
  have ho5'''''' := Own.below ho5''''' hc11
  have ho6''''' := Own.below ho6'''' hc11
  clear k10_0_0 k10_0_1 k10_1_0 k10_1_1 kl10_0 kl10_1
  have k11_0_0 : w11.cell? ⟨w4.heap.size, 0, none⟩ = some (.int .i64 (lhP x0 x1 a2).1.1) := by rw [hx11_0.cell (by simp <;> omega)]; try go_simp
  have k11_0_1 : w11.cell? ⟨w4.heap.size, 1, none⟩ = some (.int .i64 (lhP x0 x1 a2).1.2) := by rw [hx11_0.cell (by simp <;> omega)]; try go_simp
  have k11_1_0 : w11.cell? ⟨w7.heap.size, 0, none⟩ = some (.int .i64 (lhP x0 x1 a2).1.1) := by rw [hx11_1.cell (by simp <;> omega)]; try go_simp
  have k11_1_1 : w11.cell? ⟨w7.heap.size, 1, none⟩ = some (.int .i64 (lhP x0 x1 a2).1.2) := by rw [hx11_1.cell (by simp <;> omega)]; try go_simp
  have kl11_0 : w4.heap.size < w11.heap.size := by omega
  have kl11_1 : w7.heap.size < w11.heap.size := by omega
  go_wp2_with fail
  refine (eqWorkS_same B6 d6 B11 d11 _ _ (Own.rd ho6''''') (Own.rd ho11)).mono ?_
  rintro e w12 ⟨rfl, hc12⟩
  have hb12 := bthen hb11 (Nat.le_refl _) hc12
  have hs12 := hc12.size
  (try simp at hs12)
  have hx12_0 := bthen hx11_0 (Nat.le_refl _) hc12
  have hy12_0 := hx12_0.size
  (try simp at hy12_0)
  have hx12_1 := bthen hx11_1 (Nat.le_refl _) hc12
  have hy12_1 := hx12_1.size
  (try simp at hy12_1)
  have ho5''''''' := Own.below ho5'''''' hc12
  have ho6'''''' := Own.below ho6''''' hc12
  have ho11' := Own.below ho11 hc12
  clear k11_0_0 k11_0_1 k11_1_0 k11_1_1 kl11_0 kl11_1
  have k12_0_0 : w12.cell? ⟨w4.heap.size, 0, none⟩ = some (.int .i64 (lhP x0 x1 a2).1.1) := by rw [hx12_0.cell (by simp <;> omega)]; try go_simp
  have k12_0_1 : w12.cell? ⟨w4.heap.size, 1, none⟩ = some (.int .i64 (lhP x0 x1 a2).1.2) := by rw [hx12_0.cell (by simp <;> omega)]; try go_simp
  have k12_1_0 : w12.cell? ⟨w7.heap.size, 0, none⟩ = some (.int .i64 (lhP x0 x1 a2).1.1) := by rw [hx12_1.cell (by simp <;> omega)]; try go_simp
  have k12_1_1 : w12.cell? ⟨w7.heap.size, 1, none⟩ = some (.int .i64 (lhP x0 x1 a2).1.2) := by rw [hx12_1.cell (by simp <;> omega)]; try go_simp
  have kl12_0 : w4.heap.size < w12.heap.size := by omega
  have kl12_1 : w7.heap.size < w12.heap.size := by omega
  clear ho11'
  go_wp2_with fail
  go_ret
  exact ⟨rfl, hb12⟩
end Go.Proofs.Ytehgaeplmnojmaa
