/-
  FnExactBestDay returns true for every argument: the walk.
-/
import Derived.Test.YtehgaeplmnojmaaGangsF
import Derived.Deep.RegionHeld3
namespace Go.Proofs.Ytehgaeplmnojmaa
open Go.ChangeShapes Go.WideShapes Go.RowKit

set_option maxRecDepth 100000 in
set_option maxHeartbeats 3200000 in
theorem lawBestDay_any (A0 : Option Addr) (c0 : Nat) (x0 : List HandD) (A1 : Option Addr) (c1 : Nat) (x1 : List WorkD) (w : World) (hr0 : Rd LHand w w.heap.size A0 c0 x0) (_hi0 : ∀ n ∈ x0, OkHand n) (hr1 : Rd LWork w w.heap.size A1 c1 x1) (_hi1 : ∀ n ∈ x1, OkWork n) :
    Calls Try.prog 9 #[.slice A0 x0.length c0, .slice A1 x1.length c1] w fun e w' => e = .returned (.bool true) ∧ Below w.heap.size w w' := by
  have hlen0 := hr0.len63
  have hlen1 := hr1.len63
  by_cases hz0 : 0 ≤ (szNm 1048576 (x0.map fun x => x.1))
  rotate_left
  · skip
    have hneg : (szNm 1048576 (x0.map fun x => x.1)) < 0 := by omega
    go_enter Try.func9, Try.ntmps9
    go_wp2_with fail
    refine (szHandS_any A0 c0 x0 _ _ ((hr0.below (Below.refl w.heap.size w)).more (Below.refl w.heap.size w).size) (by omega) (by omega) _hi0).mono ?_
    rintro e w1 ⟨rfl, hc1⟩
    have hb1 := bthen (Below.refl w.heap.size w) (Nat.le_refl _) hc1
    have hs1 := hc1.size
    (try simp at hs1)
    go_wp2_with fail
    go_ret
    exact ⟨rfl, hb1⟩
  obtain ⟨hu0a, hu0c⟩ := szNm_yes (by omega) hz0
  rw [List.length_map] at hu0a
  by_cases hz1 : 0 ≤ (szN (szNm 1048576 (x0.map fun x => x.1)) x1.length)
  rotate_left
  · skip
    have hneg : (szN (szNm 1048576 (x0.map fun x => x.1)) x1.length) < 0 := by omega
    go_enter Try.func9, Try.ntmps9
    go_wp2_with fail
    refine (szHandS_any A0 c0 x0 _ _ ((hr0.below (Below.refl w.heap.size w)).more (Below.refl w.heap.size w).size) (by omega) (by omega) _hi0).mono ?_
    rintro e w1 ⟨rfl, hc1⟩
    have hb1 := bthen (Below.refl w.heap.size w) (Nat.le_refl _) hc1
    have hs1 := hc1.size
    (try simp at hs1)
    go_wp2_with fail
    refine (szWorkS_any A1 c1 x1.length _ _ (by omega) (by omega) hlen1).mono ?_
    rintro e wx ⟨rfl, rfl⟩
    go_wp2_with fail
    go_ret
    exact ⟨rfl, hb1⟩
  obtain ⟨hu1a, hu1c⟩ := szN_yes (by omega) hz1
  go_enter Try.func9, Try.ntmps9
  go_wp2_with fail
  refine (szHandS_any A0 c0 x0 _ _ ((hr0.below (Below.refl w.heap.size w)).more (Below.refl w.heap.size w).size) (by omega) (by omega) _hi0).mono ?_
  rintro e w1 ⟨rfl, hc1⟩
  have hb1 := bthen (Below.refl w.heap.size w) (Nat.le_refl _) hc1
  have hs1 := hc1.size
  (try simp at hs1)
  go_wp2_with fail
  refine (szWorkS_any A1 c1 x1.length _ _ (by omega) (by omega) hlen1).mono ?_
  rintro e wx ⟨rfl, rfl⟩
  go_wp2_with fail
  refine (toHandS_any A0 c0 x0 _ ((hr0.below hb1).more hb1.size) (by omega)).mono ?_
  rintro e w2 ⟨B2, d2, rfl, ho2, hc2⟩
  have hl2 := ho2.blk_lt
  have hb2 := bthen hb1 (Nat.le_refl _) hc2
  have hs2 := hc2.size
  (try simp at hs2)
  go_wp2_with fail
  refine (toWorkS_any A1 c1 x1 _ ((hr1.below hb2).more hb2.size) (by omega)).mono ?_
  rintro e w3 ⟨B3, d3, rfl, ho3, hc3⟩
  have hl3 := ho3.blk_lt
  have hb3 := bthen hb2 (Nat.le_refl _) hc3
  have hs3 := hc3.size
  (try simp at hs3)
  have ho2' := Own.below ho2 hc3
  go_wp2_with fail
  refine (specBestDay_any B2 d2 x0 B3 d3 x1 _ (Own.rd ho2') (Own.rd ho3) _hi0).mono ?_
  rintro e w4 ⟨rfl, hc4⟩
  have hb4 := bthen hb3 (Nat.le_refl _) hc4
  have hs4 := hc4.size
  (try simp at hs4)
  have ho2'' := Own.below ho2' hc4
  have ho3' := Own.below ho3 hc4
  clear ho2''
  clear ho3'
  go_wp2_with fail
  refine (toHandS_any A0 c0 x0 _ ((hr0.below hb4).more hb4.size) (by omega)).mono ?_
  rintro e w5 ⟨B5, d5, rfl, ho5, hc5⟩
  have hl5 := ho5.blk_lt
  have hb5 := bthen hb4 (Nat.le_refl _) hc5
  have hs5 := hc5.size
  (try simp at hs5)
  go_wp2_with fail
  refine (toWorkS_any A1 c1 x1 _ ((hr1.below hb5).more hb5.size) (by omega)).mono ?_
  rintro e w6 ⟨B6, d6, rfl, ho6, hc6⟩
  have hl6 := ho6.blk_lt
  have hb6 := bthen hb5 (Nat.le_refl _) hc6
  have hs6 := hc6.size
  (try simp at hs6)
  have ho5' := Own.below ho5 hc6
  go_wp2_with fail
  refine (implBestDay_any B5 d5 x0 B6 d6 x1 _ (Own.rd ho5') (Own.rd ho6) _hi0).mono ?_
  rintro e w7 ⟨rfl, hc7⟩
  have hb7 := bthen hb6 (Nat.le_refl _) hc7
  have hs7 := hc7.size
  (try simp at hs7)
  have ho5'' := Own.below ho5' hc7
  have ho6' := Own.below ho6 hc7
  go_wp2_with fail
  refine (toHandS_any A0 c0 x0 _ ((hr0.below hb7).more hb7.size) (by omega)).mono ?_
  rintro e w8 ⟨B8, d8, rfl, ho8, hc8⟩
  have hl8 := ho8.blk_lt
  have hb8 := bthen hb7 (Nat.le_refl _) hc8
  have hs8 := hc8.size
  (try simp at hs8)
  have ho5''' := Own.below ho5'' hc8
  have ho6'' := Own.below ho6' hc8
  go_wp2_with fail
  refine (eqHandS_same B5 d5 B8 d8 _ _ (Own.rd ho5''') (Own.rd ho8)).mono ?_
  rintro e w9 ⟨rfl, hc9⟩
  have hb9 := bthen hb8 (Nat.le_refl _) hc9
  have hs9 := hc9.size
  (try simp at hs9)
  have ho5'''' := Own.below ho5''' hc9
  have ho6''' := Own.below ho6'' hc9
  have ho8' := Own.below ho8 hc9
  clear ho8'
  go_wp2_with fail
  refine (toWorkS_any A1 c1 x1 _ ((hr1.below hb9).more hb9.size) (by omega)).mono ?_
  rintro e w10 ⟨B10, d10, rfl, ho10, hc10⟩
  have hl10 := ho10.blk_lt
  have hb10 := bthen hb9 (Nat.le_refl _) hc10
  have hs10 := hc10.size
  (try simp at hs10)
  have ho5''''' := Own.below ho5'''' hc10
  have ho6'''' := Own.below ho6''' hc10
  go_wp2_with fail
  refine (eqWorkS_same B6 d6 B10 d10 _ _ (Own.rd ho6'''') (Own.rd ho10)).mono ?_
  rintro e w11 ⟨rfl, hc11⟩
  have hb11 := bthen hb10 (Nat.le_refl _) hc11
  have hs11 := hc11.size
  (try simp at hs11)
  have ho5'''''' := Own.below ho5''''' hc11
  have ho6''''' := Own.below ho6'''' hc11
  have ho10' := Own.below ho10 hc11
  clear ho10'
  go_wp2_with fail
  go_ret
  exact ⟨rfl, hb11⟩
end Go.Proofs.Ytehgaeplmnojmaa
