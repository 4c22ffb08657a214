/-
  FnExactSameGang returns true for every argument: the walk.
-/
import Derived.Test.YtehgaeplmnojmaaGangs
import Derived.Deep.RegionHeld3
namespace Go.Proofs.Ytehgaeplmnojmaa
open Go.ChangeShapes Go.WideShapes Go.RowKit

set_option maxRecDepth 100000 in
set_option maxHeartbeats 3200000 in
theorem lawSameGang_any (A0 : Option Addr) (c0 : Nat) (x0 : List HandD) (A1 : Option Addr) (c1 : Nat) (x1 : List HandD) (w : World) (hr0 : Rd LHand w w.heap.size A0 c0 x0) (_hi0 : ∀ n ∈ x0, OkHand n) (hr1 : Rd LHand w w.heap.size A1 c1 x1) (_hi1 : ∀ n ∈ x1, OkHand n) :
    Calls Try.prog 3 #[.slice A0 x0.length c0, .slice A1 x1.length c1] w fun e w' => e = .returned (.bool true) ∧ Below w.heap.size w w' := by
  have hlen0 := hr0.len63
  have hlen1 := hr1.len63
  by_cases hz0 : 0 ≤ (szNm 1048576 (x0.map fun x => x.1))
  rotate_left
  · skip
    have hneg : (szNm 1048576 (x0.map fun x => x.1)) < 0 := by omega
    go_enter Try.func3, Try.ntmps3
    go_wp2_with fail
    refine (szHandS_any A0 c0 x0 _ _ ((hr0.below (Below.refl w.heap.size w)).more (Below.refl w.heap.size w).size) (by omega) (by omega) _hi0).mono ?_
    rintro e w1 ⟨rfl, hc1⟩
    have hb1 := bthen (Below.refl w.heap.size w) (Nat.le_refl _) hc1
    have hs1 := hc1.size
    (try simp at hs1)
    go_wp2_with fail
    go_ret
    exact ⟨rfl, hb1⟩
  obtain ⟨hu0a, hu0c⟩ := szNm_yes (by omega) hz0
  rw [List.length_map] at hu0a
  by_cases hz1 : 0 ≤ (szNm (szNm 1048576 (x0.map fun x => x.1)) (x1.map fun x => x.1))
  rotate_left
  · skip
    have hneg : (szNm (szNm 1048576 (x0.map fun x => x.1)) (x1.map fun x => x.1)) < 0 := by omega
    go_enter Try.func3, Try.ntmps3
    go_wp2_with fail
    refine (szHandS_any A0 c0 x0 _ _ ((hr0.below (Below.refl w.heap.size w)).more (Below.refl w.heap.size w).size) (by omega) (by omega) _hi0).mono ?_
    rintro e w1 ⟨rfl, hc1⟩
    have hb1 := bthen (Below.refl w.heap.size w) (Nat.le_refl _) hc1
    have hs1 := hc1.size
    (try simp at hs1)
    go_wp2_with fail
    refine (szHandS_any A1 c1 x1 _ _ ((hr1.below hb1).more hb1.size) (by omega) (by omega) _hi1).mono ?_
    rintro e w2 ⟨rfl, hc2⟩
    have hb2 := bthen hb1 (Nat.le_refl _) hc2
    have hs2 := hc2.size
    (try simp at hs2)
    go_wp2_with fail
    go_ret
    exact ⟨rfl, hb2⟩
  obtain ⟨hu1a, hu1c⟩ := szNm_yes (by omega) hz1
  rw [List.length_map] at hu1a
  go_enter Try.func3, Try.ntmps3
  go_wp2_with fail
  refine (szHandS_any A0 c0 x0 _ _ ((hr0.below (Below.refl w.heap.size w)).more (Below.refl w.heap.size w).size) (by omega) (by omega) _hi0).mono ?_
  rintro e w1 ⟨rfl, hc1⟩
  have hb1 := bthen (Below.refl w.heap.size w) (Nat.le_refl _) hc1
  have hs1 := hc1.size
  (try simp at hs1)
  go_wp2_with fail
  refine (szHandS_any A1 c1 x1 _ _ ((hr1.below hb1).more hb1.size) (by omega) (by omega) _hi1).mono ?_
  rintro e w2 ⟨rfl, hc2⟩
  have hb2 := bthen hb1 (Nat.le_refl _) hc2
  have hs2 := hc2.size
  (try simp at hs2)
  go_wp2_with fail
  refine (toHandS_any A0 c0 x0 _ ((hr0.below hb2).more hb2.size) (by omega)).mono ?_
  rintro e w3 ⟨B3, d3, rfl, ho3, hc3⟩
  have hl3 := ho3.blk_lt
  have hb3 := bthen hb2 (Nat.le_refl _) hc3
  have hs3 := hc3.size
  (try simp at hs3)
  go_wp2_with fail
  refine (toHandS_any A1 c1 x1 _ ((hr1.below hb3).more hb3.size) (by omega)).mono ?_
  rintro e w4 ⟨B4, d4, rfl, ho4, hc4⟩
  have hl4 := ho4.blk_lt
  have hb4 := bthen hb3 (Nat.le_refl _) hc4
  have hs4 := hc4.size
  (try simp at hs4)
  have ho3' := Own.below ho3 hc4
  go_wp2_with fail
  refine (specSameGang_any B3 d3 x0 B4 d4 x1 _ (Own.rd ho3') (Own.rd ho4)).mono ?_
  rintro e w5 ⟨rfl, hc5⟩
  have hb5 := bthen hb4 (Nat.le_refl _) hc5
  have hs5 := hc5.size
  (try simp at hs5)
  have ho3'' := Own.below ho3' hc5
  have ho4' := Own.below ho4 hc5
  clear ho3''
  clear ho4'
  go_wp2_with fail
  refine (toHandS_any A0 c0 x0 _ ((hr0.below hb5).more hb5.size) (by omega)).mono ?_
  rintro e w6 ⟨B6, d6, rfl, ho6, hc6⟩
  have hl6 := ho6.blk_lt
  have hb6 := bthen hb5 (Nat.le_refl _) hc6
  have hs6 := hc6.size
  (try simp at hs6)
  go_wp2_with fail
  refine (toHandS_any A1 c1 x1 _ ((hr1.below hb6).more hb6.size) (by omega)).mono ?_
  rintro e w7 ⟨B7, d7, rfl, ho7, hc7⟩
  have hl7 := ho7.blk_lt
  have hb7 := bthen hb6 (Nat.le_refl _) hc7
  have hs7 := hc7.size
  (try simp at hs7)
  have ho6' := Own.below ho6 hc7
  go_wp2_with fail
  refine (implSameGang_any B6 d6 x0 B7 d7 x1 _ (Own.rd ho6') (Own.rd ho7)).mono ?_
  rintro e w8 ⟨rfl, hc8⟩
  have hb8 := bthen hb7 (Nat.le_refl _) hc8
  have hs8 := hc8.size
  (try simp at hs8)
  have ho6'' := Own.below ho6' hc8
  have ho7' := Own.below ho7 hc8
  go_wp2_with fail
  refine (toHandS_any A0 c0 x0 _ ((hr0.below hb8).more hb8.size) (by omega)).mono ?_
  rintro e w9 ⟨B9, d9, rfl, ho9, hc9⟩
  have hl9 := ho9.blk_lt
  have hb9 := bthen hb8 (Nat.le_refl _) hc9
  have hs9 := hc9.size
  (try simp at hs9)
  have ho6''' := Own.below ho6'' hc9
  have ho7'' := Own.below ho7' hc9
  go_wp2_with fail
  refine (eqHandS_same B6 d6 B9 d9 _ _ (Own.rd ho6''') (Own.rd ho9)).mono ?_
  rintro e w10 ⟨rfl, hc10⟩
  have hb10 := bthen hb9 (Nat.le_refl _) hc10
  have hs10 := hc10.size
  (try simp at hs10)
  have ho6'''' := Own.below ho6''' hc10
  have ho7''' := Own.below ho7'' hc10
  have ho9' := Own.below ho9 hc10
  clear ho9'
  go_wp2_with fail
  refine (toHandS_any A1 c1 x1 _ ((hr1.below hb10).more hb10.size) (by omega)).mono ?_
  rintro e w11 ⟨B11, d11, rfl, ho11, hc11⟩
  have hl11 := ho11.blk_lt
  have hb11 := bthen hb10 (Nat.le_refl _) hc11
  have hs11 := hc11.size
  (try simp at hs11)
  have ho6''''' := Own.below ho6'''' hc11
  have ho7'''' := Own.below ho7''' hc11
  go_wp2_with fail
  refine (eqHandS_same B7 d7 B11 d11 _ _ (Own.rd ho7'''') (Own.rd ho11)).mono ?_
  rintro e w12 ⟨rfl, hc12⟩
  have hb12 := bthen hb11 (Nat.le_refl _) hc12
  have hs12 := hc12.size
  (try simp at hs12)
  have ho6'''''' := Own.below ho6''''' hc12
  have ho7''''' := Own.below ho7'''' hc12
  have ho11' := Own.below ho11 hc12
  clear ho11'
  go_wp2_with fail
  go_ret
  exact ⟨rfl, hb12⟩
end Go.Proofs.Ytehgaeplmnojmaa
