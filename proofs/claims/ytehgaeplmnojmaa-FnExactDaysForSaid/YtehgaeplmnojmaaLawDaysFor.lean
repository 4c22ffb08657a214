/-
  FnExactDaysFor returns true for every argument: the walk.
-/
import Derived.Test.YtehgaeplmnojmaaGangsC
import Derived.Deep.RegionHeld3
namespace Go.Proofs.Ytehgaeplmnojmaa
open Go.ChangeShapes Go.WideShapes Go.RowKit

set_option maxRecDepth 100000 in
set_option maxHeartbeats 3200000 in
theorem lawDaysFor_any (A0 : Option Addr) (c0 : Nat) (x0 : List HandD) (a1 : Int) (a2 : Int) (w : World) (hr0 : Rd LHand w w.heap.size A0 c0 x0) (_hi0 : ∀ n ∈ x0, OkHand n) (_hi1 : I64 a1) (_hi2 : I64 a2) :
    Calls Try.prog 6 #[.slice A0 x0.length c0, .int .i64 a1, .int .i64 a2] w fun e w' => e = .returned (.bool true) ∧ Below w.heap.size w w' := by
  have hlen0 := hr0.len63
  by_cases hz0 : 0 ≤ (szNm 1048576 (x0.map fun x => x.1))
  rotate_left
  · skip
    have hneg : (szNm 1048576 (x0.map fun x => x.1)) < 0 := by omega
    go_enter Try.func6, Try.ntmps6
    go_wp2_with fail
    refine (szHandS_any A0 c0 x0 _ _ ((hr0.below (Below.refl w.heap.size w)).more (Below.refl w.heap.size w).size) (by omega) (by omega) _hi0).mono ?_
    rintro e w1 ⟨rfl, hc1⟩
    have hb1 := bthen (Below.refl w.heap.size w) (Nat.le_refl _) hc1
    have hs1 := hc1.size
    (try simp at hs1)
    go_wp2_with fail
    go_ret
    exact ⟨rfl, hb1⟩
  obtain ⟨hu0a, hu0c⟩ := szNm_yes (by omega) hz0
  rw [List.length_map] at hu0a
  go_enter Try.func6, Try.ntmps6
  go_wp2_with fail
  refine (szHandS_any A0 c0 x0 _ _ ((hr0.below (Below.refl w.heap.size w)).more (Below.refl w.heap.size w).size) (by omega) (by omega) _hi0).mono ?_
  rintro e w1 ⟨rfl, hc1⟩
  have hb1 := bthen (Below.refl w.heap.size w) (Nat.le_refl _) hc1
  have hs1 := hc1.size
  (try simp at hs1)
  go_wp2_with fail
  refine (toHandS_any A0 c0 x0 _ ((hr0.below hb1).more hb1.size) (by omega)).mono ?_
  rintro e w2 ⟨B2, d2, rfl, ho2, hc2⟩
  have hl2 := ho2.blk_lt
  have hb2 := bthen hb1 (Nat.le_refl _) hc2
  have hs2 := hc2.size
  (try simp at hs2)
  go_wp2_with fail
  refine (specDaysFor_any B2 d2 x0 a1 a2 _ (Own.rd ho2) _hi0).mono ?_
  rintro e w3 ⟨rfl, hc3⟩
  have hb3 := bthen hb2 (Nat.le_refl _) hc3
  have hs3 := hc3.size
  (try simp at hs3)
  have ho2' := Own.below ho2 hc3
  clear ho2'
  go_wp2_with fail
  refine (toHandS_any A0 c0 x0 _ ((hr0.below hb3).more hb3.size) (by omega)).mono ?_
  rintro e w4 ⟨B4, d4, rfl, ho4, hc4⟩
  have hl4 := ho4.blk_lt
  have hb4 := bthen hb3 (Nat.le_refl _) hc4
  have hs4 := hc4.size
  (try simp at hs4)
  go_wp2_with fail
  refine (implDaysFor_any B4 d4 x0 a1 a2 _ (Own.rd ho4) _hi0).mono ?_
  rintro e w5 ⟨rfl, hc5⟩
  have hb5 := bthen hb4 (Nat.le_refl _) hc5
  have hs5 := hc5.size
  (try simp at hs5)
  have ho4' := Own.below ho4 hc5
  go_wp2_with fail
  refine (toHandS_any A0 c0 x0 _ ((hr0.below hb5).more hb5.size) (by omega)).mono ?_
  rintro e w6 ⟨B6, d6, rfl, ho6, hc6⟩
  have hl6 := ho6.blk_lt
  have hb6 := bthen hb5 (Nat.le_refl _) hc6
  have hs6 := hc6.size
  (try simp at hs6)
  have ho4'' := Own.below ho4' hc6
  go_wp2_with fail
  refine (eqHandS_same B4 d4 B6 d6 _ _ (Own.rd ho4'') (Own.rd ho6)).mono ?_
  rintro e w7 ⟨rfl, hc7⟩
  have hb7 := bthen hb6 (Nat.le_refl _) hc7
  have hs7 := hc7.size
  (try simp at hs7)
  have ho4''' := Own.below ho4'' hc7
  have ho6' := Own.below ho6 hc7
  clear ho6'
  go_wp2_with fail
  go_ret
  exact ⟨rfl, hb7⟩
end Go.Proofs.Ytehgaeplmnojmaa
