/-
  FnExactTestedText returns true for every argument: the walk.
-/
import Derived.Test.YtgoboklahocfhaaDoorTestedX
import Derived.Test.YtgoboklahocfhaaDoorOpen
import Derived.Test.YtgoboklahocfhaaDoorOpenTested
import Derived.Deep.RegionHeld3
namespace Go.Proofs.YtgoboklahocfhaaDoor
open Go.ChangeShapes Go.WideShapes Go.RowKit

set_option maxRecDepth 100000 in
set_option maxHeartbeats 3200000 in
theorem lawTestedText_any (A0 : Option Addr) (c0 : Nat) (x0 : List TestedD) (w : World) (hr0 : Rd LTested w w.heap.size A0 c0 x0) (_hi0 : ∀ n ∈ x0, OkTested n) (_hT : TabW w) :
    Calls Tryd.prog 4 #[.slice A0 x0.length c0] w fun e w' => e = .returned (.bool true) ∧ Below w.heap.size w w' := by
  have hlen0 := hr0.len63
  by_cases hz0 : 0 ≤ (szN 1048576 x0.length)
  rotate_left
  · skip
    have hneg : (szN 1048576 x0.length) < 0 := by omega
    go_enter Tryd.func4, Tryd.ntmps4
    go_wp2_with fail
    refine (szTestedS_any A0 c0 x0.length _ _ (by omega) (by omega) hlen0).mono ?_
    rintro e wx ⟨rfl, rfl⟩
    go_wp2_with fail
    go_ret
    exact ⟨rfl, (Below.refl w.heap.size w)⟩
  obtain ⟨hu0a, hu0c⟩ := szN_yes (by omega) hz0
  go_enter Tryd.func4, Tryd.ntmps4
  go_wp2_with fail
  refine (szTestedS_any A0 c0 x0.length _ _ (by omega) (by omega) hlen0).mono ?_
  rintro e wx ⟨rfl, rfl⟩
  go_wp2_with fail
  refine (toTestedS_any A0 c0 x0 _ ((hr0.below (Below.refl w.heap.size w)).more (Below.refl w.heap.size w).size) (by omega)).mono ?_
  rintro e w1 ⟨B1, d1, rfl, ho1, hc1⟩
  have hl1 := ho1.blk_lt
  have hb1 := bthen (Below.refl w.heap.size w) (Nat.le_refl _) hc1
  have hs1 := hc1.size
  (try simp at hs1)
  go_wp2_with fail
  refine (specTestedText_any B1 d1 x0 _ (Own.rd ho1) (tab_below _hT (by assumption) (Nat.le_refl _))).mono ?_
  rintro e w2 ⟨rfl, hc2⟩
  have hb2 := bthen hb1 (Nat.le_refl _) hc2
  have hs2 := hc2.size
  (try simp at hs2)
  have ho1' := Own.below ho1 hc2
  clear ho1'
  go_wp2_with fail
  refine (toTestedS_any A0 c0 x0 _ ((hr0.below hb2).more hb2.size) (by omega)).mono ?_
  rintro e w3 ⟨B3, d3, rfl, ho3, hc3⟩
  have hl3 := ho3.blk_lt
  have hb3 := bthen hb2 (Nat.le_refl _) hc3
  have hs3 := hc3.size
  (try simp at hs3)
  go_wp2_with fail
  refine (implTestedText_any B3 d3 x0 _ (Own.rd ho3) (tab_below _hT (by assumption) (Nat.le_refl _))).mono ?_
  rintro e w4 ⟨rfl, hc4⟩
  have hb4 := bthen hb3 (Nat.le_refl _) hc4
  have hs4 := hc4.size
  (try simp at hs4)
  have ho3' := Own.below ho3 hc4
  go_wp2_with fail
  refine (toTestedS_any A0 c0 x0 _ ((hr0.below hb4).more hb4.size) (by omega)).mono ?_
  rintro e w5 ⟨B5, d5, rfl, ho5, hc5⟩
  have hl5 := ho5.blk_lt
  have hb5 := bthen hb4 (Nat.le_refl _) hc5
  have hs5 := hc5.size
  (try simp at hs5)
  have ho3'' := Own.below ho3' hc5
  go_wp2_with fail
  refine (eqTestedS_same B3 d3 B5 d5 _ _ (Own.rd ho3'') (Own.rd ho5)).mono ?_
  rintro e w6 ⟨rfl, hc6⟩
  have hb6 := bthen hb5 (Nat.le_refl _) hc6
  have hs6 := hc6.size
  (try simp at hs6)
  have ho3''' := Own.below ho3'' hc6
  have ho5' := Own.below ho5 hc6
  clear ho5'
  go_wp2_with fail
  go_ret
  exact ⟨rfl, hb6⟩
end Go.Proofs.YtgoboklahocfhaaDoor
