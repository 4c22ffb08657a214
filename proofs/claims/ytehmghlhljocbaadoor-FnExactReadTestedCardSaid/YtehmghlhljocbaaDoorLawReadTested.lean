/-
  FnExactReadTested returns true for every argument: the walk.
-/
import Derived.Test.YtehmghlhljocbaaDoorRdE
import Derived.Test.YtehmghlhljocbaaDoorOpen
import Derived.Test.YtehmghlhljocbaaDoorOpenTested
import Derived.Deep.RegionHeld3
namespace Go.Proofs.YtehmghlhljocbaaDoor
open Go.ChangeShapes Go.WideShapes Go.RowKit

set_option maxRecDepth 100000 in
set_option maxHeartbeats 3200000 in
theorem lawReadTested_any (s0 : ByteArray) (w : World) (hl0 : s0.size ≤ 9223372036854775807) (_hT : LibW w) :
    Calls Tryd.prog 3 #[.string s0] w fun e w' => e = .returned (.bool true) ∧ Below w.heap.size w w' := by
  by_cases hz0 : s0.size ≤ 1048576
  rotate_left
  · skip
    go_enter Tryd.func3, Tryd.ntmps3
    go_wp2_with fail
    go_ret
    exact ⟨rfl, (Below.refl w.heap.size w)⟩
  go_enter Tryd.func3, Tryd.ntmps3
  go_wp2_with fail
  refine (specReadTested_any s0 _ (by omega) (lib_below _hT (by first | assumption | exact Below.refl _ _) (Nat.le_refl _))).mono ?_
  rintro e w1 ⟨B1, d1, rfl, ho1, hc1⟩
  have hl1 := ho1.blk_lt
  have hn1 := rt_len s0.data.toList
  have hb1 := bthen (Below.refl w.heap.size w) (Nat.le_refl _) hc1
  have hs1 := hc1.size
  (try simp at hs1)
  go_wp2_with fail
  refine (implReadTested_any s0 _ (by omega) (lib_below _hT (by first | assumption | exact Below.refl _ _) (Nat.le_refl _))).mono ?_
  rintro e w2 ⟨B2, d2, rfl, ho2, hc2⟩
  have hl2 := ho2.blk_lt
  have hn2 := rt_len s0.data.toList
  have hb2 := bthen hb1 (Nat.le_refl _) hc2
  have hs2 := hc2.size
  (try simp at hs2)
  have ho1' := Own.below ho1 hc2
  go_wp2_with fail
  refine (eqTestedS_same B2 d2 B1 d1 _ _ (Own.rd ho2) (Own.rd ho1')).mono ?_
  rintro e w3 ⟨rfl, hc3⟩
  have hb3 := bthen hb2 (Nat.le_refl _) hc3
  have hs3 := hc3.size
  (try simp at hs3)
  have ho1'' := Own.below ho1' hc3
  have ho2' := Own.below ho2 hc3
  go_wp2_with fail
  refine (markTestedS_any B2 d2 _ _ _ _ ho2' (by omega) (by omega)).mono ?_
  rintro e w4 ⟨rfl, hm4, hk4⟩
  have hb4 := hk4.below hb3 hb3.size (fun b hb => by have h1 := hl2 _ hb; omega)
  have hs4 := hk4.size
  have ho1''' := hk4.own ho1'' (fun g hg hS => by have h2 := hl1 g hg; have h1 := hl2 _ hS; (first | omega | (simp at h2; omega)))
  go_wp2_with fail
  refine (heldTestedS_any B2 d2 _ 1 _ _ (Own.rd hm4) (by omega) (by omega)).mono ?_
  rintro e wx ⟨rfl, rfl⟩
  go_wp2_with fail
  refine (implReadTested_any s0 _ (by omega) (lib_below _hT (by first | assumption | exact Below.refl _ _) (Nat.le_refl _))).mono ?_
  rintro e w5 ⟨B5, d5, rfl, ho5, hc5⟩
  have hl5 := ho5.blk_lt
  have hn5 := rt_len s0.data.toList
  have hb5 := bthen hb4 (Nat.le_refl _) hc5
  have hs5 := hc5.size
  (try simp at hs5)
  have ho1'''' := Own.below ho1''' hc5
  have hm4' := Own.below hm4 hc5
  go_wp2_with fail
  refine (eqTestedS_same B5 d5 B1 d1 _ _ (Own.rd ho5) (Own.rd ho1'''')).mono ?_
  rintro e w6 ⟨rfl, hc6⟩
  have hb6 := bthen hb5 (Nat.le_refl _) hc6
  have hs6 := hc6.size
  (try simp at hs6)
  have ho1''''' := Own.below ho1'''' hc6
  have hm4'' := Own.below hm4' hc6
  have ho5' := Own.below ho5 hc6
  go_wp2_with fail
  refine (heldTestedS_any B2 d2 _ 1 _ _ (Own.rd hm4'') (by omega) (by omega)).mono ?_
  rintro e wx ⟨rfl, rfl⟩
  go_wp2_with fail
  go_ret
  exact ⟨rfl, hb6⟩
end Go.Proofs.YtehmghlhljocbaaDoor
