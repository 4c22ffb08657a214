/-
  FnExactFewestTrips returns true for every argument: the walk.
-/
import Derived.Test.YtmdfpjjgglgjcaaTripsZ
import Derived.Test.YtmdfpjjgglgjcaaOpen
import Derived.Deep.RegionHeld3
namespace Go.Proofs.Ytmdfpjjgglgjcaa
open Go.ChangeShapes Go.WideShapes Go.RowKit

set_option maxRecDepth 100000 in
set_option maxHeartbeats 3200000 in
theorem lawFewestTrips_any (A0 : Option Addr) (c0 : Nat) (x0 : List Int) (a1 : Int) (w : World) (hr0 : Rd LI w w.heap.size A0 c0 x0) (_hi0 : ∀ n ∈ x0, I64 n) (_hi1 : I64 a1) :
    Calls Try.prog 7 #[.slice A0 x0.length c0, .int .i64 a1] w fun e w' => e = .returned (.bool true) ∧ Below w.heap.size w w' := by
  have hlen0 := hr0.len63
  by_cases hz0 : x0.length ≤ 1048576
  rotate_left
  · skip
    go_enter Try.func7, Try.ntmps7
    go_wp2_with fail
    go_ret
    exact ⟨rfl, (Below.refl w.heap.size w)⟩
  go_enter Try.func7, Try.ntmps7
  go_wp2_with fail
  refine (toInt64S_any A0 c0 x0 _ ((hr0.below (Below.refl w.heap.size w)).more (Below.refl w.heap.size w).size) (by omega)).mono ?_
  rintro e w1 ⟨B1, d1, rfl, ho1, hc1⟩
  have hl1 := ho1.blk_lt
  have hb1 := bthen (Below.refl w.heap.size w) (Nat.le_refl _) hc1
  have hs1 := hc1.size
  (try simp at hs1)
  go_wp2_with fail
  refine (specFewestTrips_any B1 d1 x0 a1 _ (Own.rd ho1)).mono ?_
  rintro e w2 ⟨rfl, hc2⟩
  have hb2 := bthen hb1 (Nat.le_refl _) hc2
  have hs2 := hc2.size
  (try simp at hs2)
  have ho1' := Own.below ho1 hc2
  clear ho1'
  go_wp2_with fail
  refine (toInt64S_any A0 c0 x0 _ ((hr0.below hb2).more hb2.size) (by omega)).mono ?_
  rintro e w3 ⟨B3, d3, rfl, ho3, hc3⟩
  have hl3 := ho3.blk_lt
  have hb3 := bthen hb2 (Nat.le_refl _) hc3
  have hs3 := hc3.size
  (try simp at hs3)
  go_wp2_with fail
  refine (implFewestTrips_any B3 d3 x0 a1 _ (Own.rd ho3)).mono ?_
  rintro e w4 ⟨rfl, hc4⟩
  have hb4 := bthen hb3 (Nat.le_refl _) hc4
  have hs4 := hc4.size
  (try simp at hs4)
  have ho3' := Own.below ho3 hc4
  go_wp2_with fail
  refine (toInt64S_any A0 c0 x0 _ ((hr0.below hb4).more hb4.size) (by omega)).mono ?_
  rintro e w5 ⟨B5, d5, rfl, ho5, hc5⟩
  have hl5 := ho5.blk_lt
  have hb5 := bthen hb4 (Nat.le_refl _) hc5
  have hs5 := hc5.size
  (try simp at hs5)
  have ho3'' := Own.below ho3' hc5
  go_wp2_with fail
  refine (eqInt64S_same B3 d3 B5 d5 _ _ (Own.rd ho3'') (Own.rd ho5)).mono ?_
  rintro e w6 ⟨rfl, hc6⟩
  have hb6 := bthen hb5 (Nat.le_refl _) hc6
  have hs6 := hc6.size
  (try simp at hs6)
  have ho3''' := Own.below ho3'' hc6
  have ho5' := Own.below ho5 hc6
  clear ho5'
  go_wp2_with fail
  go_ret
  exact ⟨rfl, hb6⟩
end Go.Proofs.Ytmdfpjjgglgjcaa
