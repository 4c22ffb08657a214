/-
  FnExactValidRoads returns true for every argument: the walk.
-/
import Derived.Test.YtmdfpjjgglgjcaaRoads
import Derived.Test.YtmdfpjjgglgjcaaOpenSS
namespace Go.Proofs.Ytmdfpjjgglgjcaa
open Go.ChangeShapes Go.WideShapes Go.RowKit

set_option maxRecDepth 100000 in
set_option maxHeartbeats 1600000 in
theorem lawValidRoads_any (A0 : Option Addr) (c0 : Nat) (r0 : List (Row Int)) (w : World) (hr0 : RdR LI w w.heap.size A0 c0 r0) (_hi0 : ∀ r ∈ r0, ∀ n ∈ r.2.2, I64 n) :
    Calls Try.prog 6 #[.slice A0 r0.length c0] w fun e w' => e = .returned (.bool true) ∧ Below w.heap.size w w' := by
  have hlen0 := hr0.len63
  by_cases hn00 : 0 ≤ szRR 1048576 r0
  rotate_left
  · have hneg : szRR 1048576 r0 < 0 := by omega
    go_enter Try.func6, Try.ntmps6
    go_wp2_with fail
    refine (szInt64SS_any A0 c0 r0 _ _ _ hr0 (by omega) (by omega)).mono ?_
    rintro e wx ⟨rfl, rfl⟩
    go_wp2_with fail
    go_ret
    exact ⟨rfl, Below.refl _ _⟩
  have hq0 : r0.length ≤ 1048576 ∧ ∀ r ∈ r0, r.2.2.length ≤ 1048576 := by
    have := szRR_yes (by omega) hn00
    exact ⟨by omega, fun r hr => by have := this.2 r hr; omega⟩
  have hb0 := Below.refl w.heap.size w
  go_enter Try.func6, Try.ntmps6
  go_wp2_with fail
  refine (szInt64SS_any A0 c0 r0 _ _ _ hr0 (by omega) (by omega)).mono ?_
  rintro e wx ⟨rfl, rfl⟩
  go_wp2_with fail
  refine (toInt64SS_any A0 c0 r0 _ ((hr0.below hb0).more hb0.size) hq0.1 hq0.2).mono ?_
  rintro e w1 ⟨B1, d1, s1, rfl, ho1, he1, hc1⟩
  have hl1 := ho1.blk_lt
  have hb1 := bthen hb0 (Nat.le_refl _) hc1
  have hs1 := hc1.size
  go_wp2_with fail
  have hf2 := specValidRoads_any B1 d1 s1 w1 ho1.rd
  rw [he1] at hf2
  refine hf2.mono ?_
  rintro e w2 ⟨rfl, hc2⟩
  clear hf2
  have hb2 := bthen hb1 (Nat.le_refl _) hc2
  have hs2 := hc2.size
  have ho1' := ho1.below hc2
  go_wp2_with fail
  refine (toInt64SS_any A0 c0 r0 _ ((hr0.below hb2).more hb2.size) hq0.1 hq0.2).mono ?_
  rintro e w3 ⟨B3, d3, s3, rfl, ho3, he3, hc3⟩
  have hl3 := ho3.blk_lt
  have hb3 := bthen hb2 (Nat.le_refl _) hc3
  have hs3 := hc3.size
  have ho1'' := ho1'.below hc3
  go_wp2_with fail
  have hf4 := implValidRoads_any B3 d3 s3 w3 ho3.rd
  rw [he3] at hf4
  refine hf4.mono ?_
  rintro e w4 ⟨rfl, hc4⟩
  clear hf4
  have hb4 := bthen hb3 (Nat.le_refl _) hc4
  have hs4 := hc4.size
  have ho1''' := ho1''.below hc4
  have ho3' := ho3.below hc4
  go_wp2_with fail
  refine (toInt64SS_any A0 c0 r0 _ ((hr0.below hb4).more hb4.size) hq0.1 hq0.2).mono ?_
  rintro e w5 ⟨B5, d5, s5, rfl, ho5, he5, hc5⟩
  have hl5 := ho5.blk_lt
  have hb5 := bthen hb4 (Nat.le_refl _) hc5
  have hs5 := hc5.size
  have ho1'''' := ho1'''.below hc5
  have ho3'' := ho3'.below hc5
  go_wp2_with fail
  refine (eqInt64SS_any B3 B5 d3 d5 _ _ _ _ ho3''.rd ho5.rd).mono ?_
  rintro e w6 ⟨rfl, hd6⟩
  have hc6 : Below w5.heap.size w5 w6 := hd6.below
  have hb6 := bthen hb5 (Nat.le_refl _) hc6
  have hs6 := hc6.size
  have ho1''''' := ho1''''.below hc6
  have ho3''' := ho3''.below hc6
  have ho5' := ho5.below hc6
  rw [show eqBB (dat s3) (dat s5) = true by rw [he3, he5]; exact eqBB_self _]
  go_wp2_with fail
  go_ret
  exact ⟨rfl, hb6⟩
end Go.Proofs.Ytmdfpjjgglgjcaa
