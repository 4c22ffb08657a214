/-
  FnExactYardText returns true for every argument: the walk.
-/
import Derived.Test.YtgoboklahocfhaaDoorYardX
import Derived.Test.YtgoboklahocfhaaDoorOpen
import Derived.Test.YtgoboklahocfhaaDoorOpenSS
import Derived.Deep.RegionHeld3
namespace Go.Proofs.YtgoboklahocfhaaDoor
open Go.ChangeShapes Go.WideShapes Go.RowKit

set_option maxRecDepth 100000 in
set_option maxHeartbeats 3200000 in
theorem lawYardText_any (A0 : Option Addr) (c0 : Nat) (r0 : List (Row Int)) (w : World) (hr0 : RdR LI w w.heap.size A0 c0 r0) (_hi0 : ∀ r ∈ r0, ∀ n ∈ r.2.2, I64 n) (_hT : TabW w) :
    Calls Tryd.prog 6 #[.slice A0 r0.length c0] w fun e w' => e = .returned (.bool true) ∧ Below w.heap.size w w' := by
  have hlen0 := hr0.len63
  by_cases hz0 : 0 ≤ (szRR 1048576 r0)
  rotate_left
  · skip
    have hneg : (szRR 1048576 r0) < 0 := by omega
    go_enter Tryd.func6, Tryd.ntmps6
    go_wp2_with fail
    refine (szInt64SS_any A0 c0 r0 _ _ _ (hr0.below (Below.refl w.heap.size w)) (by omega) (by omega)).mono ?_
    rintro e wx ⟨rfl, rfl⟩
    go_wp2_with fail
    go_ret
    exact ⟨rfl, (Below.refl w.heap.size w)⟩
  have hq0 : r0.length ≤ 1048576 ∧ ∀ r ∈ r0, r.2.2.length ≤ 1048576 := by
    have := szRR_yes (by omega) hz0
    exact ⟨by omega, fun r hr => by have := this.2 r hr; omega⟩
  have hu0c := szRR_le (by omega) hz0
  go_enter Tryd.func6, Tryd.ntmps6
  go_wp2_with fail
  refine (szInt64SS_any A0 c0 r0 _ _ _ (hr0.below (Below.refl w.heap.size w)) (by omega) (by omega)).mono ?_
  rintro e wx ⟨rfl, rfl⟩
  go_wp2_with fail
  refine (toInt64SS_any A0 c0 r0 _ ((hr0.below (Below.refl w.heap.size w)).more (Below.refl w.heap.size w).size) hq0.1 hq0.2).mono ?_
  rintro e w1 ⟨B1, d1, s1, rfl, ho1, he1, hc1⟩
  have hl1 := ho1.blk_lt
  have hb1 := bthen (Below.refl w.heap.size w) (Nat.le_refl _) hc1
  have hs1 := hc1.size
  (try simp at hs1)
  go_wp2_with fail
  have hf2 := specYardText_any B1 d1 s1 _ (OwnR.rd ho1) (tl_of (by assumption) rfl hz0) (by first | exact tab_below _hT (by assumption) (Nat.le_refl _) | exact tab_al (tab_below _hT (by assumption) (Nat.le_refl _)) _ | exact tab_drew (tab_below _hT (by assumption) (Nat.le_refl _)) | exact tab_drew (tab_al (tab_below _hT (by assumption) (Nat.le_refl _)) _))
  rw [he1] at hf2
  refine hf2.mono ?_
  rintro e w2 ⟨rfl, hc2⟩
  clear hf2
  have hb2 := bthen hb1 (Nat.le_refl _) hc2
  have hs2 := hc2.size
  (try simp at hs2)
  have ho1' := OwnR.below ho1 hc2
  clear ho1'
  go_wp2_with fail
  refine (toInt64SS_any A0 c0 r0 _ ((hr0.below hb2).more hb2.size) hq0.1 hq0.2).mono ?_
  rintro e w3 ⟨B3, d3, s3, rfl, ho3, he3, hc3⟩
  have hl3 := ho3.blk_lt
  have hb3 := bthen hb2 (Nat.le_refl _) hc3
  have hs3 := hc3.size
  (try simp at hs3)
  go_wp2_with fail
  have hf4 := implYardText_any B3 d3 s3 _ (OwnR.rd ho3) (tl_of (by assumption) rfl hz0) (by first | exact tab_below _hT (by assumption) (Nat.le_refl _) | exact tab_al (tab_below _hT (by assumption) (Nat.le_refl _)) _ | exact tab_drew (tab_below _hT (by assumption) (Nat.le_refl _)) | exact tab_drew (tab_al (tab_below _hT (by assumption) (Nat.le_refl _)) _))
  rw [he3] at hf4
  refine hf4.mono ?_
  rintro e w4 ⟨rfl, hc4⟩
  clear hf4
  have hb4 := bthen hb3 (Nat.le_refl _) hc4
  have hs4 := hc4.size
  (try simp at hs4)
  have ho3' := OwnR.below ho3 hc4
  go_wp2_with fail
  refine (toInt64SS_any A0 c0 r0 _ ((hr0.below hb4).more hb4.size) hq0.1 hq0.2).mono ?_
  rintro e w5 ⟨B5, d5, s5, rfl, ho5, he5, hc5⟩
  have hl5 := ho5.blk_lt
  have hb5 := bthen hb4 (Nat.le_refl _) hc5
  have hs5 := hc5.size
  (try simp at hs5)
  have ho3'' := OwnR.below ho3' hc5
  go_wp2_with fail
  refine (eqInt64SS_same B3 d3 s3 B5 d5 s5 _ (OwnR.rd ho3'') (OwnR.rd ho5) (by rw [he3, he5])).mono ?_
  rintro e w6 ⟨rfl, hc6⟩
  have hb6 := bthen hb5 (Nat.le_refl _) hc6
  have hs6 := hc6.size
  (try simp at hs6)
  have ho3''' := OwnR.below ho3'' hc6
  have ho5' := OwnR.below ho5 hc6
  clear ho5'
  go_wp2_with fail
  go_ret
  exact ⟨rfl, hb6⟩
end Go.Proofs.YtgoboklahocfhaaDoor
