/-
  FnExactReadYard returns true for every argument: the walk.
-/
import Derived.Test.YtjgpppcjhneibaaGreatDoorRdG
import Derived.Test.YtjgpppcjhneibaaGreatDoorOpen
import Derived.Test.YtjgpppcjhneibaaGreatDoorOpenSS
import Derived.Deep.RegionHeld3
namespace Go.Proofs.YtjgpppcjhneibaaGreatDoor
open Go.ChangeShapes Go.WideShapes Go.RowKit

set_option maxRecDepth 100000 in
set_option maxHeartbeats 3200000 in
theorem lawReadYard_any (s0 : ByteArray) (w : World) (hl0 : s0.size ≤ 9223372036854775807) (_hT : LibW w) :
    Calls Tryz.prog 3 #[.string s0] w fun e w' => e = .returned (.bool true) ∧ Below w.heap.size w w' := by
  by_cases hz0 : s0.size ≤ 1048576
  rotate_left
  · skip
    go_enter Tryz.func3, Tryz.ntmps3
    go_wp2_with fail
    go_ret
    exact ⟨rfl, (Below.refl w.heap.size w)⟩
  go_enter Tryz.func3, Tryz.ntmps3
  go_wp2_with fail
  refine (specReadYard_any s0 _ (by omega) (lib_below _hT (by first | assumption | exact Below.refl _ _) (Nat.le_refl _))).mono ?_
  rintro e w1 ⟨B1, d1, s1, rfl, ho1, he1, hc1⟩
  have hl1 := ho1.blk_lt
  have hn1 : tl s1 ≤ 1048576 := (by rw [tl_dat, he1]; exact ry_tl s0.data.toList)
  have hb1 := bthen (Below.refl w.heap.size w) (Nat.le_refl _) hc1
  have hs1 := hc1.size
  (try simp at hs1)
  go_wp2_with fail
  refine (implReadYard_any s0 _ (by omega) (lib_below _hT (by first | assumption | exact Below.refl _ _) (Nat.le_refl _))).mono ?_
  rintro e w2 ⟨B2, d2, s2, rfl, ho2, he2, hc2⟩
  have hl2 := ho2.blk_lt
  have hn2 : tl s2 ≤ 1048576 := (by rw [tl_dat, he2]; exact ry_tl s0.data.toList)
  have hb2 := bthen hb1 (Nat.le_refl _) hc2
  have hs2 := hc2.size
  (try simp at hs2)
  have ho1' := OwnR.below ho1 hc2
  go_wp2_with fail
  refine (eqInt64SS_same B2 d2 s2 B1 d1 s1 _ (OwnR.rd ho2) (OwnR.rd ho1') (by rw [he2, he1])).mono ?_
  rintro e w3 ⟨rfl, hc3⟩
  have hb3 := bthen hb2 (Nat.le_refl _) hc3
  have hs3 := hc3.size
  (try simp at hs3)
  have ho1'' := OwnR.below ho1' hc3
  have ho2' := OwnR.below ho2 hc3
  go_wp2_with fail
  refine (markInt64SS_any B2 d2 s2 _ _ _ ho2' (by omega) (by omega)).mono ?_
  rintro e w4 ⟨rfl, hm4, hk4⟩
  have hb4 := hk4.below hb3 hb3.size (fun b hb => by obtain ⟨r, hr, hg2⟩ := hb; have h1 := hl2.2 r hr _ hg2; omega)
  have hs4 := hk4.size
  have ho1''' := hk4.ownR ho1'' (fun g hg hS => by have h2 := hl1.1 g hg; obtain ⟨r, hr, hg2⟩ := hS; have h1 := hl2.2 r hr _ hg2; (first | omega | (simp at h2; omega))) (fun q hq g hg hS => by have h2 := hl1.2 q hq g hg; obtain ⟨r, hr, hg2⟩ := hS; have h1 := hl2.2 r hr _ hg2; (first | omega | (simp at h2; omega)))
  go_wp2_with fail
  refine (heldInt64SS_any B2 d2 s2 1 _ _ (OwnR.rd hm4) (by omega) (by omega)).mono ?_
  rintro e wx ⟨rfl, rfl⟩
  go_wp2_with fail
  refine (implReadYard_any s0 _ (by omega) (lib_below _hT (by first | assumption | exact Below.refl _ _) (Nat.le_refl _))).mono ?_
  rintro e w5 ⟨B5, d5, s5, rfl, ho5, he5, hc5⟩
  have hl5 := ho5.blk_lt
  have hn5 : tl s5 ≤ 1048576 := (by rw [tl_dat, he5]; exact ry_tl s0.data.toList)
  have hb5 := bthen hb4 (Nat.le_refl _) hc5
  have hs5 := hc5.size
  (try simp at hs5)
  have ho1'''' := OwnR.below ho1''' hc5
  have hm4' := OwnR.below hm4 hc5
  go_wp2_with fail
  refine (eqInt64SS_same B5 d5 s5 B1 d1 s1 _ (OwnR.rd ho5) (OwnR.rd ho1'''') (by rw [he5, he1])).mono ?_
  rintro e w6 ⟨rfl, hc6⟩
  have hb6 := bthen hb5 (Nat.le_refl _) hc6
  have hs6 := hc6.size
  (try simp at hs6)
  have ho1''''' := OwnR.below ho1'''' hc6
  have hm4'' := OwnR.below hm4' hc6
  have ho5' := OwnR.below ho5 hc6
  go_wp2_with fail
  refine (heldInt64SS_any B2 d2 s2 1 _ _ (OwnR.rd hm4'') (by omega) (by omega)).mono ?_
  rintro e wx ⟨rfl, rfl⟩
  go_wp2_with fail
  go_ret
  exact ⟨rfl, hb6⟩
end Go.Proofs.YtjgpppcjhneibaaGreatDoor
