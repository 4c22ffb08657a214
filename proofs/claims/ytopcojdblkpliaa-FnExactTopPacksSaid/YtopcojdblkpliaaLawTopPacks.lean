/-
  FnExactTopPacks returns true for every argument: the walk.
-/
import Derived.Test.YtopcojdblkpliaaYardD
import Derived.Test.YtopcojdblkpliaaOpen
import Derived.Test.YtopcojdblkpliaaOpenSS
import Derived.Deep.RegionHeld3
namespace Go.Proofs.Ytopcojdblkpliaa
open Go.ChangeShapes Go.WideShapes Go.RowKit

set_option maxRecDepth 100000 in
set_option maxHeartbeats 3200000 in
theorem lawTopPacks_any (A0 : Option Addr) (c0 : Nat) (r0 : List (Row Int)) (w : World) (hr0 : RdR LI w w.heap.size A0 c0 r0) (_hi0 : ∀ r ∈ r0, ∀ n ∈ r.2.2, I64 n) :
    Calls Try.prog 6 #[.slice A0 r0.length c0] w fun e w' => e = .returned (.bool true) ∧ Below w.heap.size w w' := by
  have hlen0 := hr0.len63
  by_cases hz0 : 0 ≤ (szRR 1048576 r0)
  rotate_left
  · skip
    have hneg : (szRR 1048576 r0) < 0 := by omega
    go_enter Try.func6, Try.ntmps6
    go_wp2_with fail
    refine (szInt64SS_any A0 c0 r0 _ _ _ ((hr0.below (Below.refl w.heap.size w)).more (Below.refl w.heap.size w).size) (by omega) (by omega)).mono ?_
    rintro e wx ⟨rfl, rfl⟩
    go_wp2_with fail
    go_ret
    exact ⟨rfl, (Below.refl w.heap.size w)⟩
  have hq0 : r0.length ≤ 1048576 ∧ ∀ r ∈ r0, r.2.2.length ≤ 1048576 := by
    have := szRR_yes (by omega) hz0
    exact ⟨by omega, fun r hr => by have := this.2 r hr; omega⟩
  have hu0c := szRR_le (by omega) hz0
  go_enter Try.func6, Try.ntmps6
  go_wp2_with fail
  refine (szInt64SS_any A0 c0 r0 _ _ _ ((hr0.below (Below.refl w.heap.size w)).more (Below.refl w.heap.size w).size) (by omega) (by omega)).mono ?_
  rintro e wx ⟨rfl, rfl⟩
  go_wp2_with fail
  refine (toInt64SS_any A0 c0 r0 _ ((hr0.below (Below.refl w.heap.size w)).more (Below.refl w.heap.size w).size) hq0.1 hq0.2).mono ?_
  rintro e w1 ⟨B1, d1, s1, rfl, ho1, he1, hc1⟩
  have hl1 := ho1.blk_lt
  have hb1 := bthen (Below.refl w.heap.size w) (Nat.le_refl _) hc1
  have hs1 := hc1.size
  (try simp at hs1)
  go_wp2_with fail
  have hf2 := specTopPacks_any B1 d1 s1 _ (OwnR.rd ho1) (tl_of (by assumption) rfl hz0)
  rw [he1] at hf2
  refine hf2.mono ?_
  rintro e w2 ⟨B2, d2, rfl, ho2, hc2⟩
  clear hf2
  have hl2 := ho2.blk_lt
  have hn2 := tpP_len (dat r0)
  have hb2 := bthen hb1 (Nat.le_refl _) hc2
  have hs2 := hc2.size
  (try simp at hs2)
  have ho1' := OwnR.below ho1 hc2
  clear ho1'
  go_wp2_with fail
  refine (toInt64SS_any A0 c0 r0 _ ((hr0.below hb2).more hb2.size) hq0.1 hq0.2).mono ?_
  rintro e w3 ⟨B3, d3, s3, rfl, ho3, he3, hc3⟩
  have hl3 := ho3.blk_lt
  have hb3 := bthen hb2 (Nat.le_refl _) hc3
  have hs3 := hc3.size
  (try simp at hs3)
  have ho2' := Own.below ho2 hc3
  go_wp2_with fail
  have hf4 := implTopPacks_any B3 d3 s3 _ (OwnR.rd ho3) (tl_of (by assumption) rfl hz0)
  rw [he3] at hf4
  refine hf4.mono ?_
  rintro e w4 ⟨B4, d4, rfl, ho4, hc4⟩
  clear hf4
  have hl4 := ho4.blk_lt
  have hn4 := tpP_len (dat r0)
  have hb4 := bthen hb3 (Nat.le_refl _) hc4
  have hs4 := hc4.size
  (try simp at hs4)
  have ho2'' := Own.below ho2' hc4
  have ho3' := OwnR.below ho3 hc4
  go_wp2_with fail
  refine (eqInt64S_same B4 d4 B2 d2 _ _ (Own.rd ho4) (Own.rd ho2'')).mono ?_
  rintro e w5 ⟨rfl, hc5⟩
  have hb5 := bthen hb4 (Nat.le_refl _) hc5
  have hs5 := hc5.size
  (try simp at hs5)
  have ho2''' := Own.below ho2'' hc5
  have ho3'' := OwnR.below ho3' hc5
  have ho4' := Own.below ho4 hc5
  go_wp2_with fail
  refine (toInt64SS_any A0 c0 r0 _ ((hr0.below hb5).more hb5.size) hq0.1 hq0.2).mono ?_
  rintro e w6 ⟨B6, d6, s6, rfl, ho6, he6, hc6⟩
  have hl6 := ho6.blk_lt
  have hb6 := bthen hb5 (Nat.le_refl _) hc6
  have hs6 := hc6.size
  (try simp at hs6)
  have ho2'''' := Own.below ho2''' hc6
  have ho3''' := OwnR.below ho3'' hc6
  have ho4'' := Own.below ho4' hc6
  go_wp2_with fail
  refine (eqInt64SS_same B3 d3 s3 B6 d6 s6 _ (OwnR.rd ho3''') (OwnR.rd ho6) (by rw [he3, he6])).mono ?_
  rintro e w7 ⟨rfl, hc7⟩
  have hb7 := bthen hb6 (Nat.le_refl _) hc7
  have hs7 := hc7.size
  (try simp at hs7)
  have ho2''''' := Own.below ho2'''' hc7
  have ho3'''' := OwnR.below ho3''' hc7
  have ho4''' := Own.below ho4'' hc7
  have ho6' := OwnR.below ho6 hc7
  clear ho6'
  go_wp2_with fail
  have hn3 : tl s3 ≤ 1048576 * 1048576 := by rw [tl_dat, he3, ← tl_dat]; exact tl_bd hq0.2 hq0.1
  refine (markInt64SS_any B3 d3 s3 _ _ _ ho3'''' (by omega) (by omega)).mono ?_
  rintro e w8 ⟨rfl, hm8, hk8⟩
  have hb8 := hk8.below hb7 hb7.size (fun b hb => by obtain ⟨r, hr, hg2⟩ := hb; have h1 := hl3.2 r hr _ hg2; omega)
  have hs8 := hk8.size
  have ho2'''''' := hk8.own ho2''''' (fun g hg hS => by have h2 := hl2 g hg; obtain ⟨r, hr, hg2⟩ := hS; have h1 := hl3.2 r hr _ hg2; (first | omega | (simp at h2; omega)))
  have ho4'''' := hk8.own ho4''' (fun g hg hS => by have h2 := hl4 g hg; obtain ⟨r, hr, hg2⟩ := hS; have h1 := hl3.2 r hr _ hg2; (first | omega | (simp at h2; omega)))
  go_wp2_with fail
  refine (eqInt64S_same B4 d4 B2 d2 _ _ (Own.rd ho4'''') (Own.rd ho2'''''')).mono ?_
  rintro e w9 ⟨rfl, hc9⟩
  have hb9 := bthen hb8 (Nat.le_refl _) hc9
  have hs9 := hc9.size
  (try simp at hs9)
  have ho2''''''' := Own.below ho2'''''' hc9
  have hm8' := OwnR.below hm8 hc9
  have ho4''''' := Own.below ho4'''' hc9
  go_wp2_with fail
  refine (markInt64S_any B4 d4 _ _ _ _ ho4''''' (by omega) (by omega)).mono ?_
  rintro e w10 ⟨rfl, hm10, hk10⟩
  have hb10 := hk10.below hb9 hb9.size (fun b hb => by have h1 := hl4 _ hb; omega)
  have hs10 := hk10.size
  have ho2'''''''' := hk10.own ho2''''''' (fun g hg hS => by have h2 := hl2 g hg; have h1 := hl4 _ hS; (first | omega | (simp at h2; omega)))
  have hm8'' := hk10.ownR hm8' (fun g hg hS => by have h2 := hl3.1 g hg; have h1 := hl4 _ hS; (first | omega | (simp at h2; omega))) (fun q hq g hg hS => by have h2 := (upR_lt hl3.2) q hq g hg; have h1 := hl4 _ hS; (first | omega | (simp at h2; omega)))
  go_wp2_with fail
  refine (heldInt64S_any B4 d4 _ 1 _ _ (Own.rd hm10) (by omega) (by omega)).mono ?_
  rintro e wx ⟨rfl, rfl⟩
  go_wp2_with fail
  refine (toInt64SS_any A0 c0 r0 _ ((hr0.below hb10).more hb10.size) hq0.1 hq0.2).mono ?_
  rintro e w11 ⟨B11, d11, s11, rfl, ho11, he11, hc11⟩
  have hl11 := ho11.blk_lt
  have hb11 := bthen hb10 (Nat.le_refl _) hc11
  have hs11 := hc11.size
  (try simp at hs11)
  have ho2''''''''' := Own.below ho2'''''''' hc11
  have hm8''' := OwnR.below hm8'' hc11
  have hm10' := Own.below hm10 hc11
  go_wp2_with fail
  have hf12 := implTopPacks_any B11 d11 s11 _ (OwnR.rd ho11) (tl_of (by assumption) rfl hz0)
  rw [he11] at hf12
  refine hf12.mono ?_
  rintro e w12 ⟨B12, d12, rfl, ho12, hc12⟩
  clear hf12
  have hl12 := ho12.blk_lt
  have hn12 := tpP_len (dat r0)
  have hb12 := bthen hb11 (Nat.le_refl _) hc12
  have hs12 := hc12.size
  (try simp at hs12)
  have ho2'''''''''' := Own.below ho2''''''''' hc12
  have hm8'''' := OwnR.below hm8''' hc12
  have hm10'' := Own.below hm10' hc12
  have ho11' := OwnR.below ho11 hc12
  clear ho11'
  go_wp2_with fail
  refine (eqInt64S_same B12 d12 B2 d2 _ _ (Own.rd ho12) (Own.rd ho2'''''''''')).mono ?_
  rintro e w13 ⟨rfl, hc13⟩
  have hb13 := bthen hb12 (Nat.le_refl _) hc13
  have hs13 := hc13.size
  (try simp at hs13)
  have ho2''''''''''' := Own.below ho2'''''''''' hc13
  have hm8''''' := OwnR.below hm8'''' hc13
  have hm10''' := Own.below hm10'' hc13
  have ho12' := Own.below ho12 hc13
  go_wp2_with fail
  refine (heldInt64S_any B4 d4 _ 1 _ _ (Own.rd hm10''') (by omega) (by omega)).mono ?_
  rintro e wx ⟨rfl, rfl⟩
  go_wp2_with fail
  go_ret
  exact ⟨rfl, hb13⟩
end Go.Proofs.Ytopcojdblkpliaa
