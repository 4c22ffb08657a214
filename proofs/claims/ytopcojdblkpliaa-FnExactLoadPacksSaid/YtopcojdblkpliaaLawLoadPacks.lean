/-
  FnExactLoadPacks returns true for every argument: the walk.
-/
import Derived.Test.YtopcojdblkpliaaYardM
import Derived.Test.YtopcojdblkpliaaFlatMove
import Derived.Test.YtopcojdblkpliaaOpen
import Derived.Test.YtopcojdblkpliaaOpenSS
import Derived.Test.YtopcojdblkpliaaOpenMove
import Derived.Deep.RegionHeld3
namespace Go.Proofs.Ytopcojdblkpliaa
open Go.ChangeShapes Go.WideShapes Go.RowKit

set_option maxRecDepth 100000 in
set_option maxHeartbeats 3200000 in
theorem lawLoadPacks_any (A0 : Option Addr) (c0 : Nat) (r0 : List (Row Int)) (A1 : Option Addr) (c1 : Nat) (x1 : List Int) (A2 : Option Addr) (c2 : Nat) (x2 : List MoveD) (w : World) (hr0 : RdR LI w w.heap.size A0 c0 r0) (_hi0 : ∀ r ∈ r0, ∀ n ∈ r.2.2, I64 n) (hr1 : Rd LI w w.heap.size A1 c1 x1) (_hi1 : ∀ n ∈ x1, I64 n) (hr2 : Rd LMove w w.heap.size A2 c2 x2) (_hi2 : ∀ n ∈ x2, OkMove n) :
    Calls Try.prog 9 #[.slice A0 r0.length c0, .slice A1 x1.length c1, .slice A2 x2.length c2] w fun e w' => e = .returned (.bool true) ∧ Below w.heap.size w w' := by
  have hlen0 := hr0.len63
  have hlen1 := hr1.len63
  have hlen2 := hr2.len63
  by_cases hz0 : x1.length ≤ 1048576
  rotate_left
  · skip
    go_enter Try.func9, Try.ntmps9
    go_wp2_with fail
    go_ret
    exact ⟨rfl, (Below.refl w.heap.size w)⟩
  by_cases hz1 : 0 ≤ (szRR 1048576 r0)
  rotate_left
  · skip
    have hneg : (szRR 1048576 r0) < 0 := by omega
    go_enter Try.func9, Try.ntmps9
    go_wp2_with fail
    refine (szInt64SS_any A0 c0 r0 _ _ _ (hr0.below (Below.refl w.heap.size w)) (by omega) (by omega)).mono ?_
    rintro e wx ⟨rfl, rfl⟩
    go_wp2_with fail
    go_ret
    exact ⟨rfl, (Below.refl w.heap.size w)⟩
  have hq0 : r0.length ≤ 1048576 ∧ ∀ r ∈ r0, r.2.2.length ≤ 1048576 := by
    have := szRR_yes (by omega) hz1
    exact ⟨by omega, fun r hr => by have := this.2 r hr; omega⟩
  have hu1c := szRR_le (by omega) hz1
  by_cases hz2 : 0 ≤ (szN (szRR 1048576 r0) x2.length)
  rotate_left
  · skip
    have hneg : (szN (szRR 1048576 r0) x2.length) < 0 := by omega
    go_enter Try.func9, Try.ntmps9
    go_wp2_with fail
    refine (szInt64SS_any A0 c0 r0 _ _ _ (hr0.below (Below.refl w.heap.size w)) (by omega) (by omega)).mono ?_
    rintro e wx ⟨rfl, rfl⟩
    go_wp2_with fail
    refine (szMoveS_any A2 c2 x2.length _ _ (by omega) (by omega) hlen2).mono ?_
    rintro e wx ⟨rfl, rfl⟩
    go_wp2_with fail
    go_ret
    exact ⟨rfl, (Below.refl w.heap.size w)⟩
  obtain ⟨hu2a, hu2c⟩ := szN_yes (by omega) hz2
  go_enter Try.func9, Try.ntmps9
  go_wp2_with fail
  refine (szInt64SS_any A0 c0 r0 _ _ _ (hr0.below (Below.refl w.heap.size w)) (by omega) (by omega)).mono ?_
  rintro e wx ⟨rfl, rfl⟩
  go_wp2_with fail
  refine (szMoveS_any A2 c2 x2.length _ _ (by omega) (by omega) hlen2).mono ?_
  rintro e wx ⟨rfl, rfl⟩
  go_wp2_with fail
  refine (toInt64SS_any A0 c0 r0 _ ((hr0.below (Below.refl w.heap.size w)).more (Below.refl w.heap.size w).size) hq0.1 hq0.2).mono ?_
  rintro e w1 ⟨B1, d1, s1, rfl, ho1, he1, hc1⟩
  have hl1 := ho1.blk_lt
  have hb1 := bthen (Below.refl w.heap.size w) (Nat.le_refl _) hc1
  have hs1 := hc1.size
  (try simp at hs1)
  go_wp2_with fail
  refine (toInt64S_any A1 c1 x1 _ ((hr1.below hb1).more hb1.size) (by omega)).mono ?_
  rintro e w2 ⟨B2, d2, rfl, ho2, hc2⟩
  have hl2 := ho2.blk_lt
  have hb2 := bthen hb1 (Nat.le_refl _) hc2
  have hs2 := hc2.size
  (try simp at hs2)
  have ho1' := OwnR.below ho1 hc2
  go_wp2_with fail
  refine (toMoveS_any A2 c2 x2 _ ((hr2.below hb2).more hb2.size) (by omega)).mono ?_
  rintro e w3 ⟨B3, d3, rfl, ho3, hc3⟩
  have hl3 := ho3.blk_lt
  have hb3 := bthen hb2 (Nat.le_refl _) hc3
  have hs3 := hc3.size
  (try simp at hs3)
  have ho1'' := OwnR.below ho1' hc3
  have ho2' := Own.below ho2 hc3
  go_wp2_with fail
  have hf4 := specLoadPacks_any B1 d1 s1 B2 d2 x1 B3 d3 x2 _ (OwnR.rd ho1'') (Own.rd ho2') (Own.rd ho3) (tl_of (by assumption) rfl hz1) (nil_of (by assumption)) _hi2
  rw [he1] at hf4
  refine hf4.mono ?_
  rintro e w4 ⟨B4, d4, s4, rfl, ho4, he4, hc4⟩
  clear hf4
  have hl4 := ho4.blk_lt
  have hn4 : tl s4 ≤ 1048576 := (by rw [tl_dat, he4]; exact ldP_tl (dat r0) x1 x2)
  have hb4 := bthen hb3 (Nat.le_refl _) hc4
  have hs4 := hc4.size
  (try simp at hs4)
  have ho1''' := OwnR.below ho1'' hc4
  have ho2'' := Own.below ho2' hc4
  have ho3' := Own.below ho3 hc4
  clear ho1'''
  clear ho2''
  clear ho3'
  go_wp2_with fail
  refine (toInt64SS_any A0 c0 r0 _ ((hr0.below hb4).more hb4.size) hq0.1 hq0.2).mono ?_
  rintro e w5 ⟨B5, d5, s5, rfl, ho5, he5, hc5⟩
  have hl5 := ho5.blk_lt
  have hb5 := bthen hb4 (Nat.le_refl _) hc5
  have hs5 := hc5.size
  (try simp at hs5)
  have ho4' := OwnR.below ho4 hc5
  go_wp2_with fail
  refine (toInt64S_any A1 c1 x1 _ ((hr1.below hb5).more hb5.size) (by omega)).mono ?_
  rintro e w6 ⟨B6, d6, rfl, ho6, hc6⟩
  have hl6 := ho6.blk_lt
  have hb6 := bthen hb5 (Nat.le_refl _) hc6
  have hs6 := hc6.size
  (try simp at hs6)
  have ho4'' := OwnR.below ho4' hc6
  have ho5' := OwnR.below ho5 hc6
  go_wp2_with fail
  refine (toMoveS_any A2 c2 x2 _ ((hr2.below hb6).more hb6.size) (by omega)).mono ?_
  rintro e w7 ⟨B7, d7, rfl, ho7, hc7⟩
  have hl7 := ho7.blk_lt
  have hb7 := bthen hb6 (Nat.le_refl _) hc7
  have hs7 := hc7.size
  (try simp at hs7)
  have ho4''' := OwnR.below ho4'' hc7
  have ho5'' := OwnR.below ho5' hc7
  have ho6' := Own.below ho6 hc7
  go_wp2_with fail
  have hf8 := implLoadPacks_any B5 d5 s5 B6 d6 x1 B7 d7 x2 _ (OwnR.rd ho5'') (Own.rd ho6') (Own.rd ho7) (tl_of (by assumption) rfl hz1) (nil_of (by assumption)) _hi2
  rw [he5] at hf8
  refine hf8.mono ?_
  rintro e w8 ⟨B8, d8, s8, rfl, ho8, he8, hc8⟩
  clear hf8
  have hl8 := ho8.blk_lt
  have hn8 : tl s8 ≤ 1048576 := (by rw [tl_dat, he8]; exact ldP_tl (dat r0) x1 x2)
  have hb8 := bthen hb7 (Nat.le_refl _) hc8
  have hs8 := hc8.size
  (try simp at hs8)
  have ho4'''' := OwnR.below ho4''' hc8
  have ho5''' := OwnR.below ho5'' hc8
  have ho6'' := Own.below ho6' hc8
  have ho7' := Own.below ho7 hc8
  go_wp2_with fail
  refine (eqInt64SS_same B8 d8 s8 B4 d4 s4 _ (OwnR.rd ho8) (OwnR.rd ho4'''') (by rw [he8, he4])).mono ?_
  rintro e w9 ⟨rfl, hc9⟩
  have hb9 := bthen hb8 (Nat.le_refl _) hc9
  have hs9 := hc9.size
  (try simp at hs9)
  have ho4''''' := OwnR.below ho4'''' hc9
  have ho5'''' := OwnR.below ho5''' hc9
  have ho6''' := Own.below ho6'' hc9
  have ho7'' := Own.below ho7' hc9
  have ho8' := OwnR.below ho8 hc9
  go_wp2_with fail
  refine (toInt64SS_any A0 c0 r0 _ ((hr0.below hb9).more hb9.size) hq0.1 hq0.2).mono ?_
  rintro e w10 ⟨B10, d10, s10, rfl, ho10, he10, hc10⟩
  have hl10 := ho10.blk_lt
  have hb10 := bthen hb9 (Nat.le_refl _) hc10
  have hs10 := hc10.size
  (try simp at hs10)
  have ho4'''''' := OwnR.below ho4''''' hc10
  have ho5''''' := OwnR.below ho5'''' hc10
  have ho6'''' := Own.below ho6''' hc10
  have ho7''' := Own.below ho7'' hc10
  have ho8'' := OwnR.below ho8' hc10
  go_wp2_with fail
  refine (eqInt64SS_same B5 d5 s5 B10 d10 s10 _ (OwnR.rd ho5''''') (OwnR.rd ho10) (by rw [he5, he10])).mono ?_
  rintro e w11 ⟨rfl, hc11⟩
  have hb11 := bthen hb10 (Nat.le_refl _) hc11
  have hs11 := hc11.size
  (try simp at hs11)
  have ho4''''''' := OwnR.below ho4'''''' hc11
  have ho5'''''' := OwnR.below ho5''''' hc11
  have ho6''''' := Own.below ho6'''' hc11
  have ho7'''' := Own.below ho7''' hc11
  have ho8''' := OwnR.below ho8'' hc11
  have ho10' := OwnR.below ho10 hc11
  clear ho10'
  go_wp2_with fail
  refine (toInt64S_any A1 c1 x1 _ ((hr1.below hb11).more hb11.size) (by omega)).mono ?_
  rintro e w12 ⟨B12, d12, rfl, ho12, hc12⟩
  have hl12 := ho12.blk_lt
  have hb12 := bthen hb11 (Nat.le_refl _) hc12
  have hs12 := hc12.size
  (try simp at hs12)
  have ho4'''''''' := OwnR.below ho4''''''' hc12
  have ho5''''''' := OwnR.below ho5'''''' hc12
  have ho6'''''' := Own.below ho6''''' hc12
  have ho7''''' := Own.below ho7'''' hc12
  have ho8'''' := OwnR.below ho8''' hc12
  go_wp2_with fail
  refine (eqInt64S_same B6 d6 B12 d12 _ _ (Own.rd ho6'''''') (Own.rd ho12)).mono ?_
  rintro e w13 ⟨rfl, hc13⟩
  have hb13 := bthen hb12 (Nat.le_refl _) hc13
  have hs13 := hc13.size
  (try simp at hs13)
  have ho4''''''''' := OwnR.below ho4'''''''' hc13
  have ho5'''''''' := OwnR.below ho5''''''' hc13
  have ho6''''''' := Own.below ho6'''''' hc13
  have ho7'''''' := Own.below ho7''''' hc13
  have ho8''''' := OwnR.below ho8'''' hc13
  have ho12' := Own.below ho12 hc13
  clear ho12'
  go_wp2_with fail
  refine (toMoveS_any A2 c2 x2 _ ((hr2.below hb13).more hb13.size) (by omega)).mono ?_
  rintro e w14 ⟨B14, d14, rfl, ho14, hc14⟩
  have hl14 := ho14.blk_lt
  have hb14 := bthen hb13 (Nat.le_refl _) hc14
  have hs14 := hc14.size
  (try simp at hs14)
  have ho4'''''''''' := OwnR.below ho4''''''''' hc14
  have ho5''''''''' := OwnR.below ho5'''''''' hc14
  have ho6'''''''' := Own.below ho6''''''' hc14
  have ho7''''''' := Own.below ho7'''''' hc14
  have ho8'''''' := OwnR.below ho8''''' hc14
  go_wp2_with fail
  refine (eqMoveS_same B7 d7 B14 d14 _ _ (Own.rd ho7''''''') (Own.rd ho14)).mono ?_
  rintro e w15 ⟨rfl, hc15⟩
  have hb15 := bthen hb14 (Nat.le_refl _) hc15
  have hs15 := hc15.size
  (try simp at hs15)
  have ho4''''''''''' := OwnR.below ho4'''''''''' hc15
  have ho5'''''''''' := OwnR.below ho5''''''''' hc15
  have ho6''''''''' := Own.below ho6'''''''' hc15
  have ho7'''''''' := Own.below ho7''''''' hc15
  have ho8''''''' := OwnR.below ho8'''''' hc15
  have ho14' := Own.below ho14 hc15
  clear ho14'
  go_wp2_with fail
  have hn5 : tl s5 ≤ 1048576 * 1048576 := by rw [tl_dat, he5, ← tl_dat]; exact tl_bd hq0.2 hq0.1
  refine (markInt64SS_any B5 d5 s5 _ _ _ ho5'''''''''' (by omega) (by omega)).mono ?_
  rintro e w16 ⟨rfl, hm16, hk16⟩
  have hb16 := hk16.below hb15 hb15.size (fun b hb => by obtain ⟨r, hr, hg2⟩ := hb; have h1 := hl5.2 r hr _ hg2; omega)
  have hs16 := hk16.size
  have ho4'''''''''''' := hk16.ownR ho4''''''''''' (fun g hg hS => by have h2 := hl4.1 g hg; obtain ⟨r, hr, hg2⟩ := hS; have h1 := hl5.2 r hr _ hg2; (first | omega | (simp at h2; omega))) (fun q hq g hg hS => by have h2 := hl4.2 q hq g hg; obtain ⟨r, hr, hg2⟩ := hS; have h1 := hl5.2 r hr _ hg2; (first | omega | (simp at h2; omega)))
  have ho6'''''''''' := hk16.own ho6''''''''' (fun g hg hS => by have h2 := hl6 g hg; obtain ⟨r, hr, hg2⟩ := hS; have h1 := hl5.2 r hr _ hg2; (first | omega | (simp at h2; omega)))
  have ho7''''''''' := hk16.own ho7'''''''' (fun g hg hS => by have h2 := hl7 g hg; obtain ⟨r, hr, hg2⟩ := hS; have h1 := hl5.2 r hr _ hg2; (first | omega | (simp at h2; omega)))
  have ho8'''''''' := hk16.ownR ho8''''''' (fun g hg hS => by have h2 := hl8.1 g hg; obtain ⟨r, hr, hg2⟩ := hS; have h1 := hl5.2 r hr _ hg2; (first | omega | (simp at h2; omega))) (fun q hq g hg hS => by have h2 := hl8.2 q hq g hg; obtain ⟨r, hr, hg2⟩ := hS; have h1 := hl5.2 r hr _ hg2; (first | omega | (simp at h2; omega)))
  go_wp2_with fail
  refine (markInt64S_any B6 d6 _ _ _ _ ho6'''''''''' (by omega) (by omega)).mono ?_
  rintro e w17 ⟨rfl, hm17, hk17⟩
  have hb17 := hk17.below hb16 hb16.size (fun b hb => by have h1 := hl6 _ hb; omega)
  have hs17 := hk17.size
  have ho4''''''''''''' := hk17.ownR ho4'''''''''''' (fun g hg hS => by have h2 := hl4.1 g hg; have h1 := hl6 _ hS; (first | omega | (simp at h2; omega))) (fun q hq g hg hS => by have h2 := hl4.2 q hq g hg; have h1 := hl6 _ hS; (first | omega | (simp at h2; omega)))
  have hm16' := hk17.ownR hm16 (fun g hg hS => by have h2 := hl5.1 g hg; have h1 := hl6 _ hS; (first | omega | (simp at h2; omega))) (fun q hq g hg hS => by have h2 := (upR_lt hl5.2) q hq g hg; have h1 := hl6 _ hS; (first | omega | (simp at h2; omega)))
  have ho7'''''''''' := hk17.own ho7''''''''' (fun g hg hS => by have h2 := hl7 g hg; have h1 := hl6 _ hS; (first | omega | (simp at h2; omega)))
  have ho8''''''''' := hk17.ownR ho8'''''''' (fun g hg hS => by have h2 := hl8.1 g hg; have h1 := hl6 _ hS; (first | omega | (simp at h2; omega))) (fun q hq g hg hS => by have h2 := hl8.2 q hq g hg; have h1 := hl6 _ hS; (first | omega | (simp at h2; omega)))
  go_wp2_with fail
  refine (markMoveS_any B7 d7 _ _ _ _ ho7'''''''''' (by omega) (by omega)).mono ?_
  rintro e w18 ⟨rfl, hm18, hk18⟩
  have hb18 := hk18.below hb17 hb17.size (fun b hb => by have h1 := hl7 _ hb; omega)
  have hs18 := hk18.size
  have ho4'''''''''''''' := hk18.ownR ho4''''''''''''' (fun g hg hS => by have h2 := hl4.1 g hg; have h1 := hl7 _ hS; (first | omega | (simp at h2; omega))) (fun q hq g hg hS => by have h2 := hl4.2 q hq g hg; have h1 := hl7 _ hS; (first | omega | (simp at h2; omega)))
  have hm16'' := hk18.ownR hm16' (fun g hg hS => by have h2 := hl5.1 g hg; have h1 := hl7 _ hS; (first | omega | (simp at h2; omega))) (fun q hq g hg hS => by have h2 := (upR_lt hl5.2) q hq g hg; have h1 := hl7 _ hS; (first | omega | (simp at h2; omega)))
  have hm17' := hk18.own hm17 (fun g hg hS => by have h2 := hl6 g hg; have h1 := hl7 _ hS; (first | omega | (simp at h2; omega)))
  have ho8'''''''''' := hk18.ownR ho8''''''''' (fun g hg hS => by have h2 := hl8.1 g hg; have h1 := hl7 _ hS; (first | omega | (simp at h2; omega))) (fun q hq g hg hS => by have h2 := hl8.2 q hq g hg; have h1 := hl7 _ hS; (first | omega | (simp at h2; omega)))
  go_wp2_with fail
  refine (eqInt64SS_same B8 d8 s8 B4 d4 s4 _ (OwnR.rd ho8'''''''''') (OwnR.rd ho4'''''''''''''') (by rw [he8, he4])).mono ?_
  rintro e w19 ⟨rfl, hc19⟩
  have hb19 := bthen hb18 (Nat.le_refl _) hc19
  have hs19 := hc19.size
  (try simp at hs19)
  have ho4''''''''''''''' := OwnR.below ho4'''''''''''''' hc19
  have hm16''' := OwnR.below hm16'' hc19
  have hm17'' := Own.below hm17' hc19
  have hm18' := Own.below hm18 hc19
  have ho8''''''''''' := OwnR.below ho8'''''''''' hc19
  go_wp2_with fail
  refine (markInt64SS_any B8 d8 s8 _ _ _ ho8''''''''''' (by omega) (by omega)).mono ?_
  rintro e w20 ⟨rfl, hm20, hk20⟩
  have hb20 := hk20.below hb19 hb19.size (fun b hb => by obtain ⟨r, hr, hg2⟩ := hb; have h1 := hl8.2 r hr _ hg2; omega)
  have hs20 := hk20.size
  have ho4'''''''''''''''' := hk20.ownR ho4''''''''''''''' (fun g hg hS => by have h2 := hl4.1 g hg; obtain ⟨r, hr, hg2⟩ := hS; have h1 := hl8.2 r hr _ hg2; (first | omega | (simp at h2; omega))) (fun q hq g hg hS => by have h2 := hl4.2 q hq g hg; obtain ⟨r, hr, hg2⟩ := hS; have h1 := hl8.2 r hr _ hg2; (first | omega | (simp at h2; omega)))
  have hm16'''' := hk20.ownR hm16''' (fun g hg hS => by have h2 := hl5.1 g hg; obtain ⟨r, hr, hg2⟩ := hS; have h1 := hl8.2 r hr _ hg2; (first | omega | (simp at h2; omega))) (fun q hq g hg hS => by have h2 := (upR_lt hl5.2) q hq g hg; obtain ⟨r, hr, hg2⟩ := hS; have h1 := hl8.2 r hr _ hg2; (first | omega | (simp at h2; omega)))
  have hm17''' := hk20.own hm17'' (fun g hg hS => by have h2 := hl6 g hg; obtain ⟨r, hr, hg2⟩ := hS; have h1 := hl8.2 r hr _ hg2; (first | omega | (simp at h2; omega)))
  have hm18'' := hk20.own hm18' (fun g hg hS => by have h2 := hl7 g hg; obtain ⟨r, hr, hg2⟩ := hS; have h1 := hl8.2 r hr _ hg2; (first | omega | (simp at h2; omega)))
  go_wp2_with fail
  refine (heldInt64SS_any B8 d8 s8 1 _ _ (OwnR.rd hm20) (by omega) (by omega)).mono ?_
  rintro e wx ⟨rfl, rfl⟩
  go_wp2_with fail
  refine (toInt64SS_any A0 c0 r0 _ ((hr0.below hb20).more hb20.size) hq0.1 hq0.2).mono ?_
  rintro e w21 ⟨B21, d21, s21, rfl, ho21, he21, hc21⟩
  have hl21 := ho21.blk_lt
  have hb21 := bthen hb20 (Nat.le_refl _) hc21
  have hs21 := hc21.size
  (try simp at hs21)
  have ho4''''''''''''''''' := OwnR.below ho4'''''''''''''''' hc21
  have hm16''''' := OwnR.below hm16'''' hc21
  have hm17'''' := Own.below hm17''' hc21
  have hm18''' := Own.below hm18'' hc21
  have hm20' := OwnR.below hm20 hc21
  go_wp2_with fail
  refine (toInt64S_any A1 c1 x1 _ ((hr1.below hb21).more hb21.size) (by omega)).mono ?_
  rintro e w22 ⟨B22, d22, rfl, ho22, hc22⟩
  have hl22 := ho22.blk_lt
  have hb22 := bthen hb21 (Nat.le_refl _) hc22
  have hs22 := hc22.size
  (try simp at hs22)
  have ho4'''''''''''''''''' := OwnR.below ho4''''''''''''''''' hc22
  have hm16'''''' := OwnR.below hm16''''' hc22
  have hm17''''' := Own.below hm17'''' hc22
  have hm18'''' := Own.below hm18''' hc22
  have hm20'' := OwnR.below hm20' hc22
  have ho21' := OwnR.below ho21 hc22
  go_wp2_with fail
  refine (toMoveS_any A2 c2 x2 _ ((hr2.below hb22).more hb22.size) (by omega)).mono ?_
  rintro e w23 ⟨B23, d23, rfl, ho23, hc23⟩
  have hl23 := ho23.blk_lt
  have hb23 := bthen hb22 (Nat.le_refl _) hc23
  have hs23 := hc23.size
  (try simp at hs23)
  have ho4''''''''''''''''''' := OwnR.below ho4'''''''''''''''''' hc23
  have hm16''''''' := OwnR.below hm16'''''' hc23
  have hm17'''''' := Own.below hm17''''' hc23
  have hm18''''' := Own.below hm18'''' hc23
  have hm20''' := OwnR.below hm20'' hc23
  have ho21'' := OwnR.below ho21' hc23
  have ho22' := Own.below ho22 hc23
  go_wp2_with fail
  have hf24 := implLoadPacks_any B21 d21 s21 B22 d22 x1 B23 d23 x2 _ (OwnR.rd ho21'') (Own.rd ho22') (Own.rd ho23) (tl_of (by assumption) rfl hz1) (nil_of (by assumption)) _hi2
  rw [he21] at hf24
  refine hf24.mono ?_
  rintro e w24 ⟨B24, d24, s24, rfl, ho24, he24, hc24⟩
  clear hf24
  have hl24 := ho24.blk_lt
  have hn24 : tl s24 ≤ 1048576 := (by rw [tl_dat, he24]; exact ldP_tl (dat r0) x1 x2)
  have hb24 := bthen hb23 (Nat.le_refl _) hc24
  have hs24 := hc24.size
  (try simp at hs24)
  have ho4'''''''''''''''''''' := OwnR.below ho4''''''''''''''''''' hc24
  have hm16'''''''' := OwnR.below hm16''''''' hc24
  have hm17''''''' := Own.below hm17'''''' hc24
  have hm18'''''' := Own.below hm18''''' hc24
  have hm20'''' := OwnR.below hm20''' hc24
  have ho21''' := OwnR.below ho21'' hc24
  have ho22'' := Own.below ho22' hc24
  have ho23' := Own.below ho23 hc24
  clear ho21'''
  clear ho22''
  clear ho23'
  go_wp2_with fail
  refine (eqInt64SS_same B24 d24 s24 B4 d4 s4 _ (OwnR.rd ho24) (OwnR.rd ho4'''''''''''''''''''') (by rw [he24, he4])).mono ?_
  rintro e w25 ⟨rfl, hc25⟩
  have hb25 := bthen hb24 (Nat.le_refl _) hc25
  have hs25 := hc25.size
  (try simp at hs25)
  have ho4''''''''''''''''''''' := OwnR.below ho4'''''''''''''''''''' hc25
  have hm16''''''''' := OwnR.below hm16'''''''' hc25
  have hm17'''''''' := Own.below hm17''''''' hc25
  have hm18''''''' := Own.below hm18'''''' hc25
  have hm20''''' := OwnR.below hm20'''' hc25
  have ho24' := OwnR.below ho24 hc25
  go_wp2_with fail
  refine (heldInt64SS_any B8 d8 s8 1 _ _ (OwnR.rd hm20''''') (by omega) (by omega)).mono ?_
  rintro e wx ⟨rfl, rfl⟩
  go_wp2_with fail
  go_ret
  exact ⟨rfl, hb25⟩
end Go.Proofs.Ytopcojdblkpliaa
