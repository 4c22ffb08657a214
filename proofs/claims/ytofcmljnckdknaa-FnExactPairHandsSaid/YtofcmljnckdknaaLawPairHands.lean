/-
  FnExactPairHands returns true for every argument: the walk.
-/
import Derived.Test.YtofcmljnckdknaaPairK
import Derived.Test.YtofcmljnckdknaaNumSS
import Derived.Test.YtofcmljnckdknaaOpen
import Derived.Test.YtofcmljnckdknaaOpenSS
import Derived.Test.YtofcmljnckdknaaOpenHand
import Derived.Deep.RegionHeld3
namespace Go.Proofs.Ytofcmljnckdknaa
open Go.ChangeShapes Go.WideShapes Go.RowKit

set_option maxRecDepth 100000 in
set_option maxHeartbeats 3200000 in
theorem lawPairHands_any (A0 : Option Addr) (c0 : Nat) (x0 : List HandD) (A1 : Option Addr) (c1 : Nat) (r1 : List (Row Int)) (w : World) (hr0 : Rd LHand w w.heap.size A0 c0 x0) (_hi0 : ∀ n ∈ x0, OkHand n) (hr1 : RdR LI w w.heap.size A1 c1 r1) (_hi1 : ∀ r ∈ r1, ∀ n ∈ r.2.2, I64 n) :
    Calls Try.prog 4 #[.slice A0 x0.length c0, .slice A1 r1.length c1] w fun e w' => e = .returned (.bool true) ∧ Below w.heap.size w w' := by
  have hlen0 := hr0.len63
  have hlen1 := hr1.len63
  by_cases hz0 : 0 ≤ (szNm 1048576 (x0.map fun x => x.1))
  rotate_left
  · skip
    have hneg : (szNm 1048576 (x0.map fun x => x.1)) < 0 := by omega
    go_enter Try.func4, Try.ntmps4
    go_wp2_with fail
    refine (szHandS_any A0 c0 x0 _ _ ((hr0.below (Below.refl w.heap.size w)).more (Below.refl w.heap.size w).size) (by omega) (by omega) _hi0).mono ?_
    rintro e w1 ⟨rfl, hc1⟩
    have hb1 := bthen (Below.refl w.heap.size w) (Nat.le_refl _) hc1
    have hs1 := hc1.size
    (try simp at hs1)
    go_wp2_with fail
    go_ret
    exact ⟨rfl, hb1⟩
  obtain ⟨hu0a, hu0c⟩ := szNm_yes (by omega) hz0
  rw [List.length_map] at hu0a
  by_cases hz1 : 0 ≤ (szRR (szNm 1048576 (x0.map fun x => x.1)) r1)
  rotate_left
  · skip
    have hneg : (szRR (szNm 1048576 (x0.map fun x => x.1)) r1) < 0 := by omega
    go_enter Try.func4, Try.ntmps4
    go_wp2_with fail
    refine (szHandS_any A0 c0 x0 _ _ ((hr0.below (Below.refl w.heap.size w)).more (Below.refl w.heap.size w).size) (by omega) (by omega) _hi0).mono ?_
    rintro e w1 ⟨rfl, hc1⟩
    have hb1 := bthen (Below.refl w.heap.size w) (Nat.le_refl _) hc1
    have hs1 := hc1.size
    (try simp at hs1)
    go_wp2_with fail
    refine (szInt64SS_any A1 c1 r1 _ _ _ (hr1.below hb1) (by omega) (by omega)).mono ?_
    rintro e wx ⟨rfl, rfl⟩
    go_wp2_with fail
    go_ret
    exact ⟨rfl, hb1⟩
  have hq1 : r1.length ≤ 1048576 ∧ ∀ r ∈ r1, r.2.2.length ≤ 1048576 := by
    have := szRR_yes (by omega) hz1
    exact ⟨by omega, fun r hr => by have := this.2 r hr; omega⟩
  have hu1c := szRR_le (by omega) hz1
  go_enter Try.func4, Try.ntmps4
  go_wp2_with fail
  refine (szHandS_any A0 c0 x0 _ _ ((hr0.below (Below.refl w.heap.size w)).more (Below.refl w.heap.size w).size) (by omega) (by omega) _hi0).mono ?_
  rintro e w1 ⟨rfl, hc1⟩
  have hb1 := bthen (Below.refl w.heap.size w) (Nat.le_refl _) hc1
  have hs1 := hc1.size
  (try simp at hs1)
  go_wp2_with fail
  refine (szInt64SS_any A1 c1 r1 _ _ _ (hr1.below hb1) (by omega) (by omega)).mono ?_
  rintro e wx ⟨rfl, rfl⟩
  go_wp2_with fail
  refine (toHandS_any A0 c0 x0 _ ((hr0.below hb1).more hb1.size) (by omega)).mono ?_
  rintro e w2 ⟨B2, d2, rfl, ho2, hc2⟩
  have hl2 := ho2.blk_lt
  have hb2 := bthen hb1 (Nat.le_refl _) hc2
  have hs2 := hc2.size
  (try simp at hs2)
  go_wp2_with fail
  refine (toInt64SS_any A1 c1 r1 _ ((hr1.below hb2).more hb2.size) hq1.1 hq1.2).mono ?_
  rintro e w3 ⟨B3, d3, s3, rfl, ho3, he3, hc3⟩
  have hl3 := ho3.blk_lt
  have hb3 := bthen hb2 (Nat.le_refl _) hc3
  have hs3 := hc3.size
  (try simp at hs3)
  have ho2' := Own.below ho2 hc3
  go_wp2_with fail
  have hf4 := specPairHands_any B2 d2 x0 B3 d3 s3 _ (Own.rd ho2') (OwnR.rd ho3) _hi0
  rw [he3] at hf4
  refine hf4.mono ?_
  rintro e w4 ⟨B4, d4, rfl, ho4, hc4⟩
  clear hf4
  have hl4 := ho4.blk_lt
  have hn4 := prP_len x0 (dat r1)
  have hb4 := bthen hb3 (Nat.le_refl _) hc4
  have hs4 := hc4.size
  (try simp at hs4)
  have ho2'' := Own.below ho2' hc4
  have ho3' := OwnR.below ho3 hc4
  clear ho2''
  clear ho3'
  go_wp2_with fail
  refine (toHandS_any A0 c0 x0 _ ((hr0.below hb4).more hb4.size) (by omega)).mono ?_
  rintro e w5 ⟨B5, d5, rfl, ho5, hc5⟩
  have hl5 := ho5.blk_lt
  have hb5 := bthen hb4 (Nat.le_refl _) hc5
  have hs5 := hc5.size
  (try simp at hs5)
  have ho4' := Own.below ho4 hc5
  go_wp2_with fail
  refine (toInt64SS_any A1 c1 r1 _ ((hr1.below hb5).more hb5.size) hq1.1 hq1.2).mono ?_
  rintro e w6 ⟨B6, d6, s6, rfl, ho6, he6, hc6⟩
  have hl6 := ho6.blk_lt
  have hb6 := bthen hb5 (Nat.le_refl _) hc6
  have hs6 := hc6.size
  (try simp at hs6)
  have ho4'' := Own.below ho4' hc6
  have ho5' := Own.below ho5 hc6
  go_wp2_with fail
  have hf7 := implPairHands_any B5 d5 x0 B6 d6 s6 _ (Own.rd ho5') (OwnR.rd ho6) _hi0
  rw [he6] at hf7
  refine hf7.mono ?_
  rintro e w7 ⟨B7, d7, rfl, ho7, hc7⟩
  clear hf7
  have hl7 := ho7.blk_lt
  have hn7 := prP_len x0 (dat r1)
  have hb7 := bthen hb6 (Nat.le_refl _) hc7
  have hs7 := hc7.size
  (try simp at hs7)
  have ho4''' := Own.below ho4'' hc7
  have ho5'' := Own.below ho5' hc7
  have ho6' := OwnR.below ho6 hc7
  go_wp2_with fail
  refine (eqInt64S_same B7 d7 B4 d4 _ _ (Own.rd ho7) (Own.rd ho4''')).mono ?_
  rintro e w8 ⟨rfl, hc8⟩
  have hb8 := bthen hb7 (Nat.le_refl _) hc8
  have hs8 := hc8.size
  (try simp at hs8)
  have ho4'''' := Own.below ho4''' hc8
  have ho5''' := Own.below ho5'' hc8
  have ho6'' := OwnR.below ho6' hc8
  have ho7' := Own.below ho7 hc8
  go_wp2_with fail
  refine (toHandS_any A0 c0 x0 _ ((hr0.below hb8).more hb8.size) (by omega)).mono ?_
  rintro e w9 ⟨B9, d9, rfl, ho9, hc9⟩
  have hl9 := ho9.blk_lt
  have hb9 := bthen hb8 (Nat.le_refl _) hc9
  have hs9 := hc9.size
  (try simp at hs9)
  have ho4''''' := Own.below ho4'''' hc9
  have ho5'''' := Own.below ho5''' hc9
  have ho6''' := OwnR.below ho6'' hc9
  have ho7'' := Own.below ho7' hc9
  go_wp2_with fail
  refine (eqHandS_same B5 d5 B9 d9 _ _ (Own.rd ho5'''') (Own.rd ho9)).mono ?_
  rintro e w10 ⟨rfl, hc10⟩
  have hb10 := bthen hb9 (Nat.le_refl _) hc10
  have hs10 := hc10.size
  (try simp at hs10)
  have ho4'''''' := Own.below ho4''''' hc10
  have ho5''''' := Own.below ho5'''' hc10
  have ho6'''' := OwnR.below ho6''' hc10
  have ho7''' := Own.below ho7'' hc10
  have ho9' := Own.below ho9 hc10
  clear ho9'
  go_wp2_with fail
  refine (toInt64SS_any A1 c1 r1 _ ((hr1.below hb10).more hb10.size) hq1.1 hq1.2).mono ?_
  rintro e w11 ⟨B11, d11, s11, rfl, ho11, he11, hc11⟩
  have hl11 := ho11.blk_lt
  have hb11 := bthen hb10 (Nat.le_refl _) hc11
  have hs11 := hc11.size
  (try simp at hs11)
  have ho4''''''' := Own.below ho4'''''' hc11
  have ho5'''''' := Own.below ho5''''' hc11
  have ho6''''' := OwnR.below ho6'''' hc11
  have ho7'''' := Own.below ho7''' hc11
  go_wp2_with fail
  refine (eqInt64SS_same B6 d6 s6 B11 d11 s11 _ (OwnR.rd ho6''''') (OwnR.rd ho11) (by rw [he6, he11])).mono ?_
  rintro e w12 ⟨rfl, hc12⟩
  have hb12 := bthen hb11 (Nat.le_refl _) hc12
  have hs12 := hc12.size
  (try simp at hs12)
  have ho4'''''''' := Own.below ho4''''''' hc12
  have ho5''''''' := Own.below ho5'''''' hc12
  have ho6'''''' := OwnR.below ho6''''' hc12
  have ho7''''' := Own.below ho7'''' hc12
  have ho11' := OwnR.below ho11 hc12
  clear ho11'
  go_wp2_with fail
  refine (markHandS_any B5 d5 _ _ _ _ ho5''''''' (by omega) (by omega)).mono ?_
  rintro e w13 ⟨rfl, hm13, hk13⟩
  have hb13 := hk13.below hb12 hb12.size (fun b hb => by have h1 := hl5 _ hb; omega)
  have hs13 := hk13.size
  have ho4''''''''' := hk13.own ho4'''''''' (fun g hg hS => by have h2 := hl4 g hg; have h1 := hl5 _ hS; (first | omega | (simp at h2; omega)))
  have ho6''''''' := hk13.ownR ho6'''''' (fun g hg hS => by have h2 := hl6.1 g hg; have h1 := hl5 _ hS; (first | omega | (simp at h2; omega))) (fun q hq g hg hS => by have h2 := hl6.2 q hq g hg; have h1 := hl5 _ hS; (first | omega | (simp at h2; omega)))
  have ho7'''''' := hk13.own ho7''''' (fun g hg hS => by have h2 := hl7 g hg; have h1 := hl5 _ hS; (first | omega | (simp at h2; omega)))
  go_wp2_with fail
  have hn6 : tl s6 ≤ 1048576 * 1048576 := by rw [tl_dat, he6, ← tl_dat]; exact tl_bd hq1.2 hq1.1
  refine (markInt64SS_any B6 d6 s6 _ _ _ ho6''''''' (by omega) (by omega)).mono ?_
  rintro e w14 ⟨rfl, hm14, hk14⟩
  have hb14 := hk14.below hb13 hb13.size (fun b hb => by obtain ⟨r, hr, hg2⟩ := hb; have h1 := hl6.2 r hr _ hg2; omega)
  have hs14 := hk14.size
  have ho4'''''''''' := hk14.own ho4''''''''' (fun g hg hS => by have h2 := hl4 g hg; obtain ⟨r, hr, hg2⟩ := hS; have h1 := hl6.2 r hr _ hg2; (first | omega | (simp at h2; omega)))
  have hm13' := hk14.own hm13 (fun g hg hS => by have h2 := hl5 g hg; obtain ⟨r, hr, hg2⟩ := hS; have h1 := hl6.2 r hr _ hg2; (first | omega | (simp at h2; omega)))
  have ho7''''''' := hk14.own ho7'''''' (fun g hg hS => by have h2 := hl7 g hg; obtain ⟨r, hr, hg2⟩ := hS; have h1 := hl6.2 r hr _ hg2; (first | omega | (simp at h2; omega)))
  go_wp2_with fail
  refine (eqInt64S_same B7 d7 B4 d4 _ _ (Own.rd ho7''''''') (Own.rd ho4'''''''''')).mono ?_
  rintro e w15 ⟨rfl, hc15⟩
  have hb15 := bthen hb14 (Nat.le_refl _) hc15
  have hs15 := hc15.size
  (try simp at hs15)
  have ho4''''''''''' := Own.below ho4'''''''''' hc15
  have hm13'' := Own.below hm13' hc15
  have hm14' := OwnR.below hm14 hc15
  have ho7'''''''' := Own.below ho7''''''' hc15
  go_wp2_with fail
  refine (markInt64S_any B7 d7 _ _ _ _ ho7'''''''' (by omega) (by omega)).mono ?_
  rintro e w16 ⟨rfl, hm16, hk16⟩
  have hb16 := hk16.below hb15 hb15.size (fun b hb => by have h1 := hl7 _ hb; omega)
  have hs16 := hk16.size
  have ho4'''''''''''' := hk16.own ho4''''''''''' (fun g hg hS => by have h2 := hl4 g hg; have h1 := hl7 _ hS; (first | omega | (simp at h2; omega)))
  have hm13''' := hk16.own hm13'' (fun g hg hS => by have h2 := hl5 g hg; have h1 := hl7 _ hS; (first | omega | (simp at h2; omega)))
  have hm14'' := hk16.ownR hm14' (fun g hg hS => by have h2 := hl6.1 g hg; have h1 := hl7 _ hS; (first | omega | (simp at h2; omega))) (fun q hq g hg hS => by have h2 := (upR_lt hl6.2) q hq g hg; have h1 := hl7 _ hS; (first | omega | (simp at h2; omega)))
  go_wp2_with fail
  refine (heldInt64S_any B7 d7 _ 1 _ _ (Own.rd hm16) (by omega) (by omega)).mono ?_
  rintro e wx ⟨rfl, rfl⟩
  go_wp2_with fail
  refine (toHandS_any A0 c0 x0 _ ((hr0.below hb16).more hb16.size) (by omega)).mono ?_
  rintro e w17 ⟨B17, d17, rfl, ho17, hc17⟩
  have hl17 := ho17.blk_lt
  have hb17 := bthen hb16 (Nat.le_refl _) hc17
  have hs17 := hc17.size
  (try simp at hs17)
  have ho4''''''''''''' := Own.below ho4'''''''''''' hc17
  have hm13'''' := Own.below hm13''' hc17
  have hm14''' := OwnR.below hm14'' hc17
  have hm16' := Own.below hm16 hc17
  go_wp2_with fail
  refine (toInt64SS_any A1 c1 r1 _ ((hr1.below hb17).more hb17.size) hq1.1 hq1.2).mono ?_
  rintro e w18 ⟨B18, d18, s18, rfl, ho18, he18, hc18⟩
  have hl18 := ho18.blk_lt
  have hb18 := bthen hb17 (Nat.le_refl _) hc18
  have hs18 := hc18.size
  (try simp at hs18)
  have ho4'''''''''''''' := Own.below ho4''''''''''''' hc18
  have hm13''''' := Own.below hm13'''' hc18
  have hm14'''' := OwnR.below hm14''' hc18
  have hm16'' := Own.below hm16' hc18
  have ho17' := Own.below ho17 hc18
  go_wp2_with fail
  have hf19 := implPairHands_any B17 d17 x0 B18 d18 s18 _ (Own.rd ho17') (OwnR.rd ho18) _hi0
  rw [he18] at hf19
  refine hf19.mono ?_
  rintro e w19 ⟨B19, d19, rfl, ho19, hc19⟩
  clear hf19
  have hl19 := ho19.blk_lt
  have hn19 := prP_len x0 (dat r1)
  have hb19 := bthen hb18 (Nat.le_refl _) hc19
  have hs19 := hc19.size
  (try simp at hs19)
  have ho4''''''''''''''' := Own.below ho4'''''''''''''' hc19
  have hm13'''''' := Own.below hm13''''' hc19
  have hm14''''' := OwnR.below hm14'''' hc19
  have hm16''' := Own.below hm16'' hc19
  have ho17'' := Own.below ho17' hc19
  have ho18' := OwnR.below ho18 hc19
  clear ho17''
  clear ho18'
  go_wp2_with fail
  refine (eqInt64S_same B19 d19 B4 d4 _ _ (Own.rd ho19) (Own.rd ho4''''''''''''''')).mono ?_
  rintro e w20 ⟨rfl, hc20⟩
  have hb20 := bthen hb19 (Nat.le_refl _) hc20
  have hs20 := hc20.size
  (try simp at hs20)
  have ho4'''''''''''''''' := Own.below ho4''''''''''''''' hc20
  have hm13''''''' := Own.below hm13'''''' hc20
  have hm14'''''' := OwnR.below hm14''''' hc20
  have hm16'''' := Own.below hm16''' hc20
  have ho19' := Own.below ho19 hc20
  go_wp2_with fail
  refine (heldInt64S_any B7 d7 _ 1 _ _ (Own.rd hm16'''') (by omega) (by omega)).mono ?_
  rintro e wx ⟨rfl, rfl⟩
  go_wp2_with fail
  go_ret
  exact ⟨rfl, hb20⟩
end Go.Proofs.Ytofcmljnckdknaa
