/-
  FnExactBestMoves returns true for every argument: the walk.
-/
import Derived.Test.YtiefiikheaiekaaDoorMovesImp
import Derived.Test.YtiefiikheaiekaaDoorFlatMove
import Derived.Test.YtiefiikheaiekaaDoorOpen
import Derived.Test.YtiefiikheaiekaaDoorOpenSS
import Derived.Deep.RegionHeld3
namespace Go.Proofs.YtiefiikheaiekaaDoor
open Go.ChangeShapes Go.WideShapes Go.RowKit

set_option maxRecDepth 100000 in
set_option maxHeartbeats 3200000 in
theorem lawBestMoves_any (A0 : Option Addr) (c0 : Nat) (r0 : List (Row Int)) (A1 : Option Addr) (c1 : Nat) (x1 : List Int) (w : World) (hr0 : RdR LI w w.heap.size A0 c0 r0) (_hi0 : ∀ r ∈ r0, ∀ n ∈ r.2.2, I64 n) (hr1 : Rd LI w w.heap.size A1 c1 x1) (_hi1 : ∀ n ∈ x1, I64 n) (_hT : TabW w) :
    Calls Tryd.prog 4 #[.slice A0 r0.length c0, .slice A1 x1.length c1] w fun e w' => e = .returned (.bool true) ∧ Below w.heap.size w w' := by
  have hlen0 := hr0.len63
  have hlen1 := hr1.len63
  by_cases hz0 : x1.length ≤ 1048576
  rotate_left
  · skip
    go_enter Tryd.func4, Tryd.ntmps4
    go_wp2_with fail
    go_ret
    exact ⟨rfl, (Below.refl w.heap.size w)⟩
  by_cases hz1 : 0 ≤ (szRR 1048576 r0)
  rotate_left
  · skip
    have hneg : (szRR 1048576 r0) < 0 := by omega
    go_enter Tryd.func4, Tryd.ntmps4
    go_wp2_with fail
    refine (szInt64SS_any A0 c0 r0 _ _ _ (hr0.below (Below.refl w.heap.size w)) (by omega) (by omega)).mono ?_
    rintro e wx ⟨rfl, rfl⟩
    go_wp2_with fail
    go_ret
    exact ⟨rfl, (Below.refl w.heap.size w)⟩
  have hq0 : r0.length ≤ 1048576 ∧ ∀ r ∈ r0, r.2.2.length ≤ 1048576 := by
    have := szRR_yes (by omega) hz1
    exact ⟨by omega, fun r hr => by have := this.2 r hr; omega⟩
  have hu1c := szRR_le (by omega) hz1
  go_enter Tryd.func4, Tryd.ntmps4
  go_wp2_with fail
  refine (szInt64SS_any A0 c0 r0 _ _ _ (hr0.below (Below.refl w.heap.size w)) (by omega) (by omega)).mono ?_
  rintro e wx ⟨rfl, rfl⟩
  go_wp2_with fail
  refine (toInt64SS_any A0 c0 r0 _ ((hr0.below (Below.refl w.heap.size w)).more (Below.refl w.heap.size w).size) hq0.1 hq0.2).mono ?_
  rintro e w1 ⟨B1, d1, s1, rfl, ho1, he1, hc1⟩
  have hl1 := ho1.blk_lt
  have hb1 := bthen (Below.refl w.heap.size w) (Nat.le_refl _) hc1
  have hs1 := hc1.size
  (try simp at hs1)
  go_wp2_with fail
  refine (toInt64S_any A1 c1 x1 _ ((hr1.below hb1).more hb1.size) (by omega)).mono ?_
  rintro e w2 ⟨B2, d2, rfl, ho2, hc2⟩
  have hl2 := ho2.blk_lt
  have hb2 := bthen hb1 (Nat.le_refl _) hc2
  have hs2 := hc2.size
  (try simp at hs2)
  have ho1' := OwnR.below ho1 hc2
  go_wp2_with fail
  have hf3 := specBestMoves_any B1 d1 s1 B2 d2 x1 _ (OwnR.rd ho1') (Own.rd ho2) (tl_of (by assumption) rfl hz1) (nil_of (by assumption)) (by first | exact tab_below _hT (by assumption) (Nat.le_refl _) | exact tab_al (tab_below _hT (by assumption) (Nat.le_refl _)) _ | exact tab_drew (tab_below _hT (by assumption) (Nat.le_refl _)) | exact tab_drew (tab_al (tab_below _hT (by assumption) (Nat.le_refl _)) _))
  rw [he1] at hf3
  refine hf3.mono ?_
  rintro e w3 ⟨B3, d3, rfl, ho3, hc3⟩
  clear hf3
  have hl3 := ho3.blk_lt
  have hn3 := bmP_len (dat r0) x1
  have hb3 := bthen hb2 (Nat.le_refl _) hc3
  have hs3 := hc3.size
  (try simp at hs3)
  have ho1'' := OwnR.below ho1' hc3
  have ho2' := Own.below ho2 hc3
  clear ho1''
  clear ho2'
  go_wp2_with fail
  refine (toInt64SS_any A0 c0 r0 _ ((hr0.below hb3).more hb3.size) hq0.1 hq0.2).mono ?_
  rintro e w4 ⟨B4, d4, s4, rfl, ho4, he4, hc4⟩
  have hl4 := ho4.blk_lt
  have hb4 := bthen hb3 (Nat.le_refl _) hc4
  have hs4 := hc4.size
  (try simp at hs4)
  have ho3' := Own.below ho3 hc4
  go_wp2_with fail
  refine (toInt64S_any A1 c1 x1 _ ((hr1.below hb4).more hb4.size) (by omega)).mono ?_
  rintro e w5 ⟨B5, d5, rfl, ho5, hc5⟩
  have hl5 := ho5.blk_lt
  have hb5 := bthen hb4 (Nat.le_refl _) hc5
  have hs5 := hc5.size
  (try simp at hs5)
  have ho3'' := Own.below ho3' hc5
  have ho4' := OwnR.below ho4 hc5
  go_wp2_with fail
  have hf6 := implBestMoves_any B4 d4 s4 B5 d5 x1 _ (OwnR.rd ho4') (Own.rd ho5) (tl_of (by assumption) rfl hz1) (nil_of (by assumption)) (by first | exact tab_below _hT (by assumption) (Nat.le_refl _) | exact tab_al (tab_below _hT (by assumption) (Nat.le_refl _)) _ | exact tab_drew (tab_below _hT (by assumption) (Nat.le_refl _)) | exact tab_drew (tab_al (tab_below _hT (by assumption) (Nat.le_refl _)) _))
  rw [he4] at hf6
  refine hf6.mono ?_
  rintro e w6 ⟨B6, d6, rfl, ho6, hc6⟩
  clear hf6
  have hl6 := ho6.blk_lt
  have hn6 := bmP_len (dat r0) x1
  have hb6 := bthen hb5 (Nat.le_refl _) hc6
  have hs6 := hc6.size
  (try simp at hs6)
  have ho3''' := Own.below ho3'' hc6
  have ho4'' := OwnR.below ho4' hc6
  have ho5' := Own.below ho5 hc6
  go_wp2_with fail
  refine (eqMoveS_same B6 d6 B3 d3 _ _ (Own.rd ho6) (Own.rd ho3''')).mono ?_
  rintro e w7 ⟨rfl, hc7⟩
  have hb7 := bthen hb6 (Nat.le_refl _) hc7
  have hs7 := hc7.size
  (try simp at hs7)
  have ho3'''' := Own.below ho3''' hc7
  have ho4''' := OwnR.below ho4'' hc7
  have ho5'' := Own.below ho5' hc7
  have ho6' := Own.below ho6 hc7
  go_wp2_with fail
  refine (toInt64SS_any A0 c0 r0 _ ((hr0.below hb7).more hb7.size) hq0.1 hq0.2).mono ?_
  rintro e w8 ⟨B8, d8, s8, rfl, ho8, he8, hc8⟩
  have hl8 := ho8.blk_lt
  have hb8 := bthen hb7 (Nat.le_refl _) hc8
  have hs8 := hc8.size
  (try simp at hs8)
  have ho3''''' := Own.below ho3'''' hc8
  have ho4'''' := OwnR.below ho4''' hc8
  have ho5''' := Own.below ho5'' hc8
  have ho6'' := Own.below ho6' hc8
  go_wp2_with fail
  refine (eqInt64SS_same B4 d4 s4 B8 d8 s8 _ (OwnR.rd ho4'''') (OwnR.rd ho8) (by rw [he4, he8])).mono ?_
  rintro e w9 ⟨rfl, hc9⟩
  have hb9 := bthen hb8 (Nat.le_refl _) hc9
  have hs9 := hc9.size
  (try simp at hs9)
  have ho3'''''' := Own.below ho3''''' hc9
  have ho4''''' := OwnR.below ho4'''' hc9
  have ho5'''' := Own.below ho5''' hc9
  have ho6''' := Own.below ho6'' hc9
  have ho8' := OwnR.below ho8 hc9
  clear ho8'
  go_wp2_with fail
  refine (toInt64S_any A1 c1 x1 _ ((hr1.below hb9).more hb9.size) (by omega)).mono ?_
  rintro e w10 ⟨B10, d10, rfl, ho10, hc10⟩
  have hl10 := ho10.blk_lt
  have hb10 := bthen hb9 (Nat.le_refl _) hc10
  have hs10 := hc10.size
  (try simp at hs10)
  have ho3''''''' := Own.below ho3'''''' hc10
  have ho4'''''' := OwnR.below ho4''''' hc10
  have ho5''''' := Own.below ho5'''' hc10
  have ho6'''' := Own.below ho6''' hc10
  go_wp2_with fail
  refine (eqInt64S_same B5 d5 B10 d10 _ _ (Own.rd ho5''''') (Own.rd ho10)).mono ?_
  rintro e w11 ⟨rfl, hc11⟩
  have hb11 := bthen hb10 (Nat.le_refl _) hc11
  have hs11 := hc11.size
  (try simp at hs11)
  have ho3'''''''' := Own.below ho3''''''' hc11
  have ho4''''''' := OwnR.below ho4'''''' hc11
  have ho5'''''' := Own.below ho5''''' hc11
  have ho6''''' := Own.below ho6'''' hc11
  have ho10' := Own.below ho10 hc11
  clear ho10'
  go_wp2_with fail
  have hn4 : tl s4 ≤ 1048576 * 1048576 := by rw [tl_dat, he4, ← tl_dat]; exact tl_bd hq0.2 hq0.1
  refine (markInt64SS_any B4 d4 s4 _ _ _ ho4''''''' (by omega) (by omega)).mono ?_
  rintro e w12 ⟨rfl, hm12, hk12⟩
  have hb12 := hk12.below hb11 hb11.size (fun b hb => by obtain ⟨r, hr, hg2⟩ := hb; have h1 := hl4.2 r hr _ hg2; omega)
  have hs12 := hk12.size
  have ho3''''''''' := hk12.own ho3'''''''' (fun g hg hS => by have h2 := hl3 g hg; obtain ⟨r, hr, hg2⟩ := hS; have h1 := hl4.2 r hr _ hg2; (first | omega | (simp at h2; omega)))
  have ho5''''''' := hk12.own ho5'''''' (fun g hg hS => by have h2 := hl5 g hg; obtain ⟨r, hr, hg2⟩ := hS; have h1 := hl4.2 r hr _ hg2; (first | omega | (simp at h2; omega)))
  have ho6'''''' := hk12.own ho6''''' (fun g hg hS => by have h2 := hl6 g hg; obtain ⟨r, hr, hg2⟩ := hS; have h1 := hl4.2 r hr _ hg2; (first | omega | (simp at h2; omega)))
  go_wp2_with fail
  refine (markInt64S_any B5 d5 _ _ _ _ ho5''''''' (by omega) (by omega)).mono ?_
  rintro e w13 ⟨rfl, hm13, hk13⟩
  have hb13 := hk13.below hb12 hb12.size (fun b hb => by have h1 := hl5 _ hb; omega)
  have hs13 := hk13.size
  have ho3'''''''''' := hk13.own ho3''''''''' (fun g hg hS => by have h2 := hl3 g hg; have h1 := hl5 _ hS; (first | omega | (simp at h2; omega)))
  have hm12' := hk13.ownR hm12 (fun g hg hS => by have h2 := hl4.1 g hg; have h1 := hl5 _ hS; (first | omega | (simp at h2; omega))) (fun q hq g hg hS => by have h2 := (upR_lt hl4.2) q hq g hg; have h1 := hl5 _ hS; (first | omega | (simp at h2; omega)))
  have ho6''''''' := hk13.own ho6'''''' (fun g hg hS => by have h2 := hl6 g hg; have h1 := hl5 _ hS; (first | omega | (simp at h2; omega)))
  go_wp2_with fail
  refine (eqMoveS_same B6 d6 B3 d3 _ _ (Own.rd ho6''''''') (Own.rd ho3'''''''''')).mono ?_
  rintro e w14 ⟨rfl, hc14⟩
  have hb14 := bthen hb13 (Nat.le_refl _) hc14
  have hs14 := hc14.size
  (try simp at hs14)
  have ho3''''''''''' := Own.below ho3'''''''''' hc14
  have hm12'' := OwnR.below hm12' hc14
  have hm13' := Own.below hm13 hc14
  have ho6'''''''' := Own.below ho6''''''' hc14
  go_wp2_with fail
  refine (markMoveS_any B6 d6 _ _ _ _ ho6'''''''' (by omega) (by omega)).mono ?_
  rintro e w15 ⟨rfl, hm15, hk15⟩
  have hb15 := hk15.below hb14 hb14.size (fun b hb => by have h1 := hl6 _ hb; omega)
  have hs15 := hk15.size
  have ho3'''''''''''' := hk15.own ho3''''''''''' (fun g hg hS => by have h2 := hl3 g hg; have h1 := hl6 _ hS; (first | omega | (simp at h2; omega)))
  have hm12''' := hk15.ownR hm12'' (fun g hg hS => by have h2 := hl4.1 g hg; have h1 := hl6 _ hS; (first | omega | (simp at h2; omega))) (fun q hq g hg hS => by have h2 := (upR_lt hl4.2) q hq g hg; have h1 := hl6 _ hS; (first | omega | (simp at h2; omega)))
  have hm13'' := hk15.own hm13' (fun g hg hS => by have h2 := hl5 g hg; have h1 := hl6 _ hS; (first | omega | (simp at h2; omega)))
  go_wp2_with fail
  refine (heldMoveS_any B6 d6 _ 1 _ _ (Own.rd hm15) (by omega) (by omega)).mono ?_
  rintro e wx ⟨rfl, rfl⟩
  go_wp2_with fail
  refine (toInt64SS_any A0 c0 r0 _ ((hr0.below hb15).more hb15.size) hq0.1 hq0.2).mono ?_
  rintro e w16 ⟨B16, d16, s16, rfl, ho16, he16, hc16⟩
  have hl16 := ho16.blk_lt
  have hb16 := bthen hb15 (Nat.le_refl _) hc16
  have hs16 := hc16.size
  (try simp at hs16)
  have ho3''''''''''''' := Own.below ho3'''''''''''' hc16
  have hm12'''' := OwnR.below hm12''' hc16
  have hm13''' := Own.below hm13'' hc16
  have hm15' := Own.below hm15 hc16
  go_wp2_with fail
  refine (toInt64S_any A1 c1 x1 _ ((hr1.below hb16).more hb16.size) (by omega)).mono ?_
  rintro e w17 ⟨B17, d17, rfl, ho17, hc17⟩
  have hl17 := ho17.blk_lt
  have hb17 := bthen hb16 (Nat.le_refl _) hc17
  have hs17 := hc17.size
  (try simp at hs17)
  have ho3'''''''''''''' := Own.below ho3''''''''''''' hc17
  have hm12''''' := OwnR.below hm12'''' hc17
  have hm13'''' := Own.below hm13''' hc17
  have hm15'' := Own.below hm15' hc17
  have ho16' := OwnR.below ho16 hc17
  go_wp2_with fail
  have hf18 := implBestMoves_any B16 d16 s16 B17 d17 x1 _ (OwnR.rd ho16') (Own.rd ho17) (tl_of (by assumption) rfl hz1) (nil_of (by assumption)) (by first | exact tab_below _hT (by assumption) (Nat.le_refl _) | exact tab_al (tab_below _hT (by assumption) (Nat.le_refl _)) _ | exact tab_drew (tab_below _hT (by assumption) (Nat.le_refl _)) | exact tab_drew (tab_al (tab_below _hT (by assumption) (Nat.le_refl _)) _))
  rw [he16] at hf18
  refine hf18.mono ?_
  rintro e w18 ⟨B18, d18, rfl, ho18, hc18⟩
  clear hf18
  have hl18 := ho18.blk_lt
  have hn18 := bmP_len (dat r0) x1
  have hb18 := bthen hb17 (Nat.le_refl _) hc18
  have hs18 := hc18.size
  (try simp at hs18)
  have ho3''''''''''''''' := Own.below ho3'''''''''''''' hc18
  have hm12'''''' := OwnR.below hm12''''' hc18
  have hm13''''' := Own.below hm13'''' hc18
  have hm15''' := Own.below hm15'' hc18
  have ho16'' := OwnR.below ho16' hc18
  have ho17' := Own.below ho17 hc18
  clear ho16''
  clear ho17'
  go_wp2_with fail
  refine (eqMoveS_same B18 d18 B3 d3 _ _ (Own.rd ho18) (Own.rd ho3''''''''''''''')).mono ?_
  rintro e w19 ⟨rfl, hc19⟩
  have hb19 := bthen hb18 (Nat.le_refl _) hc19
  have hs19 := hc19.size
  (try simp at hs19)
  have ho3'''''''''''''''' := Own.below ho3''''''''''''''' hc19
  have hm12''''''' := OwnR.below hm12'''''' hc19
  have hm13'''''' := Own.below hm13''''' hc19
  have hm15'''' := Own.below hm15''' hc19
  have ho18' := Own.below ho18 hc19
  go_wp2_with fail
  refine (heldMoveS_any B6 d6 _ 1 _ _ (Own.rd hm15'''') (by omega) (by omega)).mono ?_
  rintro e wx ⟨rfl, rfl⟩
  go_wp2_with fail
  go_ret
  exact ⟨rfl, hb19⟩
end Go.Proofs.YtiefiikheaiekaaDoor
