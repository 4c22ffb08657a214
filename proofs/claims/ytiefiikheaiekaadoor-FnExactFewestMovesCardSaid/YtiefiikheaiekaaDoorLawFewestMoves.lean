/-
  FnExactFewestMoves returns true for every argument: the walk.
-/
import Derived.Test.YtiefiikheaiekaaDoorMovesImp
import Derived.Test.YtiefiikheaiekaaDoorOpen
import Derived.Test.YtiefiikheaiekaaDoorOpenSS
import Derived.Deep.RegionHeld3
namespace Go.Proofs.YtiefiikheaiekaaDoor
open Go.ChangeShapes Go.WideShapes Go.RowKit

set_option maxRecDepth 100000 in
set_option maxHeartbeats 3200000 in
theorem lawFewestMoves_any (A0 : Option Addr) (c0 : Nat) (r0 : List (Row Int)) (A1 : Option Addr) (c1 : Nat) (x1 : List Int) (w : World) (hr0 : RdR LI w w.heap.size A0 c0 r0) (_hi0 : ∀ r ∈ r0, ∀ n ∈ r.2.2, I64 n) (hr1 : Rd LI w w.heap.size A1 c1 x1) (_hi1 : ∀ n ∈ x1, I64 n) (_hT : TabW w) :
    Calls Tryd.prog 3 #[.slice A0 r0.length c0, .slice A1 x1.length c1] w fun e w' => e = .returned (.bool true) ∧ Below w.heap.size w w' := by
  have hlen0 := hr0.len63
  have hlen1 := hr1.len63
  by_cases hz0 : x1.length ≤ 1048576
  rotate_left
  · skip
    go_enter Tryd.func3, Tryd.ntmps3
    go_wp2_with fail
    go_ret
    exact ⟨rfl, (Below.refl w.heap.size w)⟩
  by_cases hz1 : 0 ≤ (szRR 1048576 r0)
  rotate_left
  · skip
    have hneg : (szRR 1048576 r0) < 0 := by omega
    go_enter Tryd.func3, Tryd.ntmps3
    go_wp2_with fail
    refine (szInt64SS_any A0 c0 r0 _ _ _ (hr0.below (Below.refl w.heap.size w)) (by omega) (by omega)).mono ?_
    rintro e wx ⟨rfl, rfl⟩
    go_wp2_with fail
    go_ret
    exact ⟨rfl, (Below.refl w.heap.size w)⟩
  have hq0 : r0.length ≤ 1048576 ∧ ∀ r ∈ r0, r.2.2.length ≤ 1048576 := by
    have := szRR_yes (by omega) hz1
    exact ⟨by omega, fun r hr => by have := this.2 r hr; omega⟩
  have hu1c := szRR_le (by omega) hz1
  go_enter Tryd.func3, Tryd.ntmps3
  go_wp2_with fail
  refine (szInt64SS_any A0 c0 r0 _ _ _ (hr0.below (Below.refl w.heap.size w)) (by omega) (by omega)).mono ?_
  rintro e wx ⟨rfl, rfl⟩
  go_wp2_with fail
  refine (toInt64SS_any A0 c0 r0 _ ((hr0.below (Below.refl w.heap.size w)).more (Below.refl w.heap.size w).size) hq0.1 hq0.2).mono ?_
  rintro e w1 ⟨B1, d1, s1, rfl, ho1, he1, hc1⟩
  have hl1 := ho1.blk_lt
  have hb1 := bthen (Below.refl w.heap.size w) (Nat.le_refl _) hc1
  have hs1 := hc1.size
  (try simp at hs1)
  go_wp2_with fail
  refine (toInt64S_any A1 c1 x1 _ ((hr1.below hb1).more hb1.size) (by omega)).mono ?_
  rintro e w2 ⟨B2, d2, rfl, ho2, hc2⟩
  have hl2 := ho2.blk_lt
  have hb2 := bthen hb1 (Nat.le_refl _) hc2
  have hs2 := hc2.size
  (try simp at hs2)
  have ho1' := OwnR.below ho1 hc2
  go_wp2_with fail
  have hf3 := specFewestMoves_any B1 d1 s1 B2 d2 x1 _ (OwnR.rd ho1') (Own.rd ho2) (tl_of (by assumption) rfl hz1) (nil_of (by assumption)) (by first | exact tab_below _hT (by assumption) (Nat.le_refl _) | exact tab_al (tab_below _hT (by assumption) (Nat.le_refl _)) _ | exact tab_drew (tab_below _hT (by assumption) (Nat.le_refl _)) | exact tab_drew (tab_al (tab_below _hT (by assumption) (Nat.le_refl _)) _))
  rw [he1] at hf3
  refine hf3.mono ?_
  rintro e w3 ⟨rfl, hc3⟩
  clear hf3
  have hb3 := bthen hb2 (Nat.le_refl _) hc3
  have hs3 := hc3.size
  (try simp at hs3)
  have ho1'' := OwnR.below ho1' hc3
  have ho2' := Own.below ho2 hc3
  clear ho1''
  clear ho2'
  go_wp2_with fail
  refine (toInt64SS_any A0 c0 r0 _ ((hr0.below hb3).more hb3.size) hq0.1 hq0.2).mono ?_
  rintro e w4 ⟨B4, d4, s4, rfl, ho4, he4, hc4⟩
  have hl4 := ho4.blk_lt
  have hb4 := bthen hb3 (Nat.le_refl _) hc4
  have hs4 := hc4.size
  (try simp at hs4)
  go_wp2_with fail
  refine (toInt64S_any A1 c1 x1 _ ((hr1.below hb4).more hb4.size) (by omega)).mono ?_
  rintro e w5 ⟨B5, d5, rfl, ho5, hc5⟩
  have hl5 := ho5.blk_lt
  have hb5 := bthen hb4 (Nat.le_refl _) hc5
  have hs5 := hc5.size
  (try simp at hs5)
  have ho4' := OwnR.below ho4 hc5
  go_wp2_with fail
  have hf6 := implFewestMoves_any B4 d4 s4 B5 d5 x1 _ (OwnR.rd ho4') (Own.rd ho5) (tl_of (by assumption) rfl hz1) (nil_of (by assumption)) (by first | exact tab_below _hT (by assumption) (Nat.le_refl _) | exact tab_al (tab_below _hT (by assumption) (Nat.le_refl _)) _ | exact tab_drew (tab_below _hT (by assumption) (Nat.le_refl _)) | exact tab_drew (tab_al (tab_below _hT (by assumption) (Nat.le_refl _)) _))
  rw [he4] at hf6
  refine hf6.mono ?_
  rintro e w6 ⟨rfl, hc6⟩
  clear hf6
  have hb6 := bthen hb5 (Nat.le_refl _) hc6
  have hs6 := hc6.size
  (try simp at hs6)
  have ho4'' := OwnR.below ho4' hc6
  have ho5' := Own.below ho5 hc6
  go_wp2_with fail
  refine (toInt64SS_any A0 c0 r0 _ ((hr0.below hb6).more hb6.size) hq0.1 hq0.2).mono ?_
  rintro e w7 ⟨B7, d7, s7, rfl, ho7, he7, hc7⟩
  have hl7 := ho7.blk_lt
  have hb7 := bthen hb6 (Nat.le_refl _) hc7
  have hs7 := hc7.size
  (try simp at hs7)
  have ho4''' := OwnR.below ho4'' hc7
  have ho5'' := Own.below ho5' hc7
  go_wp2_with fail
  refine (eqInt64SS_same B4 d4 s4 B7 d7 s7 _ (OwnR.rd ho4''') (OwnR.rd ho7) (by rw [he4, he7])).mono ?_
  rintro e w8 ⟨rfl, hc8⟩
  have hb8 := bthen hb7 (Nat.le_refl _) hc8
  have hs8 := hc8.size
  (try simp at hs8)
  have ho4'''' := OwnR.below ho4''' hc8
  have ho5''' := Own.below ho5'' hc8
  have ho7' := OwnR.below ho7 hc8
  clear ho7'
  go_wp2_with fail
  refine (toInt64S_any A1 c1 x1 _ ((hr1.below hb8).more hb8.size) (by omega)).mono ?_
  rintro e w9 ⟨B9, d9, rfl, ho9, hc9⟩
  have hl9 := ho9.blk_lt
  have hb9 := bthen hb8 (Nat.le_refl _) hc9
  have hs9 := hc9.size
  (try simp at hs9)
  have ho4''''' := OwnR.below ho4'''' hc9
  have ho5'''' := Own.below ho5''' hc9
  go_wp2_with fail
  refine (eqInt64S_same B5 d5 B9 d9 _ _ (Own.rd ho5'''') (Own.rd ho9)).mono ?_
  rintro e w10 ⟨rfl, hc10⟩
  have hb10 := bthen hb9 (Nat.le_refl _) hc10
  have hs10 := hc10.size
  (try simp at hs10)
  have ho4'''''' := OwnR.below ho4''''' hc10
  have ho5''''' := Own.below ho5'''' hc10
  have ho9' := Own.below ho9 hc10
  clear ho9'
  go_wp2_with fail
  go_ret
  exact ⟨rfl, hb10⟩
end Go.Proofs.YtiefiikheaiekaaDoor
