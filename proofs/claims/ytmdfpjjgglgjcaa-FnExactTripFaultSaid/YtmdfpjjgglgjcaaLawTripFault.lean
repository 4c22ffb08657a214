/-
  FnExactTripFault returns true for every argument: the walk.
-/
import Derived.Test.YtmdfpjjgglgjcaaTripFault
import Derived.Test.YtmdfpjjgglgjcaaOpenSS
import Derived.Deep.RegionHeld3
namespace Go.Proofs.Ytmdfpjjgglgjcaa
open Go.ChangeShapes Go.WideShapes Go.RowKit

set_option maxRecDepth 100000 in
set_option maxHeartbeats 3200000 in
theorem lawTripFault_any (A0 : Option Addr) (c0 : Nat) (x0 : List Int) (a1 : Int) (A2 : Option Addr) (c2 : Nat) (r2 : List (Row Int)) (w : World) (hr0 : Rd LI w w.heap.size A0 c0 x0) (_hi0 : ∀ n ∈ x0, I64 n) (_hi1 : I64 a1) (hr2 : RdR LI w w.heap.size A2 c2 r2) (_hi2 : ∀ r ∈ r2, ∀ n ∈ r.2.2, I64 n) :
    Calls Try.prog 8 #[.slice A0 x0.length c0, .int .i64 a1, .slice A2 r2.length c2] w fun e w' => e = .returned (.bool true) ∧ Below w.heap.size w w' := by
  have hlen0 := hr0.len63
  have hlen2 := hr2.len63
  by_cases hz0 : x0.length ≤ 1048576
  rotate_left
  · skip
    go_enter Try.func8, Try.ntmps8
    go_wp2_with fail
    go_ret
    exact ⟨rfl, (Below.refl w.heap.size w)⟩
  by_cases hz1 : 0 ≤ (szRR 1048576 r2)
  rotate_left
  · skip
    have hneg : (szRR 1048576 r2) < 0 := by omega
    go_enter Try.func8, Try.ntmps8
    go_wp2_with fail
    refine (szInt64SS_any A2 c2 r2 _ _ _ ((hr2.below (Below.refl w.heap.size w)).more (Below.refl w.heap.size w).size) (by omega) (by omega)).mono ?_
    rintro e wx ⟨rfl, rfl⟩
    go_wp2_with fail
    go_ret
    exact ⟨rfl, (Below.refl w.heap.size w)⟩
  have hq2 : r2.length ≤ 1048576 ∧ ∀ r ∈ r2, r.2.2.length ≤ 1048576 := by
    have := szRR_yes (by omega) hz1
    exact ⟨by omega, fun r hr => by have := this.2 r hr; omega⟩
  have hu1c := szRR_le (by omega) hz1
  go_enter Try.func8, Try.ntmps8
  go_wp2_with fail
  refine (szInt64SS_any A2 c2 r2 _ _ _ ((hr2.below (Below.refl w.heap.size w)).more (Below.refl w.heap.size w).size) (by omega) (by omega)).mono ?_
  rintro e wx ⟨rfl, rfl⟩
  go_wp2_with fail
  refine (toInt64S_any A0 c0 x0 _ ((hr0.below (Below.refl w.heap.size w)).more (Below.refl w.heap.size w).size) (by omega)).mono ?_
  rintro e w1 ⟨B1, d1, rfl, ho1, hc1⟩
  have hl1 := ho1.blk_lt
  have hb1 := bthen (Below.refl w.heap.size w) (Nat.le_refl _) hc1
  have hs1 := hc1.size
  (try simp at hs1)
  go_wp2_with fail
  refine (toInt64SS_any A2 c2 r2 _ ((hr2.below hb1).more hb1.size) hq2.1 hq2.2).mono ?_
  rintro e w2 ⟨B2, d2, s2, rfl, ho2, he2, hc2⟩
  have hl2 := ho2.blk_lt
  have hb2 := bthen hb1 (Nat.le_refl _) hc2
  have hs2 := hc2.size
  (try simp at hs2)
  have ho1' := Own.below ho1 hc2
  go_wp2_with fail
  have hf3 := specTripFault_any B1 d1 x0 a1 B2 d2 s2 _ (Own.rd ho1') (OwnR.rd ho2)
  rw [he2] at hf3
  refine hf3.mono ?_
  rintro e w3 ⟨rfl, hc3⟩
  clear hf3
  have hb3 := bthen hb2 (Nat.le_refl _) hc3
  have hs3 := hc3.size
  (try simp at hs3)
  have ho1'' := Own.below ho1' hc3
  have ho2' := OwnR.below ho2 hc3
  clear ho1''
  clear ho2'
  go_wp2_with fail
  refine (toInt64S_any A0 c0 x0 _ ((hr0.below hb3).more hb3.size) (by omega)).mono ?_
  rintro e w4 ⟨B4, d4, rfl, ho4, hc4⟩
  have hl4 := ho4.blk_lt
  have hb4 := bthen hb3 (Nat.le_refl _) hc4
  have hs4 := hc4.size
  (try simp at hs4)
  go_wp2_with fail
  refine (toInt64SS_any A2 c2 r2 _ ((hr2.below hb4).more hb4.size) hq2.1 hq2.2).mono ?_
  rintro e w5 ⟨B5, d5, s5, rfl, ho5, he5, hc5⟩
  have hl5 := ho5.blk_lt
  have hb5 := bthen hb4 (Nat.le_refl _) hc5
  have hs5 := hc5.size
  (try simp at hs5)
  have ho4' := Own.below ho4 hc5
  go_wp2_with fail
  have hf6 := implTripFault_any B4 d4 x0 a1 B5 d5 s5 _ (Own.rd ho4') (OwnR.rd ho5)
  rw [he5] at hf6
  refine hf6.mono ?_
  rintro e w6 ⟨rfl, hc6⟩
  clear hf6
  have hb6 := bthen hb5 (Nat.le_refl _) hc6
  have hs6 := hc6.size
  (try simp at hs6)
  have ho4'' := Own.below ho4' hc6
  have ho5' := OwnR.below ho5 hc6
  go_wp2_with fail
  refine (toInt64S_any A0 c0 x0 _ ((hr0.below hb6).more hb6.size) (by omega)).mono ?_
  rintro e w7 ⟨B7, d7, rfl, ho7, hc7⟩
  have hl7 := ho7.blk_lt
  have hb7 := bthen hb6 (Nat.le_refl _) hc7
  have hs7 := hc7.size
  (try simp at hs7)
  have ho4''' := Own.below ho4'' hc7
  have ho5'' := OwnR.below ho5' hc7
  go_wp2_with fail
  refine (eqInt64S_same B4 d4 B7 d7 _ _ (Own.rd ho4''') (Own.rd ho7)).mono ?_
  rintro e w8 ⟨rfl, hc8⟩
  have hb8 := bthen hb7 (Nat.le_refl _) hc8
  have hs8 := hc8.size
  (try simp at hs8)
  have ho4'''' := Own.below ho4''' hc8
  have ho5''' := OwnR.below ho5'' hc8
  have ho7' := Own.below ho7 hc8
  clear ho7'
  go_wp2_with fail
  refine (toInt64SS_any A2 c2 r2 _ ((hr2.below hb8).more hb8.size) hq2.1 hq2.2).mono ?_
  rintro e w9 ⟨B9, d9, s9, rfl, ho9, he9, hc9⟩
  have hl9 := ho9.blk_lt
  have hb9 := bthen hb8 (Nat.le_refl _) hc9
  have hs9 := hc9.size
  (try simp at hs9)
  have ho4''''' := Own.below ho4'''' hc9
  have ho5'''' := OwnR.below ho5''' hc9
  go_wp2_with fail
  refine (eqInt64SS_same B5 d5 s5 B9 d9 s9 _ (OwnR.rd ho5'''') (OwnR.rd ho9) (by rw [he5, he9])).mono ?_
  rintro e w10 ⟨rfl, hc10⟩
  have hb10 := bthen hb9 (Nat.le_refl _) hc10
  have hs10 := hc10.size
  (try simp at hs10)
  have ho4'''''' := Own.below ho4''''' hc10
  have ho5''''' := OwnR.below ho5'''' hc10
  have ho9' := OwnR.below ho9 hc10
  clear ho9'
  go_wp2_with fail
  go_ret
  exact ⟨rfl, hb10⟩
end Go.Proofs.Ytmdfpjjgglgjcaa
