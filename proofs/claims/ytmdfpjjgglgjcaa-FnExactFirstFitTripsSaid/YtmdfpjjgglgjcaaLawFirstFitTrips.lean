/-
  FnExactFirstFitTrips returns true for every argument: the walk.
-/
import Derived.Test.YtmdfpjjgglgjcaaFirstFit
import Derived.Test.YtmdfpjjgglgjcaaOpen
namespace Go.Proofs.Ytmdfpjjgglgjcaa
open Go.ChangeShapes Go.WideShapes Go.RowKit

set_option maxRecDepth 100000 in
set_option maxHeartbeats 1600000 in
theorem lawFirstFitTrips_any (A0 : Option Addr) (c0 : Nat) (x0 : List Int) (a1 : Int) (w : World) (hr0 : Rd LI w w.heap.size A0 c0 x0) (_hi0 : ∀ n ∈ x0, I64 n) (_hi1 : I64 a1) :
    Calls Try.prog 5 #[.slice A0 x0.length c0, .int .i64 a1] w fun e w' => e = .returned (.bool true) ∧ Below w.heap.size w w' := by
  have hlen0 := hr0.len63
  by_cases hn00 : x0.length ≤ 1048576
  rotate_left
  · go_enter Try.func5, Try.ntmps5
    go_wp2_with fail
    go_ret
    exact ⟨rfl, Below.refl _ _⟩
  have hb0 := Below.refl w.heap.size w
  go_enter Try.func5, Try.ntmps5
  go_wp2_with fail
  refine (toInt64S_any A0 c0 x0 _ ((hr0.below hb0).more hb0.size) (by omega)).mono ?_
  rintro e w1 ⟨B1, d1, rfl, ho1, hc1⟩
  have hl1 := ho1.blk_lt
  have hb1 := bthen hb0 (Nat.le_refl _) hc1
  have hs1 := hc1.size
  go_wp2_with fail
  have hf2 := specFirstFitTrips_any B1 d1 x0 a1 w1 ho1.rd
  refine hf2.mono ?_
  rintro e w2 ⟨B2, d2, rfl, ho2, hc2⟩
  clear hf2
  have hl2 := ho2.blk_lt
  have hn2 := ffP_len x0 a1
  have hb2 := bthen hb1 (Nat.le_refl _) hc2
  have hs2 := hc2.size
  have ho1' := ho1.below hc2
  go_wp2_with fail
  refine (toInt64S_any A0 c0 x0 _ ((hr0.below hb2).more hb2.size) (by omega)).mono ?_
  rintro e w3 ⟨B3, d3, rfl, ho3, hc3⟩
  have hl3 := ho3.blk_lt
  have hb3 := bthen hb2 (Nat.le_refl _) hc3
  have hs3 := hc3.size
  have ho1'' := ho1'.below hc3
  have ho2' := ho2.below hc3
  go_wp2_with fail
  have hf4 := implFirstFitTrips_any B3 d3 x0 a1 w3 ho3.rd
  refine hf4.mono ?_
  rintro e w4 ⟨B4, d4, rfl, ho4, hc4⟩
  clear hf4
  have hl4 := ho4.blk_lt
  have hn4 := ffP_len x0 a1
  have hb4 := bthen hb3 (Nat.le_refl _) hc4
  have hs4 := hc4.size
  have ho1''' := ho1''.below hc4
  have ho2'' := ho2'.below hc4
  have ho3' := ho3.below hc4
  go_wp2_with fail
  refine (eqInt64S_any B4 B2 d4 d2 _ _ _ _ (Nat.le_refl _) ho4.rd ho2''.rd).mono ?_
  rintro e w5 ⟨rfl, hc5⟩
  have hb5 := bthen hb4 (Nat.le_refl _) hc5
  have hs5 := hc5.size
  have ho1'''' := ho1'''.below hc5
  have ho2''' := ho2''.below hc5
  have ho3'' := ho3'.below hc5
  have ho4' := ho4.below hc5
  rw [eqB_self]
  go_wp2_with fail
  refine (toInt64S_any A0 c0 x0 _ ((hr0.below hb5).more hb5.size) (by omega)).mono ?_
  rintro e w6 ⟨B6, d6, rfl, ho6, hc6⟩
  have hl6 := ho6.blk_lt
  have hb6 := bthen hb5 (Nat.le_refl _) hc6
  have hs6 := hc6.size
  have ho1''''' := ho1''''.below hc6
  have ho2'''' := ho2'''.below hc6
  have ho3''' := ho3''.below hc6
  have ho4'' := ho4'.below hc6
  go_wp2_with fail
  refine (eqInt64S_any B3 B6 d3 d6 _ _ _ _ (Nat.le_refl _) ho3'''.rd ho6.rd).mono ?_
  rintro e w7 ⟨rfl, hc7⟩
  have hb7 := bthen hb6 (Nat.le_refl _) hc7
  have hs7 := hc7.size
  have ho1'''''' := ho1'''''.below hc7
  have ho2''''' := ho2''''.below hc7
  have ho3'''' := ho3'''.below hc7
  have ho4''' := ho4''.below hc7
  have ho6' := ho6.below hc7
  rw [eqB_self]
  go_wp2_with fail
  refine (markInt64S_any B3 d3 _ _ _ _ ho3'''' (by omega) (by omega)).mono ?_
  rintro e w8 ⟨rfl, hm8, hk8⟩
  have hb8 := hk8.below hb7 hb7.size (fun b hb => by have := hl3 b hb; omega)
  have hs8 := hk8.size
  have ho1''''''' := hk8.own ho1'''''' (fun g hg hS => by have h1 := hl3 g hS; have h2 := hl1 g hg; omega)
  have ho2'''''' := hk8.own ho2''''' (fun g hg hS => by have h1 := hl3 g hS; have h2 := hl2 g hg; omega)
  have ho4'''' := hk8.own ho4''' (fun g hg hS => by have h1 := hl3 g hS; have h2 := hl4 g hg; omega)
  have ho6'' := hk8.own ho6' (fun g hg hS => by have h1 := hl3 g hS; have h2 := hl6 g hg; omega)
  go_wp2_with fail
  refine (eqInt64S_any B4 B2 d4 d2 _ _ _ _ (Nat.le_refl _) ho4''''.rd ho2''''''.rd).mono ?_
  rintro e w9 ⟨rfl, hc9⟩
  have hb9 := bthen hb8 (Nat.le_refl _) hc9
  have hs9 := hc9.size
  have ho1'''''''' := ho1'''''''.below hc9
  have ho2''''''' := ho2''''''.below hc9
  have hm8' := hm8.below hc9
  have ho4''''' := ho4''''.below hc9
  have ho6''' := ho6''.below hc9
  rw [eqB_self]
  go_wp2_with fail
  refine (markInt64S_any B4 d4 _ _ _ _ ho4''''' (by omega) (by omega)).mono ?_
  rintro e w10 ⟨rfl, hm10, hk10⟩
  have hb10 := hk10.below hb9 hb9.size (fun b hb => by have := hl4 b hb; omega)
  have hs10 := hk10.size
  have ho1''''''''' := hk10.own ho1'''''''' (fun g hg hS => by have h1 := hl4 g hS; have h2 := hl1 g hg; omega)
  have ho2'''''''' := hk10.own ho2''''''' (fun g hg hS => by have h1 := hl4 g hS; have h2 := hl2 g hg; omega)
  have hm8'' := hk10.own hm8' (fun g hg hS => by have h1 := hl4 g hS; have h2 := hl3 g hg; omega)
  have ho6'''' := hk10.own ho6''' (fun g hg hS => by have h1 := hl4 g hS; have h2 := hl6 g hg; omega)
  go_wp2_with fail
  refine (heldInt64S_any B4 d4 _ 1 _ _ hm10.rd (by omega) (by omega)).mono ?_
  rintro e wx ⟨rfl, rfl⟩
  go_wp2_with fail
  refine (toInt64S_any A0 c0 x0 _ ((hr0.below hb10).more hb10.size) (by omega)).mono ?_
  rintro e w11 ⟨B11, d11, rfl, ho11, hc11⟩
  have hl11 := ho11.blk_lt
  have hb11 := bthen hb10 (Nat.le_refl _) hc11
  have hs11 := hc11.size
  have ho1'''''''''' := ho1'''''''''.below hc11
  have ho2''''''''' := ho2''''''''.below hc11
  have hm8''' := hm8''.below hc11
  have hm10' := hm10.below hc11
  have ho6''''' := ho6''''.below hc11
  go_wp2_with fail
  have hf12 := implFirstFitTrips_any B11 d11 x0 a1 w11 ho11.rd
  refine hf12.mono ?_
  rintro e w12 ⟨B12, d12, rfl, ho12, hc12⟩
  clear hf12
  have hl12 := ho12.blk_lt
  have hn12 := ffP_len x0 a1
  have hb12 := bthen hb11 (Nat.le_refl _) hc12
  have hs12 := hc12.size
  have ho1''''''''''' := ho1''''''''''.below hc12
  have ho2'''''''''' := ho2'''''''''.below hc12
  have hm8'''' := hm8'''.below hc12
  have hm10'' := hm10'.below hc12
  have ho6'''''' := ho6'''''.below hc12
  have ho11' := ho11.below hc12
  go_wp2_with fail
  refine (eqInt64S_any B12 B2 d12 d2 _ _ _ _ (Nat.le_refl _) ho12.rd ho2''''''''''.rd).mono ?_
  rintro e w13 ⟨rfl, hc13⟩
  have hb13 := bthen hb12 (Nat.le_refl _) hc13
  have hs13 := hc13.size
  have ho1'''''''''''' := ho1'''''''''''.below hc13
  have ho2''''''''''' := ho2''''''''''.below hc13
  have hm8''''' := hm8''''.below hc13
  have hm10''' := hm10''.below hc13
  have ho6''''''' := ho6''''''.below hc13
  have ho11'' := ho11'.below hc13
  have ho12' := ho12.below hc13
  rw [eqB_self]
  go_wp2_with fail
  refine (heldInt64S_any B4 d4 _ 1 _ _ hm10'''.rd (by omega) (by omega)).mono ?_
  rintro e wx ⟨rfl, rfl⟩
  go_wp2_with fail
  go_ret
  exact ⟨rfl, hb13⟩
end Go.Proofs.Ytmdfpjjgglgjcaa
