/-
  FnExactScaffoldText returns true for every argument: the walk.
-/
import Derived.Test.YtgoboklahocfhaaDoorScafX
import Derived.Test.YtgoboklahocfhaaDoorScafLaw
import Derived.Test.YtgoboklahocfhaaDoorOpen
import Derived.Test.YtgoboklahocfhaaDoorOpenSc
import Derived.Deep.RegionHeld3
namespace Go.Proofs.YtgoboklahocfhaaDoor
open Go.ChangeShapes Go.WideShapes Go.RowKit

set_option maxRecDepth 100000 in
set_option maxHeartbeats 3200000 in
theorem lawScaffoldText_any (A0b : Option Addr) (c0b : Nat) (x0b : List Int) (A0t : Option Addr) (c0t : Nat) (x0t : List Int) (n0 : Int) (w : World) (hr0b : Rd LI w w.heap.size A0b c0b x0b) (hr0t : Rd LI w w.heap.size A0t c0t x0t) (_hi0 : (∀ n ∈ x0b, I64 n) ∧ (∀ n ∈ x0t, I64 n) ∧ I64 n0) (_hT : TabW w) :
    Calls Tryd.prog 5 #[.agg #[.slice A0b x0b.length c0b, .slice A0t x0t.length c0t, .int .i64 n0]] w fun e w' => e = .returned (.bool true) ∧ Below w.heap.size w w' := by
  have hlen0b := hr0b.len63
  have hlen0t := hr0t.len63
  by_cases hz0 : 0 ≤ (szSc 1048576 x0b x0t)
  rotate_left
  · skip
    have hneg : (szSc 1048576 x0b x0t) < 0 := by omega
    go_enter Tryd.func5, Tryd.ntmps5
    go_wp2_with fail
    refine (szScaffold_any A0b c0b x0b A0t c0t x0t n0 1048576 _ hlen0b hlen0t (by omega) (by omega)).mono ?_
    rintro e w1 ⟨rfl, hc1⟩
    have hb1 := bthen ((Below.refl w.heap.size w).alloc (Nat.le_refl _) _) (Nat.le_refl _) hc1
    have hs1 := hc1.size
    (try simp at hs1)
    have hx1_0 := bthen (Below.refl (w.alloc (.cells #[.slice A0b x0b.length c0b, .slice A0t x0t.length c0t, .int .i64 n0] 38)).heap.size (w.alloc (.cells #[.slice A0b x0b.length c0b, .slice A0t x0t.length c0t, .int .i64 n0] 38))) (Nat.le_refl _) hc1
    have hy1_0 := hx1_0.size
    (try simp at hy1_0)
    have k1_0_0 : w1.cell? ⟨w.heap.size, 0, none⟩ = some (.slice A0b x0b.length c0b) := by rw [hx1_0.cell (by simp <;> omega)]; try go_simp
    have k1_0_1 : w1.cell? ⟨w.heap.size, 1, none⟩ = some (.slice A0t x0t.length c0t) := by rw [hx1_0.cell (by simp <;> omega)]; try go_simp
    have k1_0_2 : w1.cell? ⟨w.heap.size, 2, none⟩ = some (.int .i64 n0) := by rw [hx1_0.cell (by simp <;> omega)]; try go_simp
    have kl1_0 : w.heap.size < w1.heap.size := by omega
    go_wp2_with fail
    go_ret
    exact ⟨rfl, hb1⟩
  obtain ⟨hu0a, hu0b, hu0c⟩ := szSc_yes (by omega) hz0
  go_enter Tryd.func5, Tryd.ntmps5
  go_wp2_with fail
  refine (szScaffold_any A0b c0b x0b A0t c0t x0t n0 1048576 _ hlen0b hlen0t (by omega) (by omega)).mono ?_
  rintro e w1 ⟨rfl, hc1⟩
  have hb1 := bthen ((Below.refl w.heap.size w).alloc (Nat.le_refl _) _) (Nat.le_refl _) hc1
  have hs1 := hc1.size
  (try simp at hs1)
  have hx1_0 := bthen (Below.refl (w.alloc (.cells #[.slice A0b x0b.length c0b, .slice A0t x0t.length c0t, .int .i64 n0] 38)).heap.size (w.alloc (.cells #[.slice A0b x0b.length c0b, .slice A0t x0t.length c0t, .int .i64 n0] 38))) (Nat.le_refl _) hc1
  have hy1_0 := hx1_0.size
  (try simp at hy1_0)
  have k1_0_0 : w1.cell? ⟨w.heap.size, 0, none⟩ = some (.slice A0b x0b.length c0b) := by rw [hx1_0.cell (by simp <;> omega)]; try go_simp
  have k1_0_1 : w1.cell? ⟨w.heap.size, 1, none⟩ = some (.slice A0t x0t.length c0t) := by rw [hx1_0.cell (by simp <;> omega)]; try go_simp
  have k1_0_2 : w1.cell? ⟨w.heap.size, 2, none⟩ = some (.int .i64 n0) := by rw [hx1_0.cell (by simp <;> omega)]; try go_simp
  have kl1_0 : w.heap.size < w1.heap.size := by omega
  go_wp2_with fail
  refine (toScaffold_any A0b c0b x0b A0t c0t x0t n0 _ ((hr0b.below hb1).more hb1.size) ((hr0t.below hb1).more hb1.size) (by omega) (by omega)).mono ?_
  rintro e w2 ⟨B2b, d2b, B2t, d2t, rfl, ho2b, ho2t, hap2, hc2⟩
  have hl2b := ho2b.blk_lt
  have hl2t := ho2t.blk_lt
  (try simp at hl2b)
  (try simp at hl2t)
  have hb2 := bthen hb1 (Nat.le_refl _) hc2
  have hs2 := hc2.size
  (try simp at hs2)
  have hx2_0 := bthen hx1_0 (Nat.le_refl _) hc2
  have hy2_0 := hx2_0.size
  (try simp at hy2_0)
  clear k1_0_0 k1_0_1 k1_0_2 kl1_0
  have k2_0_0 : w2.cell? ⟨w.heap.size, 0, none⟩ = some (.slice A0b x0b.length c0b) := by rw [hx2_0.cell (by simp <;> omega)]; try go_simp
  have k2_0_1 : w2.cell? ⟨w.heap.size, 1, none⟩ = some (.slice A0t x0t.length c0t) := by rw [hx2_0.cell (by simp <;> omega)]; try go_simp
  have k2_0_2 : w2.cell? ⟨w.heap.size, 2, none⟩ = some (.int .i64 n0) := by rw [hx2_0.cell (by simp <;> omega)]; try go_simp
  have kl2_0 : w.heap.size < w2.heap.size := by omega
  go_wp2_with fail
  refine (specScaffoldText_any B2b d2b x0b B2t d2t x0t n0 _ (Own.rd ho2b) (Own.rd ho2t) (by first | exact tab_below _hT (by assumption) (Nat.le_refl _) | exact tab_al (tab_below _hT (by assumption) (Nat.le_refl _)) _ | exact tab_drew (tab_below _hT (by assumption) (Nat.le_refl _)) | exact tab_drew (tab_al (tab_below _hT (by assumption) (Nat.le_refl _)) _))).mono ?_
  rintro e w3 ⟨rfl, hc3⟩
  have hb3 := bthen hb2 (Nat.le_refl _) hc3
  have hs3 := hc3.size
  (try simp at hs3)
  have hx3_0 := bthen hx2_0 (Nat.le_refl _) hc3
  have hy3_0 := hx3_0.size
  (try simp at hy3_0)
  have ho2b' := Own.below ho2b hc3
  have ho2t' := Own.below ho2t hc3
  clear k2_0_0 k2_0_1 k2_0_2 kl2_0
  have k3_0_0 : w3.cell? ⟨w.heap.size, 0, none⟩ = some (.slice A0b x0b.length c0b) := by rw [hx3_0.cell (by simp <;> omega)]; try go_simp
  have k3_0_1 : w3.cell? ⟨w.heap.size, 1, none⟩ = some (.slice A0t x0t.length c0t) := by rw [hx3_0.cell (by simp <;> omega)]; try go_simp
  have k3_0_2 : w3.cell? ⟨w.heap.size, 2, none⟩ = some (.int .i64 n0) := by rw [hx3_0.cell (by simp <;> omega)]; try go_simp
  have kl3_0 : w.heap.size < w3.heap.size := by omega
  clear ho2b'
  clear ho2t'
  go_wp2_with fail
  refine (toScaffold_any A0b c0b x0b A0t c0t x0t n0 _ ((hr0b.below hb3).more hb3.size) ((hr0t.below hb3).more hb3.size) (by omega) (by omega)).mono ?_
  rintro e w4 ⟨B4b, d4b, B4t, d4t, rfl, ho4b, ho4t, hap4, hc4⟩
  have hl4b := ho4b.blk_lt
  have hl4t := ho4t.blk_lt
  (try simp at hl4b)
  (try simp at hl4t)
  have hb4 := bthen hb3 (Nat.le_refl _) hc4
  have hs4 := hc4.size
  (try simp at hs4)
  have hx4_0 := bthen hx3_0 (Nat.le_refl _) hc4
  have hy4_0 := hx4_0.size
  (try simp at hy4_0)
  clear k3_0_0 k3_0_1 k3_0_2 kl3_0
  have k4_0_0 : w4.cell? ⟨w.heap.size, 0, none⟩ = some (.slice A0b x0b.length c0b) := by rw [hx4_0.cell (by simp <;> omega)]; try go_simp
  have k4_0_1 : w4.cell? ⟨w.heap.size, 1, none⟩ = some (.slice A0t x0t.length c0t) := by rw [hx4_0.cell (by simp <;> omega)]; try go_simp
  have k4_0_2 : w4.cell? ⟨w.heap.size, 2, none⟩ = some (.int .i64 n0) := by rw [hx4_0.cell (by simp <;> omega)]; try go_simp
  have kl4_0 : w.heap.size < w4.heap.size := by omega
  go_wp2_with fail
  refine (implScaffoldText_any B4b d4b x0b B4t d4t x0t n0 _ (Own.rd (Own.alloc ho4b _)) (Own.rd (Own.alloc ho4t _)) (by first | exact tab_below _hT (by assumption) (Nat.le_refl _) | exact tab_al (tab_below _hT (by assumption) (Nat.le_refl _)) _ | exact tab_drew (tab_below _hT (by assumption) (Nat.le_refl _)) | exact tab_drew (tab_al (tab_below _hT (by assumption) (Nat.le_refl _)) _))).mono ?_
  rintro e w5 ⟨rfl, hc5⟩
  have hb5 := bthen (hb4.alloc hb4.size _) (Nat.le_refl _) hc5
  have hs5 := hc5.size
  (try simp at hs5)
  have hx5_0 := bthen (hx4_0.alloc hx4_0.size _) (Nat.le_refl _) hc5
  have hy5_0 := hx5_0.size
  (try simp at hy5_0)
  have hx5_1 := bthen (Below.refl (w4.alloc (.cells #[.slice B4b x0b.length d4b, .slice B4t x0t.length d4t, .int .i64 n0] 41)).heap.size (w4.alloc (.cells #[.slice B4b x0b.length d4b, .slice B4t x0t.length d4t, .int .i64 n0] 41))) (Nat.le_refl _) hc5
  have hy5_1 := hx5_1.size
  (try simp at hy5_1)
  have ho4b' := Own.below (Own.alloc ho4b _) hc5
  have ho4t' := Own.below (Own.alloc ho4t _) hc5
  clear k4_0_0 k4_0_1 k4_0_2 kl4_0
  have k5_0_0 : w5.cell? ⟨w.heap.size, 0, none⟩ = some (.slice A0b x0b.length c0b) := by rw [hx5_0.cell (by simp <;> omega)]; try go_simp
  have k5_0_1 : w5.cell? ⟨w.heap.size, 1, none⟩ = some (.slice A0t x0t.length c0t) := by rw [hx5_0.cell (by simp <;> omega)]; try go_simp
  have k5_0_2 : w5.cell? ⟨w.heap.size, 2, none⟩ = some (.int .i64 n0) := by rw [hx5_0.cell (by simp <;> omega)]; try go_simp
  have k5_1_0 : w5.cell? ⟨w4.heap.size, 0, none⟩ = some (.slice B4b x0b.length d4b) := by rw [hx5_1.cell (by simp <;> omega)]; try go_simp
  have k5_1_1 : w5.cell? ⟨w4.heap.size, 1, none⟩ = some (.slice B4t x0t.length d4t) := by rw [hx5_1.cell (by simp <;> omega)]; try go_simp
  have k5_1_2 : w5.cell? ⟨w4.heap.size, 2, none⟩ = some (.int .i64 n0) := by rw [hx5_1.cell (by simp <;> omega)]; try go_simp
  have kl5_0 : w.heap.size < w5.heap.size := by omega
  have kl5_1 : w4.heap.size < w5.heap.size := by omega
  go_wp2_with fail
  go_region_held3 (fun W => W.cell? ⟨w.heap.size, 0, none⟩ = some (.slice A0b x0b.length c0b) ∧ W.cell? ⟨w.heap.size, 1, none⟩ = some (.slice A0t x0t.length c0t) ∧ W.cell? ⟨w.heap.size, 2, none⟩ = some (.int .i64 n0) ∧ W.cell? ⟨w4.heap.size, 0, none⟩ = some (.slice B4b x0b.length d4b) ∧ W.cell? ⟨w4.heap.size, 1, none⟩ = some (.slice B4t x0t.length d4t) ∧ W.cell? ⟨w4.heap.size, 2, none⟩ = some (.int .i64 n0))
    (first | go_keep | (go_split_ands; refine ⟨?_, ?_, ?_, ?_, ?_, ?_⟩ <;> (refine (hc6.cell ?_).trans ?_; (focus (simp <;> omega)); assumption)) | (go_split_ands; refine ⟨?_, ?_, ?_, ?_, ?_, ?_⟩ <;> (refine (hc7.cell ?_).trans ?_; (focus (simp <;> omega)); assumption)))
    ((first
      | (go_at_call 18; (with_reducible refine (toScaffold_any A0b c0b x0b A0t c0t x0t n0 _ ((hr0b.below hb5).more hb5.size).drew ((hr0t.below hb5).more hb5.size).drew (by omega) (by omega)).mono ?_); rintro e w6 ⟨B6b, d6b, B6t, d6t, rfl, ho6b, ho6t, hap6, hc6⟩; have hl6b := ho6b.blk_lt; have hl6t := ho6t.blk_lt; (try simp at hl6b); (try simp at hl6t); have hb6 := bthen hb5.drew (Nat.le_refl _) hc6; have hs6 := hc6.size; (try simp at hs6); have ho4b'' := Own.below (Own.drew ho4b') hc6; have ho4t'' := Own.below (Own.drew ho4t') hc6)
      | (go_at_call 20; (with_reducible refine (eqScaffold_any B4b d4b x0b B4t d4t x0t n0 B6b d6b B6t d6t _ (Own.rd ho4b'') (Own.rd ho4t'') (Own.rd ho6b) (Own.rd ho6t)).mono ?_); rintro e w7 ⟨rfl, hc7⟩; have hb7 := bthen hb6 (Nat.le_refl _) hc7; have hs7 := hc7.size; (try simp at hs7); have ho4b''' := Own.below ho4b'' hc7; have ho4t''' := Own.below ho4t'' hc7; have ho6b' := Own.below ho6b hc7; have ho6t' := Own.below ho6t hc7)))
  have hx6_0 := bthen hx5_0.drew (Nat.le_refl _) hc6
  have hx6_1 := bthen hx5_1.drew (Nat.le_refl _) hc6
  have hx7_0 := bthen hx6_0 (Nat.le_refl _) hc7
  have hx7_1 := bthen hx6_1 (Nat.le_refl _) hc7
  have hy7_0 := hx7_0.size
  (try simp at hy7_0)
  have hy7_1 := hx7_1.size
  (try simp at hy7_1)
  clear k5_0_0 k5_0_1 k5_0_2 k5_1_0 k5_1_1 k5_1_2 kl5_0 kl5_1
  have k7_0_0 : w7.cell? ⟨w.heap.size, 0, none⟩ = some (.slice A0b x0b.length c0b) := by rw [hx7_0.cell (by simp <;> omega)]; try go_simp
  have k7_0_1 : w7.cell? ⟨w.heap.size, 1, none⟩ = some (.slice A0t x0t.length c0t) := by rw [hx7_0.cell (by simp <;> omega)]; try go_simp
  have k7_0_2 : w7.cell? ⟨w.heap.size, 2, none⟩ = some (.int .i64 n0) := by rw [hx7_0.cell (by simp <;> omega)]; try go_simp
  have k7_1_0 : w7.cell? ⟨w4.heap.size, 0, none⟩ = some (.slice B4b x0b.length d4b) := by rw [hx7_1.cell (by simp <;> omega)]; try go_simp
  have k7_1_1 : w7.cell? ⟨w4.heap.size, 1, none⟩ = some (.slice B4t x0t.length d4t) := by rw [hx7_1.cell (by simp <;> omega)]; try go_simp
  have k7_1_2 : w7.cell? ⟨w4.heap.size, 2, none⟩ = some (.int .i64 n0) := by rw [hx7_1.cell (by simp <;> omega)]; try go_simp
  have kl7_0 : w.heap.size < w7.heap.size := by omega
  have kl7_1 : w4.heap.size < w7.heap.size := by omega
  clear ho6b'
  clear ho6t'
  go_wp2_with fail
  go_ret
  exact ⟨rfl, hb7⟩
end Go.Proofs.YtgoboklahocfhaaDoor
