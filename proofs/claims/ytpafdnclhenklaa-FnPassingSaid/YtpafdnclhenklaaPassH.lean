/-
  Chances: the three draws.
-/
import Derived.Test.YtpafdnclhenklaaPassG
namespace Go.Proofs.Ytpafdnclhenklaa
open Go.ChangeShapes Go.WideShapes Go.RowKit

theorem from_at (g : Nat) (A : Option Addr) (c : Nat) (cs : List Int) (w : World) (hg : g = w.heap.size) {B : Nat} (hr : Rd LU w B A c cs) (hB : B ≤ w.heap.size) (hb : ∀ x ∈ cs, 0 ≤ x ∧ x ≤ 255) :
    Calls Try.prog 32 #[.slice A cs.length c] w fun e w' => e = .returned (.pointer (some ⟨g, 0, none⟩)) ∧ Sr w' g A c cs 0 ∧ Below g w w' := by
  subst hg
  exact l00From_any A c cs w (hr.more hB) hb
def DrewP (w : World) (e : Ending) (w' : World) : Prop :=
  ∃ x y z t : Int, e = .returned (.tuple #[.int .i64 x, .int .i64 y, .int .i64 z, .int .i64 t]) ∧ Below w.heap.size w w'
def DrewQ (w : World) (e : Ending) (w' : World) : Prop :=
  ∃ x y z a b : Int, e = .returned (.tuple #[.int .i64 x, .int .i64 y, .int .i64 z, .agg #[.int .i64 a, .int .i64 b]]) ∧ Below w.heap.size w w'
set_option maxRecDepth 100000 in
theorem drawPass_any (A : Option Addr) (c : Nat) (cs : List Int) (w : World) (hr : Rd LU w w.heap.size A c cs) (hb : ∀ x ∈ cs, 0 ≤ x ∧ x ≤ 255) :
    Calls Try.prog 8 #[.slice A cs.length c] w (DrewP w) := by
  obtain ⟨g, hg⟩ : ∃ g, g = w.heap.size := ⟨_, rfl⟩
  have hc := from_at g A c cs w hg hr (Nat.le_refl _) hb
  have HG := Lib.hid hg
  clear hg hr
  go_enter Try.func8, Try.ntmps8
  go_wp2_with fail
  refine hc.mono ?_
  rintro e w1 ⟨rfl, hS, hb1⟩
  have hc2 := l19DrawLot_any g A c cs 0 w1 hS (by omega)
  have hbs := hb1.size
  rw [HG.out] at hb1
  have HB1 := Lib.hid hb1
  clear hc hS hb1
  go_wp2_with fail
  refine hc2.mono ?_
  rintro e w2 ⟨x, y, z, t, rfl, _, hF⟩
  have HB := Lib.hid (HB1.out.trans (hF.below HB1.out.size (by rw [HG.out]; exact Nat.le_refl _)))
  clear hc2 hF
  go_wp2_with fail
  exact bodyPost_ret (v := .tuple #[.int .i64 x, .int .i64 y, .int .i64 z, .int .i64 t]) (by simp [results, Try.results8, go_sem]) rfl ⟨_, _, _, _, rfl, HB.out⟩
set_option maxRecDepth 100000 in
theorem drawWeak_any (A : Option Addr) (c : Nat) (cs : List Int) (w : World) (hr : Rd LU w w.heap.size A c cs) (hb : ∀ x ∈ cs, 0 ≤ x ∧ x ≤ 255) :
    Calls Try.prog 11 #[.slice A cs.length c] w (DrewQ w) := by
  obtain ⟨g, hg⟩ : ∃ g, g = w.heap.size + 1 := ⟨_, rfl⟩
  have hb0 : Below w.heap.size w (w.alloc (.cells #[.int .i64 0, .int .i64 0] 27)) := (Below.refl _ w).alloc (Nat.le_refl _) _
  have hc := from_at g A c cs (w.alloc (.cells #[.int .i64 0, .int .i64 0] 27)) (by simp [hg]) (hr.below hb0) (by simp) hb
  have HG := Lib.hid hg
  clear hg hr
  go_enter Try.func11, Try.ntmps11
  go_wp2_with fail
  refine hc.mono ?_
  rintro e w1 ⟨rfl, hS, hb1⟩
  have hg1 := hS.g1
  have q0 : w1.cell? ⟨w.heap.size, 0, none⟩ = some (.int .i64 0) := by rw [hb1.cell (p := ⟨w.heap.size, 0, none⟩) (by rw [HG.out]; simp)]; go_simp
  have q1 : w1.cell? ⟨w.heap.size, 1, none⟩ = some (.int .i64 0) := by rw [hb1.cell (p := ⟨w.heap.size, 1, none⟩) (by rw [HG.out]; simp)]; go_simp
  have qf : ∀ j, w1.frozen? ⟨w.heap.size, j, none⟩ = false := fun j => by rw [hb1.frozen (p := ⟨w.heap.size, j, none⟩) (by rw [HG.out]; simp)]; go_simp
  have hc2 := l19DrawLot_any g A c cs 0 w1 hS (by omega)
  have hgn : w.heap.size ≠ g := by rw [HG.out]; omega
  have hgl : w.heap.size ≤ g := by rw [HG.out]; omega
  have HB1 := Lib.hid (hb0.trans (hb1.mono hgl))
  clear hc hS hb1 hb0
  go_wp2_with fail
  refine hc2.mono ?_
  rintro e w2 ⟨x, y, z, t, rfl, hS, hF⟩
  have hs2 := hF.size
  have hc3 := l19DrawChance_any g A c cs (0 + 12) w2 hS (by omega)
  have HF2 := Lib.hid hF
  clear hc2 hS hF
  go_wp2_with fail
  refine hc3.mono ?_
  rintro e w3 ⟨a, b, rfl, _, hF⟩
  have hs3 := hF.size
  have HF3 := Lib.hid (HF2.out.trans hF)
  have p0 : w3.cell? ⟨w.heap.size, 0, none⟩ = some (.int .i64 0) := by rw [HF3.out.cell _ (by simp; omega) (by simp; omega)]; exact q0
  have p1 : w3.cell? ⟨w.heap.size, 1, none⟩ = some (.int .i64 0) := by rw [HF3.out.cell _ (by simp; omega) (by simp; omega)]; exact q1
  have pf : ∀ j, w3.frozen? ⟨w.heap.size, j, none⟩ = false := fun j => by rw [HF3.out.frozen _ (by simp; omega) (by simp; omega)]; exact qf j
  have hsz : w.heap.size < w3.heap.size := by omega
  have HB3 := Lib.hid (HB1.out.trans (HF3.out.below HB1.out.size hgl))
  clear hc3 hF q0 q1 qf
  go_wp2_with fail
  exact bodyPost_ret (v := .tuple #[.int .i64 x, .int .i64 z, .int .i64 t, .agg #[.int .i64 a, .int .i64 b]]) (by simp [results, Try.results11, go_sem, p0, p1, hsz]) rfl ⟨_, _, _, _, _, rfl, (HB3.out.setCell (p := ⟨w.heap.size, 0, none⟩) (Nat.le_refl _) _).setCell (p := ⟨w.heap.size, 1, none⟩) (Nat.le_refl _) _⟩
set_option maxRecDepth 100000 in
theorem drawTests_any (A : Option Addr) (c : Nat) (cs : List Int) (w : World) (hr : Rd LU w w.heap.size A c cs) (hb : ∀ x ∈ cs, 0 ≤ x ∧ x ≤ 255) :
    Calls Try.prog 14 #[.slice A cs.length c] w (DrewQ w) := by
  obtain ⟨g, hg⟩ : ∃ g, g = w.heap.size + 1 := ⟨_, rfl⟩
  have hb0 : Below w.heap.size w (w.alloc (.cells #[.int .i64 0, .int .i64 0] 27)) := (Below.refl _ w).alloc (Nat.le_refl _) _
  have hc := from_at g A c cs (w.alloc (.cells #[.int .i64 0, .int .i64 0] 27)) (by simp [hg]) (hr.below hb0) (by simp) hb
  have HG := Lib.hid hg
  clear hg hr
  go_enter Try.func14, Try.ntmps14
  go_wp2_with fail
  refine hc.mono ?_
  rintro e w1 ⟨rfl, hS, hb1⟩
  have hg1 := hS.g1
  have q0 : w1.cell? ⟨w.heap.size, 0, none⟩ = some (.int .i64 0) := by rw [hb1.cell (p := ⟨w.heap.size, 0, none⟩) (by rw [HG.out]; simp)]; go_simp
  have q1 : w1.cell? ⟨w.heap.size, 1, none⟩ = some (.int .i64 0) := by rw [hb1.cell (p := ⟨w.heap.size, 1, none⟩) (by rw [HG.out]; simp)]; go_simp
  have qf : ∀ j, w1.frozen? ⟨w.heap.size, j, none⟩ = false := fun j => by rw [hb1.frozen (p := ⟨w.heap.size, j, none⟩) (by rw [HG.out]; simp)]; go_simp
  have hc2 := l19DrawLot_any g A c cs 0 w1 hS (by omega)
  have hgn : w.heap.size ≠ g := by rw [HG.out]; omega
  have hgl : w.heap.size ≤ g := by rw [HG.out]; omega
  have HB1 := Lib.hid (hb0.trans (hb1.mono hgl))
  clear hc hS hb1 hb0
  go_wp2_with fail
  refine hc2.mono ?_
  rintro e w2 ⟨x, y, z, t, rfl, hS, hF⟩
  have hc3 := one_any 12 g A c cs (0 + 12) w2 hS (by omega) (by omega)
  have hs2 := hF.size
  have HF2 := Lib.hid hF
  clear hc2 hS hF
  go_wp2_with fail
  refine hc3.mono ?_
  rintro e w4 ⟨bb, rfl, hS, hF⟩
  have hs4 := hF.size
  have HF4 := Lib.hid (HF2.out.trans hF)
  clear hc3 hF HF2
  cases bb
  · have hc5 := l19DrawChance_any g A c cs (0 + 12 + 2) w4 hS (by omega)
    clear hS
    go_wp2_with fail
    refine hc5.mono ?_
    rintro e w3 ⟨a, b, rfl, _, hF⟩
    have hs3 := hF.size
    have HF3 := Lib.hid (HF4.out.trans hF)
    have p0 : w3.cell? ⟨w.heap.size, 0, none⟩ = some (.int .i64 0) := by rw [HF3.out.cell _ (by simp; omega) (by simp; omega)]; exact q0
    have p1 : w3.cell? ⟨w.heap.size, 1, none⟩ = some (.int .i64 0) := by rw [HF3.out.cell _ (by simp; omega) (by simp; omega)]; exact q1
    have pf : ∀ j, w3.frozen? ⟨w.heap.size, j, none⟩ = false := fun j => by rw [HF3.out.frozen _ (by simp; omega) (by simp; omega)]; exact qf j
    have hsz : w.heap.size < w3.heap.size := by omega
    have HB3 := Lib.hid (HB1.out.trans (HF3.out.below HB1.out.size hgl))
    clear hc5 hF q0 q1 qf
    go_wp2_with fail
    exact bodyPost_ret (v := .tuple #[.int .i64 x, .int .i64 y, .int .i64 t, .agg #[.int .i64 a, .int .i64 b]]) (by simp [results, Try.results14, go_sem, p0, p1, hsz]) rfl ⟨_, _, _, _, _, rfl, (HB3.out.setCell (p := ⟨w.heap.size, 0, none⟩) (Nat.le_refl _) _).setCell (p := ⟨w.heap.size, 1, none⟩) (Nat.le_refl _) _⟩
  · have ha := amongLit_any [-1, 0, 9, 10] 4 _ rfl rfl (by omega) (by omega) g A c cs _ w4 hS (by omega)
    clear hS
    go_wp2_with fail
    refine ha.mono ?_
    rintro e w6 ⟨v, rfl, _, hS, hF⟩
    have hs6 := hF.size
    have HF6 := Lib.hid (HF4.out.trans hF)
    have hc5 := l19DrawChance_any g A c cs (0 + 12 + 2 + 2) w6 hS (by omega)
    clear ha hS hF
    go_wp2_with fail
    refine hc5.mono ?_
    rintro e w3 ⟨a, b, rfl, _, hF⟩
    have hs3 := hF.size
    have HF3 := Lib.hid (HF6.out.trans hF)
    have p0 : w3.cell? ⟨w.heap.size, 0, none⟩ = some (.int .i64 0) := by rw [HF3.out.cell _ (by simp; omega) (by simp; omega)]; exact q0
    have p1 : w3.cell? ⟨w.heap.size, 1, none⟩ = some (.int .i64 0) := by rw [HF3.out.cell _ (by simp; omega) (by simp; omega)]; exact q1
    have pf : ∀ j, w3.frozen? ⟨w.heap.size, j, none⟩ = false := fun j => by rw [HF3.out.frozen _ (by simp; omega) (by simp; omega)]; exact qf j
    have hsz : w.heap.size < w3.heap.size := by omega
    have HB3 := Lib.hid (HB1.out.trans (HF3.out.below HB1.out.size hgl))
    clear hc5 hF q0 q1 qf
    go_wp2_with fail
    exact bodyPost_ret (v := .tuple #[.int .i64 x, .int .i64 y, .int .i64 v, .agg #[.int .i64 a, .int .i64 b]]) (by simp [results, Try.results14, go_sem, p0, p1, hsz]) rfl ⟨_, _, _, _, _, rfl, (HB3.out.setCell (p := ⟨w.heap.size, 0, none⟩) (Nat.le_refl _) _).setCell (p := ⟨w.heap.size, 1, none⟩) (Nat.le_refl _) _⟩
end Go.Proofs.Ytpafdnclhenklaa
