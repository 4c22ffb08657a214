/-
  Chances: the chance drawn; the three draws.
-/
import Derived.Test.YtpafdnclhenklaaPassF
namespace Go.Proofs.Ytpafdnclhenklaa
open Go.ChangeShapes Go.WideShapes Go.RowKit

theorem Sr.belowB {w w' : World} {g c m B : Nat} {A : Option Addr} {cs : List Int} (h : Sr w g A c cs m) (hb : Below B w w') (hB : g < B) : Sr w' g A c cs m := by
  have hg := h.g1
  obtain ⟨a, ha, hc⟩ := h.c1
  obtain ⟨s, hs⟩ := h.c2
  exact ⟨(hb.cell (p := ⟨g, 0, none⟩) hB).trans h.c0, ⟨a, ha, (hb.cell (p := ⟨g, 1, none⟩) hB).trans hc⟩, ⟨s, (hb.cell (p := ⟨g, 2, none⟩) hB).trans hs⟩, (hb.frozen (p := ⟨g, 1, none⟩) hB).trans h.f1, (hb.frozen (p := ⟨g, 2, none⟩) hB).trans h.f2, h.rd.below (hb.mono (by omega)), h.by_, by have := hb.size; omega⟩
theorem Fs.then_ {g B : Nat} {w w1 w' : World} (h : Fs g w w1) (hb : Below B w1 w') (hB : w.heap.size ≤ B) : Fs g w w' :=
  ⟨hb.os.trans h.os, hb.tape.trans h.tape, hb.output.trans h.output, by have := h.size; have := hb.size; omega, fun k hk n => (hb.block k (by omega)).trans (h.block k hk n)⟩
theorem Fs.frozen {g : Nat} {w w' : World} (h : Fs g w w') (p : Addr) (hlt : p.block < w.heap.size) (hne : p.block ≠ g) : w'.frozen? p = w.frozen? p := by
  unfold World.frozen?
  rw [h.block p.block hlt hne]
def DrewF (g : Nat) (A : Option Addr) (c : Nat) (cs : List Int) (m : Nat) (w : World) (e : Ending) (w' : World) : Prop :=
  ∃ x y : Int, e = .returned (.agg #[.int .i64 x, .int .i64 y]) ∧ Sr w' g A c cs m ∧ Fs g w w'
set_option maxRecDepth 100000 in
set_option maxHeartbeats 1600000 in
theorem l19DrawChance_any (g : Nat) (A : Option Addr) (c : Nat) (cs : List Int) (m : Nat) (w : World) (h : Sr w g A c cs m) (hm : m ≤ 1000000) :
    Calls Try.prog 38 #[.pointer (some ⟨g, 0, none⟩)] w (DrewF g A c cs (m + 8) w) := by
  have hg := h.g1
  have hb0 : Below w.heap.size w (w.alloc (.cells #[.int .i64 0, .int .i64 0] 27)) := (Below.refl _ w).alloc (Nat.le_refl _) _
  have hc := pick_any 20 g A c cs m _ (h.belowB hb0 hg) (by omega) (by omega)
  clear h
  go_enter Try.func38, Try.ntmps38
  go_wp2_with fail
  refine hc.mono ?_
  rintro e w1 ⟨x0, rfl, x1, x2, hS, hF⟩
  obtain ⟨x, hxx⟩ : ∃ x, x = 1 + x0 := ⟨_, rfl⟩
  have e1 : IntKind.i64.wrap (1 + x0) = x := by rw [hxx]; exact wrapS (by omega) (by omega)
  have b0 : 1 ≤ x := by omega
  have b1 : x ≤ 20 := by omega
  have hs1 := hF.size
  simp at hs1
  have q0 : w1.cell? ⟨w.heap.size, 0, none⟩ = some (.int .i64 0) := by rw [hF.cell _ (by simp) (by simp; omega)]; go_simp
  have q1 : w1.cell? ⟨w.heap.size, 1, none⟩ = some (.int .i64 0) := by rw [hF.cell _ (by simp) (by simp; omega)]; go_simp
  have qf : ∀ j, w1.frozen? ⟨w.heap.size, j, none⟩ = false := fun j => by rw [hF.frozen _ (by simp) (by simp; omega)]; go_simp
  have HF1 := Lib.hid ((Fs.of_below (g := g) hb0).trans hF)
  have hb1 : Below w.heap.size w1 (w1.alloc (.cells #[.int .i64 0, .int .i64 x] 27)) := (Below.refl _ w1).alloc (by omega) _
  have hc2 := pick_any (x + 1) g A c cs (m + 2) _ (hS.belowB hb1 hg) (by omega) (by omega)
  clear hc hS hF x1 x2 hxx hb0
  go_wp2_with fail
  refine hc2.mono ?_
  rintro e w2 ⟨y, rfl, y1, y2, hS, hF⟩
  have hs2 := hF.size
  simp at hs2
  have hn1 : w1.heap.size ≠ w.heap.size := by omega
  have hn2 : w.heap.size ≠ w1.heap.size := by omega
  have hbx : Below w1.heap.size w1 (w1.alloc (.cells #[.int .i64 0, .int .i64 x] 27)) := (Below.refl _ w1).alloc (Nat.le_refl _) _
  have p0 : w2.cell? ⟨w1.heap.size, 0, none⟩ = some (.int .i64 0) := by rw [hF.cell _ (by simp) (by simp; omega)]; go_simp
  have p1 : w2.cell? ⟨w1.heap.size, 1, none⟩ = some (.int .i64 x) := by rw [hF.cell _ (by simp) (by simp; omega)]; go_simp
  have pf : ∀ j, w2.frozen? ⟨w1.heap.size, j, none⟩ = false := fun j => by rw [hF.frozen _ (by simp) (by simp; omega)]; go_simp
  have T2 : ∀ j, w2.cell? ⟨w.heap.size, j, none⟩ = w1.cell? ⟨w.heap.size, j, none⟩ := fun j => (hF.cell ⟨w.heap.size, j, none⟩ (by simp; omega) (by simp; omega)).trans (hbx.cell (p := ⟨w.heap.size, j, none⟩) (by simp; omega))
  have U2 : ∀ j, w2.frozen? ⟨w.heap.size, j, none⟩ = w1.frozen? ⟨w.heap.size, j, none⟩ := fun j => (hF.frozen ⟨w.heap.size, j, none⟩ (by simp; omega) (by simp; omega)).trans (hbx.frozen (p := ⟨w.heap.size, j, none⟩) (by simp; omega))
  have HF2 := Lib.hid ((HF1.out.then_ hb1 (Nat.le_refl _)).trans hF)
  have hb2 : Below w1.heap.size w2 (w2.setCell ⟨w1.heap.size, 0, none⟩ (.int .i64 y)) := (Below.refl _ w2).setCell (p := ⟨w1.heap.size, 0, none⟩) (Nat.le_refl _) _
  have hc3 := pick_any 12 g A c cs (m + 2 + 2) _ (hS.belowB hb2 (by omega)) (by omega) (by omega)
  have s1 : (w2.setCell ⟨w1.heap.size, 0, none⟩ (.int .i64 y)).cell? ⟨w1.heap.size, 1, none⟩ = some (.int .i64 x) := by rw [cell_setS _ (by omega)]; exact p1
  have s0 : (w2.setCell ⟨w1.heap.size, 0, none⟩ (.int .i64 y)).cell? ⟨w1.heap.size, 0, none⟩ = some (.int .i64 y) := World.cell?_setCell_same' _ _ _ (by rw [p0]; rfl)
  clear hc2 hS hF hb1 y1 y2
  go_wp2_with fail
  refine hc3.mono ?_
  rintro e w3 ⟨k, rfl, k1, k2, hS, hF⟩
  have hs3 := hF.size
  simp at hs3
  have t0 : w3.cell? ⟨w1.heap.size, 0, none⟩ = some (.int .i64 y) := by rw [hF.cell _ (by simp; omega) (by simp; omega)]; exact s0
  have t1 : w3.cell? ⟨w1.heap.size, 1, none⟩ = some (.int .i64 x) := by rw [hF.cell _ (by simp; omega) (by simp; omega)]; exact s1
  have tf : ∀ j, w3.frozen? ⟨w1.heap.size, j, none⟩ = false := fun j => by rw [hF.frozen _ (by simp; omega) (by simp; omega)]; simpa using pf j
  have T3 : ∀ j, w3.cell? ⟨w.heap.size, j, none⟩ = w1.cell? ⟨w.heap.size, j, none⟩ := fun j => ((hF.cell ⟨w.heap.size, j, none⟩ (by simp; omega) (by simp; omega)).trans (hb2.cell (p := ⟨w.heap.size, j, none⟩) (by simp; omega))).trans (T2 j)
  have U3 : ∀ j, w3.frozen? ⟨w.heap.size, j, none⟩ = w1.frozen? ⟨w.heap.size, j, none⟩ := fun j => ((hF.frozen ⟨w.heap.size, j, none⟩ (by simp; omega) (by simp; omega)).trans (hb2.frozen (p := ⟨w.heap.size, j, none⟩) (by simp; omega))).trans (U2 j)
  have HF3 := Lib.hid ((HF2.out.then_ hb2 (by omega)).trans hF)
  clear hc3 hF hb2 hbx p0 p1 pf s0 s1
  have d0 : w3.cell? ⟨w.heap.size, 0, none⟩ = some (.int .i64 0) := (T3 0).trans q0
  have d1 : w3.cell? ⟨w.heap.size, 1, none⟩ = some (.int .i64 0) := (T3 1).trans q1
  have df : ∀ j, w3.frozen? ⟨w.heap.size, j, none⟩ = false := fun j => (U3 j).trans (qf j)
  have hg3 : w.heap.size < w3.heap.size := by omega
  have hg4 : w1.heap.size < w3.heap.size := by omega
  by_cases z0 : k = 0
  · subst z0
    have hl : Below w.heap.size w3 (w3.alloc (.cells #[.int .i64 0, .int .i64 1, .int .i64 1000, .int .i64 1001] 2)) := (Below.refl _ _).alloc (by omega) _
    have ha := amongLit_any [0, 1, 1000, 1001] 4 _ rfl rfl (by omega) (by omega) g A c cs _ w3 hS (by omega)
    clear hS T2 T3 U2 U3 q0 q1 qf
    go_wp2_with fail
    refine ha.mono ?_
    rintro e w6 ⟨v, rfl, _, hS, hF⟩
    have hs6 := hF.size
    have u0 : w6.cell? ⟨w1.heap.size, 0, none⟩ = some (.int .i64 y) := by rw [hF.cell _ (by simp; omega) (by simp; omega)]; exact t0
    have u1 : w6.cell? ⟨w1.heap.size, 1, none⟩ = some (.int .i64 x) := by rw [hF.cell _ (by simp; omega) (by simp; omega)]; exact t1
    have uf : ∀ j, w6.frozen? ⟨w1.heap.size, j, none⟩ = false := fun j => by rw [hF.frozen _ (by simp; omega) (by simp; omega)]; exact tf j
    have v0 : w6.cell? ⟨w.heap.size, 0, none⟩ = some (.int .i64 0) := by rw [hF.cell _ (by simp; omega) (by simp; omega)]; exact d0
    have v1 : w6.cell? ⟨w.heap.size, 1, none⟩ = some (.int .i64 0) := by rw [hF.cell _ (by simp; omega) (by simp; omega)]; exact d1
    have vf : ∀ j, w6.frozen? ⟨w.heap.size, j, none⟩ = false := fun j => by rw [hF.frozen _ (by simp; omega) (by simp; omega)]; exact df j
    have HF6 := Lib.hid (HF3.out.trans hF)
    have HS := Lib.hid hS
    have hg6 : w.heap.size < w6.heap.size := by omega
    have hg7 : w1.heap.size < w6.heap.size := by omega
    clear ha hS hF t0 t1 tf d0 d1 df
    go_wp2_with fail
    have HBF : Hid (Below w.heap.size w6 (((w6.setCell ⟨w1.heap.size, 1, none⟩ (.int .i64 v)).setCell ⟨w.heap.size, 0, none⟩ (.int .i64 y)).setCell ⟨w.heap.size, 1, none⟩ (.int .i64 v))) := Lib.hid ((((Below.refl _ w6).setCell (p := ⟨w1.heap.size, 1, none⟩) (by simp; omega) _).setCell (p := ⟨w.heap.size, 0, none⟩) (Nat.le_refl _) _).setCell (p := ⟨w.heap.size, 1, none⟩) (Nat.le_refl _) _)
    exact bodyPost_ret (v := .agg #[.int .i64 y, .int .i64 v]) (by simp [results, Try.results38, go_sem, u0, u1, v0, v1, hn1, hn2, hg6, hg7]) rfl ⟨_, _, rfl, HS.out.belowB HBF.out hg, HF6.out.then_ HBF.out (Nat.le_refl _)⟩
  by_cases z1 : k = 1
  · subst z1
    have ha := amongLit_any [-1, 0, x, x + 1] 4 _ rfl rfl (by omega) (by omega) g A c cs _ w3 hS (by omega)
    clear hS T2 T3 U2 U3 q0 q1 qf
    go_wp2_with fail
    refine ha.mono ?_
    rintro e w6 ⟨v, rfl, _, hS, hF⟩
    have hs6 := hF.size
    have u0 : w6.cell? ⟨w1.heap.size, 0, none⟩ = some (.int .i64 y) := by rw [hF.cell _ (by simp; omega) (by simp; omega)]; exact t0
    have u1 : w6.cell? ⟨w1.heap.size, 1, none⟩ = some (.int .i64 x) := by rw [hF.cell _ (by simp; omega) (by simp; omega)]; exact t1
    have uf : ∀ j, w6.frozen? ⟨w1.heap.size, j, none⟩ = false := fun j => by rw [hF.frozen _ (by simp; omega) (by simp; omega)]; exact tf j
    have v0 : w6.cell? ⟨w.heap.size, 0, none⟩ = some (.int .i64 0) := by rw [hF.cell _ (by simp; omega) (by simp; omega)]; exact d0
    have v1 : w6.cell? ⟨w.heap.size, 1, none⟩ = some (.int .i64 0) := by rw [hF.cell _ (by simp; omega) (by simp; omega)]; exact d1
    have vf : ∀ j, w6.frozen? ⟨w.heap.size, j, none⟩ = false := fun j => by rw [hF.frozen _ (by simp; omega) (by simp; omega)]; exact df j
    have HF6 := Lib.hid (HF3.out.trans hF)
    have HS := Lib.hid hS
    have hg6 : w.heap.size < w6.heap.size := by omega
    have hg7 : w1.heap.size < w6.heap.size := by omega
    clear ha hS hF t0 t1 tf d0 d1 df
    go_wp2_with fail
    have HBF : Hid (Below w.heap.size w6 (((w6.setCell ⟨w1.heap.size, 0, none⟩ (.int .i64 v)).setCell ⟨w.heap.size, 0, none⟩ (.int .i64 v)).setCell ⟨w.heap.size, 1, none⟩ (.int .i64 x))) := Lib.hid ((((Below.refl _ w6).setCell (p := ⟨w1.heap.size, 0, none⟩) (by simp; omega) _).setCell (p := ⟨w.heap.size, 0, none⟩) (Nat.le_refl _) _).setCell (p := ⟨w.heap.size, 1, none⟩) (Nat.le_refl _) _)
    exact bodyPost_ret (v := .agg #[.int .i64 v, .int .i64 x]) (by simp [results, Try.results38, go_sem, u0, u1, v0, v1, hn1, hn2, hg6, hg7]) rfl ⟨_, _, rfl, HS.out.belowB HBF.out hg, HF6.out.then_ HBF.out (Nat.le_refl _)⟩
  have f0 : (k == 0) = false := by rw [beq_eq_false_iff_ne]; exact z0
  have f1 : (k == 1) = false := by rw [beq_eq_false_iff_ne]; exact z1
  have HS := Lib.hid (hS.more (show m + 2 + 2 + 2 ≤ m + 8 by omega))
  clear hS T2 T3 U2 U3 q0 q1 qf
  go_wp2_with fail
  have HBF : Hid (Below w.heap.size w3 ((w3.setCell ⟨w.heap.size, 0, none⟩ (.int .i64 y)).setCell ⟨w.heap.size, 1, none⟩ (.int .i64 x))) := Lib.hid (((Below.refl _ w3).setCell (p := ⟨w.heap.size, 0, none⟩) (Nat.le_refl _) _).setCell (p := ⟨w.heap.size, 1, none⟩) (Nat.le_refl _) _)
  exact bodyPost_ret (v := .agg #[.int .i64 y, .int .i64 x]) (by simp [results, Try.results38, go_sem, t0, t1, d0, d1, hn1, hn2, hg3, hg4]) rfl ⟨_, _, rfl, HS.out.belowB HBF.out hg, HF3.out.then_ HBF.out (Nat.le_refl _)⟩
end Go.Proofs.Ytpafdnclhenklaa
