/-
  Draws of hands: a new hand.
-/
import Derived.Test.YtofcmljnckdknaaDoorSrc2
import Derived.Test.YtofcmljnckdknaaDoorFlatHand
namespace Go.Proofs.YtofcmljnckdknaaDoor
open Go.ChangeShapes Go.WideShapes Go.RowKit

theorem Grew.below' {w w' : World} {A A' : Option Addr} {B : Nat} (h : Grew w w' A A') (hB : B ≤ w.heap.size) (hA : ∀ b, blk A = some b → B ≤ b) : Below B w w' := Grew.below (Below.refl B w) h hB hA
def DrewHand (g : Nat) (A : Option Addr) (c : Nat) (cs : List Int) (m : Nat) (nm : ByteArray) (w : World) (e : Ending) (w' : World) : Prop :=
  ∃ (sh : Int) (ly : Bool), e = .returned (.agg #[.string nm, .int .i64 sh, .bool ly]) ∧ 1 ≤ sh ∧ sh ≤ 5 ∧ Sr w' g A c cs m ∧ Fs g w w'
set_option maxRecDepth 100000 in
set_option maxHeartbeats 800000 in
theorem l23New_any (nm : ByteArray) (g : Nat) (A : Option Addr) (c : Nat) (cs : List Int) (m : Nat) (w : World) (h : Sr w g A c cs m) (hm : m ≤ 4611686018427380000) :
    Calls Tryd.prog 35 #[.pointer (some ⟨g, 0, none⟩), .string nm] w (DrewHand g A c cs (m + 4) nm w) := by
  have hg := h.g1
  have hb0 : Below w.heap.size w (w.alloc (.cells #[.string ByteArray.empty, .int .i64 0, .bool false] 26)) := (Below.refl _ w).alloc (Nat.le_refl _) _
  have hc := pick_any 5 g A c cs m _ (h.belowB hb0 hg) (by omega) (by omega)
  clear h
  go_enter Tryd.func35, Tryd.ntmps35
  go_wp2_with fail
  refine hc.mono ?_
  rintro e w1 ⟨x0, rfl, x1, x2, hS, hF⟩
  obtain ⟨x, hxx⟩ : ∃ x, x = 1 + x0 := ⟨_, rfl⟩
  have e1 : IntKind.i64.wrap (1 + x0) = x := by rw [hxx]; exact wrapS (by omega) (by omega)
  have b0 : 1 ≤ x := by omega
  have b1 : x ≤ 5 := by omega
  have hs1 := hF.size
  simp at hs1
  have q0 : w1.cell? ⟨w.heap.size, 0, none⟩ = some (.string ByteArray.empty) := by rw [hF.cell _ (by simp) (by simp; omega)]; go_simp
  have q1 : w1.cell? ⟨w.heap.size, 1, none⟩ = some (.int .i64 0) := by rw [hF.cell _ (by simp) (by simp; omega)]; go_simp
  have q2 : w1.cell? ⟨w.heap.size, 2, none⟩ = some (.bool false) := by rw [hF.cell _ (by simp) (by simp; omega)]; go_simp
  have qf : ∀ j, w1.frozen? ⟨w.heap.size, j, none⟩ = false := fun j => by rw [hF.frozen _ (by simp) (by simp; omega)]; go_simp
  have HF1 := Lib.hid ((Fs.of_below (g := g) hb0).trans hF)
  have hb1 : Below w.heap.size w1 (w1.alloc (.cells #[.string nm, .int .i64 x, .bool false] 26)) := (Below.refl _ w1).alloc (by omega) _
  have hbx : Below w1.heap.size w1 (w1.alloc (.cells #[.string nm, .int .i64 x, .bool false] 26)) := (Below.refl _ w1).alloc (Nat.le_refl _) _
  have hc2 := one_any 2 g A c cs (m + 2) _ (hS.belowB hb1 hg) (by omega) (by omega)
  clear hc hS hF x1 x2 hxx hb0
  go_wp2_with fail
  refine hc2.mono ?_
  rintro e w2 ⟨ly, rfl, hS, hF⟩
  have hs2 := hF.size
  simp at hs2
  have hn1 : w1.heap.size ≠ w.heap.size := by omega
  have hn2 : w.heap.size ≠ w1.heap.size := by omega
  have p0 : w2.cell? ⟨w1.heap.size, 0, none⟩ = some (.string nm) := by rw [hF.cell _ (by simp) (by simp; omega)]; go_simp
  have p1 : w2.cell? ⟨w1.heap.size, 1, none⟩ = some (.int .i64 x) := by rw [hF.cell _ (by simp) (by simp; omega)]; go_simp
  have p2 : w2.cell? ⟨w1.heap.size, 2, none⟩ = some (.bool false) := by rw [hF.cell _ (by simp) (by simp; omega)]; go_simp
  have pf : ∀ j, w2.frozen? ⟨w1.heap.size, j, none⟩ = false := fun j => by rw [hF.frozen _ (by simp) (by simp; omega)]; go_simp
  have T2 : ∀ j, w2.cell? ⟨w.heap.size, j, none⟩ = w1.cell? ⟨w.heap.size, j, none⟩ := fun j => (hF.cell ⟨w.heap.size, j, none⟩ (by simp; omega) (by simp; omega)).trans (hbx.cell (p := ⟨w.heap.size, j, none⟩) (by simp; omega))
  have U2 : ∀ j, w2.frozen? ⟨w.heap.size, j, none⟩ = w1.frozen? ⟨w.heap.size, j, none⟩ := fun j => (hF.frozen ⟨w.heap.size, j, none⟩ (by simp; omega) (by simp; omega)).trans (hbx.frozen (p := ⟨w.heap.size, j, none⟩) (by simp; omega))
  have HF2 := Lib.hid ((HF1.out.then_ hb1 (Nat.le_refl _)).trans hF)
  have HS := Lib.hid hS
  have r0 := (T2 0).trans q0
  have r1 := (T2 1).trans q1
  have r2 := (T2 2).trans q2
  have rf := fun j => (U2 j).trans (qf j)
  have hg6 : w.heap.size < w2.heap.size := by omega
  have hg7 : w1.heap.size < w2.heap.size := by omega
  clear hc2 hS hF hb1 hbx T2 U2 q0 q1 q2 qf
  go_wp2_with fail
  have HBF : Hid (Below w.heap.size w2 ((((w2.setCell ⟨w1.heap.size, 2, none⟩ (.bool ly)).setCell ⟨w.heap.size, 0, none⟩ (.string nm)).setCell ⟨w.heap.size, 1, none⟩ (.int .i64 x)).setCell ⟨w.heap.size, 2, none⟩ (.bool ly))) := Lib.hid (((((Below.refl _ w2).setCell (p := ⟨w1.heap.size, 2, none⟩) (by simp; omega) _).setCell (p := ⟨w.heap.size, 0, none⟩) (Nat.le_refl _) _).setCell (p := ⟨w.heap.size, 1, none⟩) (Nat.le_refl _) _).setCell (p := ⟨w.heap.size, 2, none⟩) (Nat.le_refl _) _)
  exact bodyPost_ret (v := .agg #[.string nm, .int .i64 x, .bool ly]) (by simp [results, Tryd.results35, go_sem, p0, p1, p2, r0, r1, r2, hn1, hn2, hg6, hg7]) rfl ⟨_, _, rfl, b0, b1, HS.out.belowB HBF.out hg, HF2.out.then_ HBF.out (Nat.le_refl _)⟩
end Go.Proofs.YtofcmljnckdknaaDoor
