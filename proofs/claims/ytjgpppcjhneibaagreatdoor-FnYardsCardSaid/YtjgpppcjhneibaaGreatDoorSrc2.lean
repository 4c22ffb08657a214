/-
  The source of draws: one of a list that is written there; frames.
-/
import Derived.Test.YtjgpppcjhneibaaGreatDoorSrc
namespace Go.Proofs.YtjgpppcjhneibaaGreatDoor
open Go.ChangeShapes Go.WideShapes Go.RowKit

theorem Sr.belowB {w w' : World} {g c m B : Nat} {A : Option Addr} {cs : List Int} (h : Sr w g A c cs m) (hb : Below B w w') (hB : g < B) : Sr w' g A c cs m := by
  have hg := h.g1
  obtain ⟨a, ha, hc⟩ := h.c1
  obtain ⟨s, hs⟩ := h.c2
  exact ⟨(hb.cell (p := ⟨g, 0, none⟩) hB).trans h.c0, ⟨a, ha, (hb.cell (p := ⟨g, 1, none⟩) hB).trans hc⟩, ⟨s, (hb.cell (p := ⟨g, 2, none⟩) hB).trans hs⟩, (hb.frozen (p := ⟨g, 1, none⟩) hB).trans h.f1, (hb.frozen (p := ⟨g, 2, none⟩) hB).trans h.f2, h.rd.below (hb.mono (by omega)), h.by_, by have := hb.size; omega⟩
theorem Fs.then_ {g B : Nat} {w w1 w' : World} (h : Fs g w w1) (hb : Below B w1 w') (hB : w.heap.size ≤ B) : Fs g w w' :=
  ⟨hb.os.trans h.os, hb.tape.trans h.tape, hb.output.trans h.output, by have := h.size; have := hb.size; omega, fun k hk n => (hb.block k (by omega)).trans (h.block k hk n)⟩
theorem Fs.frozen {g : Nat} {w w' : World} (h : Fs g w w') (p : Addr) (hlt : p.block < w.heap.size) (hne : p.block ≠ g) : w'.frozen? p = w.frozen? p := by
  unfold World.frozen?
  rw [h.block p.block hlt hne]
def DrewV (g : Nat) (A : Option Addr) (c : Nat) (cs : List Int) (m : Nat) (xs : List Int) (w : World) (e : Ending) (w' : World) : Prop :=
  ∃ v : Int, e = .returned (.int .i64 v) ∧ v ∈ xs ∧ Sr w' g A c cs m ∧ Fs g w w'
theorem Own.str {T : TypeId} {w : World} {base c : Nat} {A : Option Addr} {xs : List ByteArray} (h : Own LS T w base A c xs) {k : Nat} (hk : k < xs.length) :
    ∃ g, A = some ⟨g, 0, none⟩ ∧ base ≤ g ∧ g < w.heap.size ∧ w.cell? ⟨g, k, none⟩ = some (.string xs[k]) ∧ w.frozen? ⟨g, k, none⟩ = false := by
  obtain ⟨g, rfl, hb, hlt⟩ := h.ptr (by omega)
  refine ⟨g, rfl, hb, hlt, ?_, World.ownsRow.frozenAt h k⟩
  rw [World.ownsRow.cellAt h k (by simp [LS]; omega), flat_str]
  simp [hk]
def DrewT (g : Nat) (A : Option Addr) (c : Nat) (cs : List Int) (m : Nat) (xs : List ByteArray) (w : World) (e : Ending) (w' : World) : Prop :=
  ∃ v : ByteArray, e = .returned (.string v) ∧ v ∈ xs ∧ Sr w' g A c cs m ∧ Fs g w w'
end Go.Proofs.YtjgpppcjhneibaaGreatDoor
