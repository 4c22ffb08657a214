/-
  The source of draws: one of a list that is written there; frames.
-/
import Derived.Test.YtehmghlhljocbaaGreatDoorSrc
namespace Go.Proofs.YtehmghlhljocbaaGreatDoor
open Go.ChangeShapes Go.WideShapes Go.RowKit

theorem Sr.belowB {w w' : World} {g c m B : Nat} {A : Option Addr} {cs : List Int} (h : Sr w g A c cs m) (hb : Below B w w') (hB : g < B) : Sr w' g A c cs m := by
  have hg := h.g1
  obtain ⟨a, ha, hc⟩ := h.c1
  obtain ⟨s, hs⟩ := h.c2
  exact ⟨(hb.cell (p := ⟨g, 0, none⟩) hB).trans h.c0, ⟨a, ha, (hb.cell (p := ⟨g, 1, none⟩) hB).trans hc⟩, ⟨s, (hb.cell (p := ⟨g, 2, none⟩) hB).trans hs⟩, (hb.frozen (p := ⟨g, 1, none⟩) hB).trans h.f1, (hb.frozen (p := ⟨g, 2, none⟩) hB).trans h.f2, h.rd.below (hb.mono (by omega)), h.by_, by have := hb.size; omega⟩
theorem Fs.then_ {g B : Nat} {w w1 w' : World} (h : Fs g w w1) (hb : Below B w1 w') (hB : w.heap.size ≤ B) : Fs g w w' :=
  ⟨hb.os.trans h.os, hb.tape.trans h.tape, hb.output.trans h.output, by have := h.size; have := hb.size; omega, fun k hk n => (hb.block k (by omega)).trans (h.block k hk n)⟩
theorem Fs.frozen {g : Nat} {w w' : World} (h : Fs g w w') (p : Addr) (hlt : p.block < w.heap.size) (hne : p.block ≠ g) : w'.frozen? p = w.frozen? p := by
  unfold World.frozen?
  rw [h.block p.block hlt hne]
def DrewV (g : Nat) (A : Option Addr) (c : Nat) (cs : List Int) (m : Nat) (xs : List Int) (w : World) (e : Ending) (w' : World) : Prop :=
  ∃ v : Int, e = .returned (.int .i64 v) ∧ v ∈ xs ∧ Sr w' g A c cs m ∧ Fs g w w'
/-- one of these -/
theorem amongLit_any (xs : List Int) (n : Nat) (cv : Array Value) (hn : n = xs.length) (hcs : cv.toList = xs.flatMap LI.f) (h0 : 0 < n) (h1 : n ≤ 1000) (g : Nat) (A : Option Addr) (c : Nat) (cs : List Int) (m : Nat) (w : World)
    (h : Sr w g A c cs m) (hm : m ≤ 4611686018427387000) :
    Calls Tryz.prog 49 #[.pointer (some ⟨g, 0, none⟩), .slice (some ⟨w.heap.size, 0, none⟩) n n] (w.alloc (.cells cv 2)) (DrewV g A c cs (m + 2) xs w) := by
  subst hn
  have hg := h.g1
  have hb : Below w.heap.size w (w.alloc (.cells cv 2)) := (Below.refl _ _).alloc (Nat.le_refl _) _
  refine (among_any (some ⟨w.heap.size, 0, none⟩) xs.length xs w.heap.size g A c cs m _ (Own.lit w (Nat.le_refl _) rfl xs cv _ rfl (by unfold maxLen; omega) hcs) (by intro e; injection e with e; dsimp only at e; omega) h0 h1 (h.below hb) hm).mono ?_
  rintro e w' ⟨v, rfl, hv, hS, hF⟩
  exact ⟨v, rfl, hv, hS, (Fs.of_below hb).trans hF⟩
theorem Own.str {T : TypeId} {w : World} {base c : Nat} {A : Option Addr} {xs : List ByteArray} (h : Own LS T w base A c xs) {k : Nat} (hk : k < xs.length) :
    ∃ g, A = some ⟨g, 0, none⟩ ∧ base ≤ g ∧ g < w.heap.size ∧ w.cell? ⟨g, k, none⟩ = some (.string xs[k]) ∧ w.frozen? ⟨g, k, none⟩ = false := by
  obtain ⟨g, rfl, hb, hlt⟩ := h.ptr (by omega)
  refine ⟨g, rfl, hb, hlt, ?_, World.ownsRow.frozenAt h k⟩
  rw [World.ownsRow.cellAt h k (by simp [LS]; omega), flat_str]
  simp [hk]
def DrewT (g : Nat) (A : Option Addr) (c : Nat) (cs : List Int) (m : Nat) (xs : List ByteArray) (w : World) (e : Ending) (w' : World) : Prop :=
  ∃ v : ByteArray, e = .returned (.string v) ∧ v ∈ xs ∧ Sr w' g A c cs m ∧ Fs g w w'
theorem text_any (A2 : Option Addr) (c2 : Nat) (xs : List ByteArray) (base : Nat) (g : Nat) (A : Option Addr) (c : Nat) (cs : List Int) (m : Nat) (w : World) (ho : Own LS 9 w base A2 c2 xs) (hng : blk A2 ≠ some g) (h0 : 0 < xs.length) (h1 : xs.length ≤ 1000)
    (h : Sr w g A c cs m) (hm : m ≤ 4611686018427387000) :
    Calls Tryz.prog 66 #[.pointer (some ⟨g, 0, none⟩), .slice A2 xs.length c2] w (DrewT g A c cs (m + 2) xs w) := by
  have hc := pick_any (xs.length : Int) g A c cs m w h hm (by omega)
  have HO := Lib.hid ho
  clear ho
  go_enter Tryz.func66, Tryz.ntmps66
  go_wp2_with fail
  refine hc.mono ?_
  rintro e w1 ⟨x, rfl, x0, x1, hS1, hF1⟩
  obtain ⟨k, rfl⟩ : ∃ k : Nat, x = (k : Int) := ⟨x.toNat, by omega⟩
  have hk : k < xs.length := by omega
  obtain ⟨ga, rfl, _, _, hcell, _⟩ := (hF1.own HO.out hng).str hk
  have hki : (k : Int) < xs.length := by omega
  have HM := Lib.hid (List.getElem_mem hk)
  generalize xs[k] = v at *
  have HS1 := Lib.hid hS1
  have HF1 := Lib.hid hF1
  clear hc hS1 hF1
  go_wp2_with fail
  go_ret
  exact ⟨v, rfl, HM.out, HS1.out, HF1.out⟩
end Go.Proofs.YtehmghlhljocbaaGreatDoor
