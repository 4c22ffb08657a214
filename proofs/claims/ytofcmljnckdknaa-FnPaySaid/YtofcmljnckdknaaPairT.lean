/-
  The reference's search over pairs (l23P): its state in memory, and what each step does to it.
-/
import Derived.Test.YtofcmljnckdknaaPairPlain
import Derived.Test.YtofcmljnckdknaaGangsB
import Derived.Test.YtofcmljnckdknaaGrid
import Derived.Test.YtofcmljnckdknaaClone
import Derived.Test.YtofcmljnckdknaaMark
import Derived.Test.YtofcmljnckdknaaSteps
import Derived.RegionTactic
import Derived.Deep.QuietTactic
import Derived.BigQuiet
namespace Go.Proofs.Ytofcmljnckdknaa
open Go.ChangeShapes Go.WideShapes Go.RowKit

structure PS (w : World) (base g : Nat) (A : Option Addr) (c : Nat) (rs : List (Row Int)) (many : Int) (Au : Option Addr) (cu : Nat) (U : List Bool) (Al : Option Addr) (cl : Nat) (l : List Int) (Ab : Option Addr) (cb : Nat) (best : List Int) (most : Int) : Prop where
  c0 : w.cell? ⟨g, 0, none⟩ = some (.slice A rs.length c)
  c1 : w.cell? ⟨g, 1, none⟩ = some (.int .i64 many)
  c2 : w.cell? ⟨g, 2, none⟩ = some (.slice Au U.length cu)
  c3 : w.cell? ⟨g, 3, none⟩ = some (.slice Al l.length cl)
  c4 : w.cell? ⟨g, 4, none⟩ = some (.slice Ab best.length cb)
  c5 : w.cell? ⟨g, 5, none⟩ = some (.int .i64 most)
  f3 : w.frozen? ⟨g, 3, none⟩ = false
  f4 : w.frozen? ⟨g, 4, none⟩ = false
  f5 : w.frozen? ⟨g, 5, none⟩ = false
  rm : RdR LI w base A c rs
  ou : Own LB 4 w base Au cu U
  ol : Own LI 2 w base Al cl l
  ob : Own LI 2 w base Ab cb best
  gu : blk Au ≠ some g
  gl : blk Al ≠ some g
  gb : blk Ab ≠ some g
  ul : Ap Au Al
  ub : Ap Au Ab
  lb : Ap Al Ab
  g0 : base ≤ g
  g1 : g < w.heap.size

section
variable {w w' : World} {base g c cu cl cb : Nat} {A Au Al Ab : Option Addr} {rs : List (Row Int)} {U : List Bool} {l best : List Int} {many most : Int}
theorem PS.drewN (h : PS w base g A c rs many Au cu U Al cl l Ab cb best most) (n : Nat) : PS (w.drewN n) base g A c rs many Au cu U Al cl l Ab cb best most :=
  ⟨h.c0, h.c1, h.c2, h.c3, h.c4, h.c5, h.f3, h.f4, h.f5, ⟨h.rm.out.drewN n, fun r hr => (h.rm.inn r hr).drewN n⟩, h.ou.drewN n, h.ol.drewN n, h.ob.drewN n, h.gu, h.gl, h.gb, h.ul, h.ub, h.lb, h.g0, h.g1⟩
theorem PS.base_le (h : PS w base g A c rs many Au cu U Al cl l Ab cb best most) : base ≤ w.heap.size := Nat.le_trans h.g0 (Nat.le_of_lt h.g1)
theorem PS.below (h : PS w base g A c rs many Au cu U Al cl l Ab cb best most) (hb : Below w.heap.size w w') : PS w' base g A c rs many Au cu U Al cl l Ab cb best most := by
  have hc : ∀ j, w'.cell? ⟨g, j, none⟩ = w.cell? ⟨g, j, none⟩ := fun j => hb.cell h.g1
  have hf : ∀ j, w'.frozen? ⟨g, j, none⟩ = w.frozen? ⟨g, j, none⟩ := fun j => hb.frozen h.g1
  exact ⟨(hc 0).trans h.c0, (hc 1).trans h.c1, (hc 2).trans h.c2, (hc 3).trans h.c3, (hc 4).trans h.c4, (hc 5).trans h.c5, (hf 3).trans h.f3, (hf 4).trans h.f4, (hf 5).trans h.f5,
    h.rm.below (hb.mono h.base_le), h.ou.below hb, h.ol.below hb, h.ob.below hb, h.gu, h.gl, h.gb, h.ul, h.ub, h.lb, h.g0, by have := hb.size; have := h.g1; omega⟩
theorem cell_set {w : World} {g i j : Nat} (v : Value) (hij : j ≠ i) : (w.setCell ⟨g, i, none⟩ v).cell? ⟨g, j, none⟩ = w.cell? ⟨g, j, none⟩ := World.cell?_setCell_other w _ _ v (fun e => hij (by injection e with _ h _; exact h.symm))
theorem cell_setB {w : World} {g g' i j : Nat} (v : Value) (hij : g ≠ g') : (w.setCell ⟨g', i, none⟩ v).cell? ⟨g, j, none⟩ = w.cell? ⟨g, j, none⟩ := World.cell?_setCell_other w _ _ v (fun e => hij (by injection e with h _ _; exact h.symm))
/-- a place is marked -/
theorem PS.setU {gu : Nat} (h : PS w base g A c rs many (some ⟨gu, 0, none⟩) cu U Al cl l Ab cb best most) (k : Nat) (v : Bool) :
    PS (w.setCell ⟨gu, k, none⟩ (.bool v)) base g A c rs many (some ⟨gu, 0, none⟩) cu (U.set k v) Al cl l Ab cb best most := by
  have hne : g ≠ gu := fun e => h.gu (by rw [e]; rfl)
  have hb := (h.ou.blk_lt gu rfl).1
  exact ⟨by rw [cell_setB _ hne]; exact h.c0, by rw [cell_setB _ hne]; exact h.c1, by rw [cell_setB _ hne, List.length_set]; exact h.c2, by rw [cell_setB _ hne]; exact h.c3, by rw [cell_setB _ hne]; exact h.c4, by rw [cell_setB _ hne]; exact h.c5,
    by simpa using h.f3, by simpa using h.f4, by simpa using h.f5, h.rm.below ((Below.refl base w).setCell hb _), h.ou.setBool k v, h.ol.setFar (fun e => h.ul gu rfl e) _, h.ob.setFar (fun e => h.ub gu rfl e) _, h.gu, h.gl, h.gb, h.ul, h.ub, h.lb, h.g0, by have := h.g1; simpa using this⟩
/-- the list has grown: the row is another one -/
theorem PS.growL (h : PS w base g A c rs many Au cu U Al cl l Ab cb best most) {Al' : Option Addr} {cl' : Nat} {l' : List Int} (ho : Own LI 2 w' base Al' cl' l') (hg : Grew w w' Al Al') :
    PS (w'.setCell ⟨g, 3, none⟩ (.slice Al' l'.length cl')) base g A c rs many Au cu U Al' cl' l' Ab cb best most := by
  have hc : ∀ j, w'.cell? ⟨g, j, none⟩ = w.cell? ⟨g, j, none⟩ := fun j => hg.cell _ h.g1 h.gl
  have hf : ∀ j, w'.frozen? ⟨g, j, none⟩ = w.frozen? ⟨g, j, none⟩ := fun j => hg.frozen _ h.g1 h.gl
  have hgl : blk Al' ≠ some g := by
    rcases hg.place with e | e
    · rw [e]; exact h.gl
    · intro e2; have := e g e2; have := h.g1; omega
  have k1 := hg.own h.ou (fun g' e1 e2 => h.ul g' e1 e2)
  have k2 := hg.own h.ob (fun g' e1 e2 => h.lb g' e2 e1)
  have hbl := Grew.below (Below.refl base w) hg h.base_le (fun g' e => (h.ol.blk_lt g' e).1)
  refine ⟨by rw [cell_set _ (by omega)]; exact (hc 0).trans h.c0, by rw [cell_set _ (by omega)]; exact (hc 1).trans h.c1, by rw [cell_set _ (by omega)]; exact (hc 2).trans h.c2, ?_, by rw [cell_set _ (by omega)]; exact (hc 4).trans h.c4, by rw [cell_set _ (by omega)]; exact (hc 5).trans h.c5,
    by simpa using (hf 3).trans h.f3, by simpa using (hf 4).trans h.f4, by simpa using (hf 5).trans h.f5,
    (h.rm.below hbl).below ((Below.refl base w').setCell h.g0 _), k1.1.setFar h.gu _, ho.setFar hgl _, k2.1.setFar h.gb _, h.gu, hgl, h.gb, fun g' e1 e2 => k1.2 g' e1 e2, h.ub, fun g' e1 e2 => k2.2 g' e2 e1, h.g0, by have := hg.size; have := h.g1; simp; omega⟩
  have := (hc 3).trans h.c3
  exact World.cell?_setCell_same' _ _ _ (by rw [this]; rfl)
theorem PS.takeL (h : PS w base g A c rs many Au cu U Al cl l Ab cb best most) {n : Nat} (hn : n ≤ l.length) :
    PS (w.setCell ⟨g, 3, none⟩ (.slice Al n cl)) base g A c rs many Au cu U Al cl (l.take n) Ab cb best most := by
  have e : (l.take n).length = n := by simp; omega
  refine ⟨by rw [cell_set _ (by omega)]; exact h.c0, by rw [cell_set _ (by omega)]; exact h.c1, by rw [cell_set _ (by omega)]; exact h.c2, ?_, by rw [cell_set _ (by omega)]; exact h.c4, by rw [cell_set _ (by omega)]; exact h.c5,
    by simpa using h.f3, by simpa using h.f4, by simpa using h.f5, h.rm.below ((Below.refl base w).setCell h.g0 _), h.ou.setFar h.gu _, (h.ol.take n).setFar h.gl _, h.ob.setFar h.gb _, h.gu, h.gl, h.gb, h.ul, h.ub, h.lb, h.g0, by have := h.g1; simpa using this⟩
  have := h.c3
  rw [e]
  exact World.cell?_setCell_same' _ _ _ (by rw [this]; rfl)
/-- a better list is kept -/
theorem PS.setMost (h : PS w base g A c rs many Au cu U Al cl l Ab cb best most) (m' : Int) : PS (w.setCell ⟨g, 5, none⟩ (.int .i64 m')) base g A c rs many Au cu U Al cl l Ab cb best m' := by
  refine ⟨by rw [cell_set _ (by omega)]; exact h.c0, by rw [cell_set _ (by omega)]; exact h.c1, by rw [cell_set _ (by omega)]; exact h.c2, by rw [cell_set _ (by omega)]; exact h.c3, by rw [cell_set _ (by omega)]; exact h.c4, ?_,
    by simpa using h.f3, by simpa using h.f4, by simpa using h.f5, h.rm.below ((Below.refl base w).setCell h.g0 _), h.ou.setFar h.gu _, h.ol.setFar h.gl _, h.ob.setFar h.gb _, h.gu, h.gl, h.gb, h.ul, h.ub, h.lb, h.g0, by have := h.g1; simpa using this⟩
  have := h.c5
  exact World.cell?_setCell_same' _ _ _ (by rw [this]; rfl)
theorem PS.setBest (h : PS w base g A c rs many Au cu U Al cl l Ab cb best most) {Ab' : Option Addr} {cb' : Nat} {b' : List Int} (hb : Below w.heap.size w w') (ho : Own LI 2 w' w.heap.size Ab' cb' b') :
    PS (w'.setCell ⟨g, 4, none⟩ (.slice Ab' b'.length cb')) base g A c rs many Au cu U Al cl l Ab' cb' b' most := by
  have h' := h.below hb
  have hl := ho.blk_lt
  have hgb : blk Ab' ≠ some g := fun e => by have := hl g e; have := h.g1; omega
  refine ⟨by rw [cell_set _ (by omega)]; exact h'.c0, by rw [cell_set _ (by omega)]; exact h'.c1, by rw [cell_set _ (by omega)]; exact h'.c2, by rw [cell_set _ (by omega)]; exact h'.c3, ?_, by rw [cell_set _ (by omega)]; exact h'.c5,
    by simpa using h'.f3, by simpa using h'.f4, by simpa using h'.f5, h'.rm.below ((Below.refl base w').setCell h.g0 _), h'.ou.setFar h.gu _, h'.ol.setFar h.gl _, (ho.lower h.base_le).setFar hgb _, h.gu, h.gl, hgb, h.ul,
    fun g' e1 e2 => by have := h.ou.blk_lt g' e1; have := hl g' e2; omega, fun g' e1 e2 => by have := h.ol.blk_lt g' e1; have := hl g' e2; omega, h.g0, by have := h'.g1; simpa using this⟩
  have := h'.c4
  exact World.cell?_setCell_same' _ _ _ (by rw [this]; rfl)
end
end Go.Proofs.Ytofcmljnckdknaa
