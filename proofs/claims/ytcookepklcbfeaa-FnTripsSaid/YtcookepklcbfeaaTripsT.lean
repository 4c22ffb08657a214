/-
  The reference's search over trips (l21T): its state in memory, and what each step does to it.
-/
import Derived.Test.YtcookepklcbfeaaTripsPlain
import Derived.Test.YtcookepklcbfeaaClone
import Derived.Test.YtcookepklcbfeaaLoads
import Derived.Test.YtcookepklcbfeaaSteps
import Derived.RegionTactic
import Derived.Deep.QuietTactic
import Derived.BigQuiet
namespace Go.Proofs.Ytcookepklcbfeaa
open Go.ChangeShapes Go.WideShapes Go.RowKit

structure TS (w : World) (base g : Nat) (A : Option Addr) (c : Nat) (xs : List Int) (most : Int) (As : Option Addr) (cs : Nat) (sums : List Int) (Aw : Option Addr) (cw : Nat) (wh : List Int) (Ab : Option Addr) (cb : Nat) (best : List Int) (few : Int) : Prop where
  c0 : w.cell? ⟨g, 0, none⟩ = some (.slice A xs.length c)
  c1 : w.cell? ⟨g, 1, none⟩ = some (.int .i64 most)
  c2 : w.cell? ⟨g, 2, none⟩ = some (.slice As sums.length cs)
  c3 : w.cell? ⟨g, 3, none⟩ = some (.slice Aw wh.length cw)
  c4 : w.cell? ⟨g, 4, none⟩ = some (.slice Ab best.length cb)
  c5 : w.cell? ⟨g, 5, none⟩ = some (.int .i64 few)
  f2 : w.frozen? ⟨g, 2, none⟩ = false
  f3 : w.frozen? ⟨g, 3, none⟩ = false
  f4 : w.frozen? ⟨g, 4, none⟩ = false
  f5 : w.frozen? ⟨g, 5, none⟩ = false
  rd : Rd LI w base A c xs
  os : Own LI 2 w base As cs sums
  ow : Own LI 2 w base Aw cw wh
  ob : Own LI 2 w base Ab cb best
  gs : blk As ≠ some g
  gw : blk Aw ≠ some g
  gb : blk Ab ≠ some g
  sw : Ap As Aw
  sb : Ap As Ab
  wb : Ap Aw Ab
  g0 : base ≤ g
  g1 : g < w.heap.size

section
variable {w w' : World} {base g c cs cw cb : Nat} {A As Aw Ab : Option Addr} {xs sums wh best : List Int} {most few : Int}
theorem TS.drewN (h : TS w base g A c xs most As cs sums Aw cw wh Ab cb best few) (n : Nat) : TS (w.drewN n) base g A c xs most As cs sums Aw cw wh Ab cb best few :=
  ⟨h.c0, h.c1, h.c2, h.c3, h.c4, h.c5, h.f2, h.f3, h.f4, h.f5, h.rd.drewN n, h.os.drewN n, h.ow.drewN n, h.ob.drewN n, h.gs, h.gw, h.gb, h.sw, h.sb, h.wb, h.g0, h.g1⟩
theorem TS.base_le (h : TS w base g A c xs most As cs sums Aw cw wh Ab cb best few) : base ≤ w.heap.size := Nat.le_trans h.g0 (Nat.le_of_lt h.g1)
/-- what lay there stands -/
theorem TS.below (h : TS w base g A c xs most As cs sums Aw cw wh Ab cb best few) (hb : Below w.heap.size w w') : TS w' base g A c xs most As cs sums Aw cw wh Ab cb best few := by
  have hc : ∀ j, w'.cell? ⟨g, j, none⟩ = w.cell? ⟨g, j, none⟩ := fun j => hb.cell h.g1
  have hf : ∀ j, w'.frozen? ⟨g, j, none⟩ = w.frozen? ⟨g, j, none⟩ := fun j => hb.frozen h.g1
  exact ⟨(hc 0).trans h.c0, (hc 1).trans h.c1, (hc 2).trans h.c2, (hc 3).trans h.c3, (hc 4).trans h.c4, (hc 5).trans h.c5, (hf 2).trans h.f2, (hf 3).trans h.f3, (hf 4).trans h.f4, (hf 5).trans h.f5,
    h.rd.below (hb.mono h.base_le), h.os.below hb, h.ow.below hb, h.ob.below hb, h.gs, h.gw, h.gb, h.sw, h.sb, h.wb, h.g0, by have := hb.size; have := h.g1; omega⟩
theorem cell_set {w : World} {g i j : Nat} (v : Value) (hij : j ≠ i) : (w.setCell ⟨g, i, none⟩ v).cell? ⟨g, j, none⟩ = w.cell? ⟨g, j, none⟩ := World.cell?_setCell_other w _ _ v (fun e => hij (by injection e with _ h _; exact h.symm))
theorem cell_setB {w : World} {g g' i j : Nat} (v : Value) (hij : g ≠ g') : (w.setCell ⟨g', i, none⟩ v).cell? ⟨g, j, none⟩ = w.cell? ⟨g, j, none⟩ := World.cell?_setCell_other w _ _ v (fun e => hij (by injection e with h _ _; exact h.symm))
/-- the sums have grown: the row is another one -/
theorem TS.growS (h : TS w base g A c xs most As cs sums Aw cw wh Ab cb best few) {As' : Option Addr} {cs' : Nat} {sums' : List Int} (ho : Own LI 2 w' base As' cs' sums') (hg : Grew w w' As As') :
    TS (w'.setCell ⟨g, 2, none⟩ (.slice As' sums'.length cs')) base g A c xs most As' cs' sums' Aw cw wh Ab cb best few := by
  have hc : ∀ j, w'.cell? ⟨g, j, none⟩ = w.cell? ⟨g, j, none⟩ := fun j => hg.cell _ h.g1 h.gs
  have hf : ∀ j, w'.frozen? ⟨g, j, none⟩ = w.frozen? ⟨g, j, none⟩ := fun j => hg.frozen _ h.g1 h.gs
  have hgs : blk As' ≠ some g := by
    rcases hg.place with e | e
    · rw [e]; exact h.gs
    · intro e2; have := e g e2; have := h.g1; omega
  have k1 := hg.own h.ow (fun g' e1 e2 => h.sw g' e2 e1)
  have k2 := hg.own h.ob (fun g' e1 e2 => h.sb g' e2 e1)
  have hbl := Grew.below (Below.refl base w) hg h.base_le (fun g' e => (h.os.blk_lt g' e).1)
  refine ⟨by rw [cell_set _ (by omega)]; exact (hc 0).trans h.c0, by rw [cell_set _ (by omega)]; exact (hc 1).trans h.c1, ?_, by rw [cell_set _ (by omega)]; exact (hc 3).trans h.c3, by rw [cell_set _ (by omega)]; exact (hc 4).trans h.c4, by rw [cell_set _ (by omega)]; exact (hc 5).trans h.c5,
    by simpa using (hf 2).trans h.f2, by simpa using (hf 3).trans h.f3, by simpa using (hf 4).trans h.f4, by simpa using (hf 5).trans h.f5,
    (h.rd.below hbl).setCell h.g0 _, ho.setFar hgs _, k1.1.setFar h.gw _, k2.1.setFar h.gb _, hgs, h.gw, h.gb, fun g' e1 e2 => k1.2 g' e2 e1, fun g' e1 e2 => k2.2 g' e2 e1, h.wb, h.g0, by have := hg.size; have := h.g1; simp; omega⟩
  have := (hc 2).trans h.c2
  exact World.cell?_setCell_same' _ _ _ (by rw [this]; rfl)
/-- a sum is written -/
theorem TS.setS {gs : Nat} (h : TS w base g A c xs most (some ⟨gs, 0, none⟩) cs sums Aw cw wh Ab cb best few) (k : Nat) (v : Int) :
    TS (w.setCell ⟨gs, k, none⟩ (.int .i64 v)) base g A c xs most (some ⟨gs, 0, none⟩) cs (sums.set k v) Aw cw wh Ab cb best few := by
  have hne : g ≠ gs := fun e => h.gs (by rw [e]; rfl)
  have hb := (h.os.blk_lt gs rfl).1
  refine ⟨by rw [cell_setB _ hne]; exact h.c0, by rw [cell_setB _ hne]; exact h.c1, by rw [cell_setB _ hne, List.length_set]; exact h.c2, by rw [cell_setB _ hne]; exact h.c3, by rw [cell_setB _ hne]; exact h.c4, by rw [cell_setB _ hne]; exact h.c5,
    by simpa using h.f2, by simpa using h.f3, by simpa using h.f4, by simpa using h.f5, h.rd.setCell hb _, h.os.setInt k v, h.ow.setFar (fun e => h.sw gs rfl e) _, h.ob.setFar (fun e => h.sb gs rfl e) _, h.gs, h.gw, h.gb, h.sw, h.sb, h.wb, h.g0, by have := h.g1; simpa using this⟩
/-- the list has grown: the row is another one -/
theorem TS.growW (h : TS w base g A c xs most As cs sums Aw cw wh Ab cb best few) {Aw' : Option Addr} {cw' : Nat} {wh' : List Int} (ho : Own LI 2 w' base Aw' cw' wh') (hg : Grew w w' Aw Aw') :
    TS (w'.setCell ⟨g, 3, none⟩ (.slice Aw' wh'.length cw')) base g A c xs most As cs sums Aw' cw' wh' Ab cb best few := by
  have hc : ∀ j, w'.cell? ⟨g, j, none⟩ = w.cell? ⟨g, j, none⟩ := fun j => hg.cell _ h.g1 h.gw
  have hf : ∀ j, w'.frozen? ⟨g, j, none⟩ = w.frozen? ⟨g, j, none⟩ := fun j => hg.frozen _ h.g1 h.gw
  have hgw : blk Aw' ≠ some g := by
    rcases hg.place with e | e
    · rw [e]; exact h.gw
    · intro e2; have := e g e2; have := h.g1; omega
  have k1 := hg.own h.os (fun g' e1 e2 => h.sw g' e1 e2)
  have k2 := hg.own h.ob (fun g' e1 e2 => h.wb g' e2 e1)
  have hbl := Grew.below (Below.refl base w) hg h.base_le (fun g' e => (h.ow.blk_lt g' e).1)
  refine ⟨by rw [cell_set _ (by omega)]; exact (hc 0).trans h.c0, by rw [cell_set _ (by omega)]; exact (hc 1).trans h.c1, by rw [cell_set _ (by omega)]; exact (hc 2).trans h.c2, ?_, by rw [cell_set _ (by omega)]; exact (hc 4).trans h.c4, by rw [cell_set _ (by omega)]; exact (hc 5).trans h.c5,
    by simpa using (hf 2).trans h.f2, by simpa using (hf 3).trans h.f3, by simpa using (hf 4).trans h.f4, by simpa using (hf 5).trans h.f5,
    (h.rd.below hbl).setCell h.g0 _, k1.1.setFar h.gs _, ho.setFar hgw _, k2.1.setFar h.gb _, h.gs, hgw, h.gb, fun g' e1 e2 => k1.2 g' e1 e2, h.sb, fun g' e1 e2 => k2.2 g' e2 e1, h.g0, by have := hg.size; have := h.g1; simp; omega⟩
  have := (hc 3).trans h.c3
  exact World.cell?_setCell_same' _ _ _ (by rw [this]; rfl)
theorem TS.takeW (h : TS w base g A c xs most As cs sums Aw cw wh Ab cb best few) {n : Nat} (hn : n ≤ wh.length) :
    TS (w.setCell ⟨g, 3, none⟩ (.slice Aw n cw)) base g A c xs most As cs sums Aw cw (wh.take n) Ab cb best few := by
  have e : (wh.take n).length = n := by simp; omega
  refine ⟨by rw [cell_set _ (by omega)]; exact h.c0, by rw [cell_set _ (by omega)]; exact h.c1, by rw [cell_set _ (by omega)]; exact h.c2, ?_, by rw [cell_set _ (by omega)]; exact h.c4, by rw [cell_set _ (by omega)]; exact h.c5,
    by simpa using h.f2, by simpa using h.f3, by simpa using h.f4, by simpa using h.f5, h.rd.setCell h.g0 _, h.os.setFar h.gs _, (h.ow.take n).setFar h.gw _, h.ob.setFar h.gb _, h.gs, h.gw, h.gb, h.sw, h.sb, h.wb, h.g0, by have := h.g1; simpa using this⟩
  have := h.c3
  rw [e]
  exact World.cell?_setCell_same' _ _ _ (by rw [this]; rfl)
theorem TS.takeS (h : TS w base g A c xs most As cs sums Aw cw wh Ab cb best few) {n : Nat} (hn : n ≤ sums.length) :
    TS (w.setCell ⟨g, 2, none⟩ (.slice As n cs)) base g A c xs most As cs (sums.take n) Aw cw wh Ab cb best few := by
  have e : (sums.take n).length = n := by simp; omega
  refine ⟨by rw [cell_set _ (by omega)]; exact h.c0, by rw [cell_set _ (by omega)]; exact h.c1, ?_, by rw [cell_set _ (by omega)]; exact h.c3, by rw [cell_set _ (by omega)]; exact h.c4, by rw [cell_set _ (by omega)]; exact h.c5,
    by simpa using h.f2, by simpa using h.f3, by simpa using h.f4, by simpa using h.f5, h.rd.setCell h.g0 _, (h.os.take n).setFar h.gs _, h.ow.setFar h.gw _, h.ob.setFar h.gb _, h.gs, h.gw, h.gb, h.sw, h.sb, h.wb, h.g0, by have := h.g1; simpa using this⟩
  have := h.c2
  rw [e]
  exact World.cell?_setCell_same' _ _ _ (by rw [this]; rfl)
/-- a better list is kept -/
theorem TS.keepBest (h : TS w base g A c xs most As cs sums Aw cw wh Ab cb best few) {Ab' : Option Addr} {cb' : Nat} {b' : List Int} (hb : Below w.heap.size w w') (ho : Own LI 2 w' w.heap.size Ab' cb' b') (f' : Int) :
    TS ((w'.setCell ⟨g, 4, none⟩ (.slice Ab' b'.length cb')).setCell ⟨g, 5, none⟩ (.int .i64 f')) base g A c xs most As cs sums Aw cw wh Ab' cb' b' f' := by
  have h' := h.below hb
  have hl := ho.blk_lt
  have hgb : blk Ab' ≠ some g := fun e => by have := hl g e; have := h.g1; omega
  refine ⟨by rw [cell_set _ (by omega), cell_set _ (by omega)]; exact h'.c0, by rw [cell_set _ (by omega), cell_set _ (by omega)]; exact h'.c1, by rw [cell_set _ (by omega), cell_set _ (by omega)]; exact h'.c2, by rw [cell_set _ (by omega), cell_set _ (by omega)]; exact h'.c3, ?_, ?_,
    by simpa using h'.f2, by simpa using h'.f3, by simpa using h'.f4, by simpa using h'.f5, (h'.rd.setCell h.g0 _).setCell h.g0 _, (h'.os.setFar h.gs _).setFar h.gs _, (h'.ow.setFar h.gw _).setFar h.gw _, ((ho.lower h.base_le).setFar hgb _).setFar hgb _, h.gs, h.gw, hgb, h.sw,
    fun g' e1 e2 => by have := h.os.blk_lt g' e1; have := hl g' e2; omega, fun g' e1 e2 => by have := h.ow.blk_lt g' e1; have := hl g' e2; omega, h.g0, by have := h'.g1; simpa using this⟩
  · rw [cell_set _ (by omega)]
    have := h'.c4
    exact World.cell?_setCell_same' _ _ _ (by rw [this]; rfl)
  · have := h'.c5
    have e : (w'.setCell ⟨g, 4, none⟩ (.slice Ab' b'.length cb')).cell? ⟨g, 5, none⟩ = some (.int .i64 few) := by rw [cell_set _ (by omega)]; exact this
    exact World.cell?_setCell_same' _ _ _ (by rw [e]; rfl)
end
end Go.Proofs.Ytcookepklcbfeaa
