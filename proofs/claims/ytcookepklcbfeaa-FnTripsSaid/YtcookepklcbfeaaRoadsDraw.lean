/-
  Draws of tables of roads.
-/
import Derived.Test.YtcookepklcbfeaaSrc3
import Derived.Test.YtcookepklcbfeaaGrid
import Derived.Test.YtcookepklcbfeaaNumSS
import Derived.Test.YtcookepklcbfeaaSteps
import Derived.Deep.CutRange
import Derived.Deep.CutBlock
import Derived.Deep.RegionHeld3
import Derived.RegionTactic
import Derived.BigRegion
namespace Go.Proofs.Ytcookepklcbfeaa
open Go.ChangeShapes Go.WideShapes Go.RowKit

theorem Grew.below' {w w' : World} {A A' : Option Addr} {B : Nat} (h : Grew w w' A A') (hB : B ≤ w.heap.size) (hA : ∀ b, blk A = some b → B ≤ b) : Below B w w' := Grew.below (Below.refl B w) h hB hA
theorem Fs.ownR {g : Nat} {w w' : World} (h : Fs g w w') {T1 T2 : TypeId} {base c : Nat} {A : Option Addr} {rs : List (Row Int)} (hr : OwnR LI T1 T2 w base A c rs) (hg : g < base) : OwnR LI T1 T2 w' base A c rs :=
  hr.keepBlk (fun b e => h.block b (hr.blk_lt.1 b e).2 (by have := (hr.blk_lt.1 b e).1; omega)) (fun r hm b e => h.block b (hr.blk_lt.2 r hm b e).2 (by have := (hr.blk_lt.2 r hm b e).1; omega))
theorem Fs.rdL {α : Type} {L : Lay α} {g : Nat} {w w' : World} {B c : Nat} {A : Option Addr} {xs : List α} (hF : Fs g w w') (h : Rd L w B A c xs) (hB : B ≤ w.heap.size) (hn : ∀ b, blk A = some b → b ≠ g) : Rd L w' B A c xs :=
  ⟨h.le, h.cap, fun i hi => by
    obtain ⟨ad, e, hb, hc⟩ := h.at_ i hi
    refine ⟨ad, e, hb, fun j u hu => ?_⟩
    rw [← hc j u hu]
    refine hF.cell _ (by rw [block_of_add]; omega) ?_
    rw [block_of_add]
    exact hn ad.block (by rw [e]; rfl)⟩
/-- numbers from the second on -/
theorem Own.tail {T : TypeId} {w : World} {base c Gi : Nat} {xs : List Int} (h : Own LI T w base (some ⟨Gi, 0, none⟩) c xs) {X : Addr} (hX : X = if c = 1 then (⟨Gi, 0, none⟩ : Addr) else ⟨Gi, 1, none⟩) : Rd LI w w.heap.size (some X) (c - 1) (xs.drop 1) := by
  have hle := h.le
  have hcap := h.cap
  refine ⟨by simp at hle ⊢; omega, by omega, fun i hi => ?_⟩
  have hi2 : 1 + i < xs.length := by simp at hi ⊢; omega
  obtain ⟨ad, e, hb, hc⟩ := h.rd.at_ (1 + i) hi2
  cases e
  have hc1 : ¬ c = 1 := by omega
  rw [if_neg hc1] at hX
  subst hX
  refine ⟨_, rfl, hb, fun j u hu => ?_⟩
  have := hc j u (by simpa [Nat.add_comm] using hu)
  rw [add_lit] at this
  rw [show ((⟨Gi, 1, none⟩ : Addr).add (i * LI.sz + j)) = ⟨Gi, (1 + i) * LI.sz + j, none⟩ by simp [LI, Addr.add]; split <;> simp <;> omega]
  exact this
/-- its blocks lie from b on -/
def Hi (b : Nat) (A : Option Addr) (rs : List (Row Int)) : Prop := (∀ k, blk A = some k → b ≤ k) ∧ ∀ r ∈ rs, ∀ k, blk r.1 = some k → b ≤ k
theorem Fs.rdR {g b : Nat} {w w' : World} {c : Nat} {A : Option Addr} {rs : List (Row Int)} (hF : Fs g w w') (h : RdR LI w w.heap.size A c rs) (hh : Hi b A rs) (hg : g < b) : RdR LI w' w'.heap.size A c rs :=
  ⟨(hF.rdL h.out (Nat.le_refl _) (fun k e => by have := hh.1 k e; omega)).more hF.size, fun r hr => (hF.rdL (h.inn r hr) (Nat.le_refl _) (fun k e => by have := hh.2 r hr k e; omega)).more hF.size⟩
/-- a table of n rows of n numbers, the call's own -/
def Mx (n : Nat) (w : World) (base : Nat) (A : Option Addr) (c : Nat) : Prop :=
  ∃ rs : List (Row Int), rs.length = n ∧ (∀ r ∈ rs, r.2.2.length = n) ∧ OwnR LI 24 2 w base A c rs
section
variable {n : Nat} {w w' : World} {base c g : Nat} {A : Option Addr}
theorem Mx.fs (h : Mx n w base A c) (hF : Fs g w w') (hg : g < base) : Mx n w' base A c := by
  obtain ⟨rs, h1, h2, h3⟩ := h
  exact ⟨rs, h1, h2, hF.ownR h3 hg⟩
theorem Mx.dr (h : Mx n w base A c) : Mx n w.drew base A c := by
  obtain ⟨rs, h1, h2, h3⟩ := h
  exact ⟨rs, h1, h2, ⟨h3.out, h3.inn, h3.ap⟩⟩
theorem Mx.al (h : Mx n w base A c) (o : Obj) : Mx n (w.alloc o) base A c := by
  obtain ⟨rs, h1, h2, h3⟩ := h
  exact ⟨rs, h1, h2, h3.below ((Below.refl _ _).alloc (Nat.le_refl _) _)⟩
/-- a row: its header, its cells, and what a store leaves -/
theorem Mx.row (h : Mx n w base A c) {i : Nat} (hi : i < n) : ∃ G Gi ci, A = some ⟨G, 0, none⟩ ∧ base ≤ G ∧ G < w.heap.size ∧ base ≤ Gi ∧ Gi < w.heap.size ∧ w.cell? ⟨G, i, none⟩ = some (.slice (some ⟨Gi, 0, none⟩) n ci) ∧ w.frozen? ⟨G, i, none⟩ = false ∧ G ≠ Gi ∧
    (∀ k, k < n → ∃ old, w.cell? ⟨Gi, k, none⟩ = some (.int .i64 old) ∧ w.frozen? ⟨Gi, k, none⟩ = false) ∧ ∀ k (v : Int), k < n → Mx n (w.setCell ⟨Gi, k, none⟩ (.int .i64 v)) base A c := by
  obtain ⟨rs, h1, h2, h3⟩ := h
  have hir : i < rs.length := by omega
  obtain ⟨G, hA, hGb, hGl, hc, hf, ho⟩ := h3.at_ hir
  have hl := h2 _ (List.getElem_mem hir)
  rw [hl] at hc
  obtain ⟨Gi, hAi, hGib, hGil, _, _⟩ := ho.int (k := 0) (by omega)
  rw [hAi] at hc
  refine ⟨G, Gi, rs[i].2.1, hA, hGb, hGl, hGib, hGil, hc, hf, ?_, ?_, ?_⟩
  · intro e
    exact own_types h3.out ho (by decide) G (by rw [hA]; rfl) (by rw [hAi, e]; rfl)
  · intro k hk
    obtain ⟨Gk, hAk, _, _, hck, hfk⟩ := ho.int (k := k) (by omega)
    rw [hAi] at hAk
    cases hAk
    exact ⟨_, hck, hfk⟩
  · intro k v hk
    refine ⟨_, by rw [List.length_set]; exact h1, ?_, h3.setInt (by decide) hir hAi k v⟩
    intro r hr
    rcases List.mem_or_eq_of_mem_set hr with e | e
    · exact h2 r e
    · rw [e]; simp only [List.length_set]; exact hl
theorem Mx.rd (h : Mx n w base A c) : ∃ rs : List (Row Int), rs.length = n ∧ RdR LI w w.heap.size A c rs ∧ Hi base A rs := by
  obtain ⟨rs, h1, h2, h3⟩ := h
  exact ⟨rs, h1, h3.rd, fun k e => (h3.blk_lt.1 k e).1, fun r hr k e => (h3.blk_lt.2 r hr k e).1⟩
/-- 'out[0] = out[0][1:]' -/
theorem Mx.cut0 (h : Mx n w base A c) (h0 : 0 < n) : ∃ G Gi ci, A = some ⟨G, 0, none⟩ ∧ base ≤ G ∧ G < w.heap.size ∧ w.cell? ⟨G, 0, none⟩ = some (.slice (some ⟨Gi, 0, none⟩) n ci) ∧ w.frozen? ⟨G, 0, none⟩ = false ∧ n ≤ ci ∧ ci ≤ maxLen ∧
    ∀ X : Addr, X = (if ci = 1 then (⟨Gi, 0, none⟩ : Addr) else ⟨Gi, 1, none⟩) → ∃ rs : List (Row Int), rs.length = n ∧ RdR LI (w.setCell ⟨G, 0, none⟩ (.slice (some X) (n - 1) (ci - 1))) w.heap.size A c rs ∧ Hi base A rs := by
  obtain ⟨rs, h1, h2, h3⟩ := h
  have hir : 0 < rs.length := by omega
  obtain ⟨G, rfl, hGb, hGl, hc, hf, ho⟩ := h3.at_ hir
  have hl := h2 _ (List.getElem_mem hir)
  rw [hl] at hc
  obtain ⟨Gi, hAi, hGib, hGil, _, _⟩ := ho.int (k := 0) (by omega)
  rw [hAi] at hc
  have hle := ho.le
  have hcap := ho.cap
  refine ⟨G, Gi, rs[0].2.1, rfl, hGb, hGl, hc, hf, by omega, hcap, ?_⟩
  intro X hX
  refine ⟨rs.set 0 (some X, rs[0].2.1 - 1, rs[0].2.2.drop 1), by rw [List.length_set]; exact h1, ⟨?_, ?_⟩, ?_, ?_⟩
  · have h4 := (h3.out.setVal 0 (some X, n - 1, rs[0].2.1 - 1)).rd
    rw [List.map_set, show hd ((some X, rs[0].2.1 - 1, rs[0].2.2.drop 1) : Row Int) = (some X, n - 1, rs[0].2.1 - 1) by simp [hd, hl]]
    simpa using h4
  · intro r hr
    rcases List.mem_or_eq_of_mem_set hr with e | e
    · have h5 := ((h3.inn r e).setFar (p := ⟨G, 0, none⟩) (fun e2 => own_types h3.out (h3.inn r e) (by decide) G rfl e2) (.slice (some X) (n - 1) (rs[0].2.1 - 1))).rd
      simpa using h5
    · rw [e]
      have h5 := ho.setFar (p := ⟨G, 0, none⟩) (fun e2 => own_types h3.out ho (by decide) G rfl e2) (.slice (some X) (n - 1) (rs[0].2.1 - 1))
      rw [hAi] at h5
      have h6 := h5.tail hX
      simpa using h6
  · intro k e
    simp [blk] at e
    omega
  · intro r hr k e
    rcases List.mem_or_eq_of_mem_set hr with e2 | e2
    · exact (h3.blk_lt.2 r e2 k e).1
    · rw [e2] at e
      simp [blk] at e
      rw [hX] at e
      split at e <;> (simp at e; omega)
end
def DrewRo (g : Nat) (A : Option Addr) (c : Nat) (cs : List Int) (m : Nat) (w : World) (e : Ending) (w' : World) : Prop :=
  ∃ (Bo : Option Addr) (d : Nat) (rs : List (Row Int)), e = .returned (.slice Bo rs.length d) ∧ 1 ≤ rs.length ∧ rs.length ≤ 9 ∧ RdR LI w' w'.heap.size Bo d rs ∧ Hi w.heap.size Bo rs ∧ Sr w' g A c cs m ∧ Fs g w w'
end Go.Proofs.Ytcookepklcbfeaa
