/-
  Slices of structs of one-cell fields that came in as data: cells, whatever the number of fields (after the guide's extra block on structs).
-/
import Derived.Test.YtehmghlhljocbaaDoorOpen
import Derived.Lib.SmallJoins
import Derived.Deep.Slices
import Derived.Deep.Fields
import Derived.ChangeSame
namespace Go.Proofs.YtehmghlhljocbaaDoor
open Go.ChangeShapes Go.WideShapes Go.ChangeAt Go.RowKit Go.Joins Go.Deep

theorem open_fields_rd {H : Type} {enc : TypeId × Value → H} {W : World} {a : Option Addr} {len cap : Nat} {d : DataW H} {p : List MemPlace} {t e : TypeId} {fs : Array Field} {α : Type} (L : Lay α) (ok : α → Prop)
    (ht : Tryd.prog.underlying t = some (.slice e)) (he : Tryd.prog.underlying e = some (.struct fs)) (hone : oneCellFields Tryd.prog fs = true) (hC : Tryd.prog.cellsOf e = fs.size) (hL : L.sz = fs.size)
    (hval : ∀ (ad : Addr), ad.block < W.heap.size ∨ True → (∀ (j : Nat) (f : Field), fs[j]? = some f → ∃ (n : Nat) (v : Value) (y : DataW H × List MemPlace), W.cell? (ad.add j) = some v ∧ DataW.trod enc Tryd.prog W 0 (fun _ => true) true n f.type [v] = some y) →
      ∃ x : α, ok x ∧ ∀ (j : Nat) (u : Value), (L.f x)[j]? = some u → W.cell? (ad.add j) = some u)
    (h0 : DataW.Trod enc Tryd.prog W 0 (fun _ => true) true t (.slice a len cap) d p) :
    ∃ xs : List α, len = xs.length ∧ Rd L W W.heap.size a cap xs ∧ ∀ n ∈ xs, ok n := by
  obtain ⟨fuel, hf⟩ := h0
  rcases open_slice ht hf with ⟨hcs, _⟩ | ⟨x, l, c, m, n, D, Pl, hcs, hb, hl, hm, hmm, hx, hi⟩
  · simp [Value.cells] at hcs
    obtain ⟨rfl, rfl, rfl⟩ := hcs
    exact ⟨[], rfl, Rd.nil (by unfold maxLen; omega), fun n hn => by cases hn⟩
  · simp [Value.cells] at hcs
    obtain ⟨rfl, rfl, rfl⟩ := hcs
    simp at hmm
    subst hmm
    have hel : ∀ i, i < len → ∃ z : α, ok z ∧ ∀ (j : Nat) (u : Value), (L.f z)[j]? = some u → W.cell? ((x.add (i * L.sz)).add j) = some u := by
      intro i hil
      obtain ⟨cs', hc, ht'⟩ := hi i (by omega)
      rw [hC] at hc
      obtain ⟨ys, n', hn', hy, hlen, hyl, hff⟩ := DataW.trod_struct he ht'
      obtain ⟨_, hcl, hat⟩ := World.cells?_some hc
      refine hval _ (Or.inr trivial) fun j f hj => ?_
      obtain ⟨ho, hk⟩ := hone_of hone j f hj
      have hjl : j < fs.size := (Array.getElem?_eq_some_iff.1 hj).1
      have hcell := hat j hjl
      have h1 := hff j f hj
      rw [ho, hk] at h1
      have hone' : (cs'.drop j).take 1 = [cs'[j]'(by omega)] := by
        rw [List.drop_eq_getElem_cons (by omega)]
        rfl
      rw [hone'] at h1
      have hys : ys[j]? = some (ys[j]'(by omega)) := List.getElem?_eq_getElem (by omega)
      refine ⟨_, _, _, ?_, h1.trans hys⟩
      rw [hL, hcell, List.getElem?_eq_getElem (by omega)]
    have hall : ∀ k, k ≤ len → ∃ xs : List α, xs.length = k ∧ (∀ i (h : i < xs.length), ok xs[i] ∧ ∀ (j : Nat) (u : Value), (L.f xs[i])[j]? = some u → W.cell? ((x.add (i * L.sz)).add j) = some u) := by
      intro k
      induction k with
      | zero => exact fun _ => ⟨[], rfl, fun i h => by simp at h⟩
      | succ k ih =>
        intro hk
        obtain ⟨xs, hxl, hxs⟩ := ih (by omega)
        obtain ⟨z, hz, hzc⟩ := hel k (by omega)
        refine ⟨xs ++ [z], by simp [hxl], fun i h => ?_⟩
        by_cases hik : i < xs.length
        · rw [List.getElem_append_left hik]
          exact hxs i hik
        · have : i = xs.length := by simp at h; omega
          subst this
          rw [List.getElem_append_right (by omega)]
          simp only [Nat.sub_self, List.getElem_cons_zero]
          rw [hxl]
          exact ⟨hz, hzc⟩
    obtain ⟨xs, hxl, hxs⟩ := hall len (Nat.le_refl _)
    refine ⟨xs, hxl.symm, ⟨by omega, hm, fun i hil => ?_⟩, fun z hz => ?_⟩
    · have hcc := (hxs i hil).2
      have hpos := L.pos
      obtain ⟨u, hu⟩ : ∃ u, (L.f xs[i])[0]? = some u := by
        have := L.len xs[i]
        exact ⟨_, List.getElem?_eq_getElem (by omega)⟩
      refine ⟨x, rfl, ?_, fun j u hu => ?_⟩
      · have := World.block_lt_of_cell? W _ (hcc 0 u hu)
        rwa [block_of_add, block_of_add] at this
      · rw [← add_of_add]
        exact hcc j u hu
    · obtain ⟨i, hi, rfl⟩ := List.mem_iff_getElem.1 hz
      exact (hxs i hi).1
end Go.Proofs.YtehmghlhljocbaaDoor
