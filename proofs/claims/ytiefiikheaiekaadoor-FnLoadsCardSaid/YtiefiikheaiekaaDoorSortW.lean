/-
  slices.Sort over the call's own numbers.
-/
import Derived.Test.YtiefiikheaiekaaDoorSortLayY
import Derived.Test.YtiefiikheaiekaaDoorNum
import Derived.Test.YtiefiikheaiekaaDoorFlat0
namespace Go.Proofs.YtiefiikheaiekaaDoor
open Go.ChangeShapes Go.WideShapes Go.RowKit

theorem own_put {T : TypeId} {w : World} {base c g : Nat} {xs ys : List Int} (h : Own LI T w base (some ⟨g, 0, none⟩) c xs) (hl : ys.length = xs.length) :
    Own LI T (Sort.putRow (Value.int .i64) w g 0 ys.toArray) base (some ⟨g, 0, none⟩) c ys ∧ Below base w (Sort.putRow (Value.int .i64) w g 0 ys.toArray) := by
  by_cases hg : base ≤ g
  rotate_left
  · exact absurd (h.blk_lt g rfl).1 hg
  have key : ∀ k, k ≤ xs.length → Own LI T (Sort.putRow (Value.int .i64) w g 0 (ys.take k ++ xs.drop k).toArray) base (some ⟨g, 0, none⟩) c (ys.take k ++ xs.drop k) ∧ Below base w (Sort.putRow (Value.int .i64) w g 0 (ys.take k ++ xs.drop k).toArray) := by
    intro k
    induction k with
    | zero =>
      intro _
      have hH : Sort.Holds (Value.int .i64) w g 0 xs.toArray := by
        intro j hj
        have hj' : j < xs.length := by simpa using hj
        obtain ⟨g', e, _, _, hc, hf⟩ := h.int hj'
        cases e
        rw [Nat.zero_add]
        refine ⟨?_, hf⟩
        rw [hc]
        simp [hj']
      have e := Sort.putRow_self (Value.int .i64) w g 0 xs.toArray hH
      simp only [List.take_zero, List.drop_zero, List.nil_append]
      rw [e]
      exact ⟨h, Below.refl _ _⟩
    | succ k ih =>
      intro hk
      obtain ⟨h1, h2⟩ := ih (by omega)
      have e := Sort.putRow_set (Value.int .i64) w g 0 (ys.take k ++ xs.drop k).toArray k (ys[k]'(by omega)) (by simp; omega)
      have e2 : (ys.take k ++ xs.drop k).toArray.setIfInBounds k (ys[k]'(by omega)) = (ys.take (k + 1) ++ xs.drop (k + 1)).toArray := by
        rw [← paint_step ys xs hl (by omega)]
        simp
      rw [e2, Nat.zero_add] at e
      rw [← e]
      have h3 := h1.setInt k (ys[k]'(by omega))
      rw [paint_step ys xs hl (by omega)] at h3
      exact ⟨h3, h2.setCell hg _⟩
  have := key xs.length (Nat.le_refl _)
  rw [List.take_of_length_le (by omega), List.drop_of_length_le (Nat.le_refl _), List.append_nil] at this
  exact this
theorem own_grow {T : TypeId} {w : World} {base c : Nat} {A : Option Addr} {xs : List Int} (h : Own LI T w base A c xs) (os : Array Obj) : Own LI T (Sort.grow w os) base A c xs :=
  h.keepBlk fun g hg => by
    have := (h.blk_lt g hg).2
    simp only [Sort.grow]
    rw [Array.getElem?_append_left this]
theorem below_grow {B : Nat} {w0 w : World} (h : Below B w0 w) (hB : B ≤ w.heap.size) (os : Array Obj) : Below B w0 (Sort.grow w os) := by
  refine ⟨h.os, h.tape, h.output, ?_, fun k hk => ?_⟩
  · have := h.size
    simp [Sort.grow]
    omega
  · rw [← h.block k hk]
    simp only [Sort.grow]
    rw [Array.getElem?_append_left (by omega)]
def srt (xs : List Int) : List Int := xs.mergeSort fun x y => decide (x ≤ y)
theorem srt_len (xs : List Int) : (srt xs).length = xs.length := List.length_mergeSort xs
theorem sort_any (A : Option Addr) (c : Nat) (xs : List Int) (base : Nat) (w : World) (h : Own LI 2 w base A c xs) (hbase : base ≤ w.heap.size) (hn : xs.length < 4611686018427387904) :
    Calls Tryd.prog 66 #[.slice A xs.length c] w fun e w' => e = .returned (.tuple #[]) ∧ Own LI 2 w' base A c (srt xs) ∧ Below base w w' := by
  by_cases h0 : xs.length = 0
  · have e0 : xs = [] := List.length_eq_zero_iff.1 h0
    subst e0
    have := AnyG.slices_Sort_int_none Tryd.sortI A c w
    change Calls Tryd.prog 66 _ _ _ at this
    refine this.mono ?_
    rintro e w' ⟨rfl, rfl⟩
    exact ⟨rfl, by simpa [srt] using h, Below.refl _ _⟩
  · obtain ⟨g, rfl, hg1, hg2⟩ := h.ptr (by omega)
    have hH : Sort.Holds (Value.int .i64) w g 0 xs.toArray := by
      intro j hj
      have hj' : j < xs.length := by simpa using hj
      obtain ⟨g', e, _, _, hc, hf⟩ := h.int hj'
      cases e
      rw [Nat.zero_add]
      refine ⟨?_, hf⟩
      rw [hc]
      simp [hj']
    have := AnyG.slices_Sort_int Tryd.sortI g 0 c xs w hH hg2 hn
    change Calls Tryd.prog 66 _ _ _ at this
    refine this.mono ?_
    rintro e w' ⟨rfl, n, os, rfl⟩
    have ha : Own LI 2 (Sort.ahead w n) base (some ⟨g, 0, none⟩) c xs := h
    have hp := own_put ha (srt_len xs)
    have hb0 : Below base w (Sort.ahead w n) := ⟨rfl, rfl, rfl, Nat.le_refl _, fun _ _ => rfl⟩
    have hb1 := hb0.trans hp.2
    refine ⟨rfl, own_grow hp.1 os, below_grow hb1 ?_ os⟩
    have := hb1.size
    omega
end Go.Proofs.YtiefiikheaiekaaDoor
