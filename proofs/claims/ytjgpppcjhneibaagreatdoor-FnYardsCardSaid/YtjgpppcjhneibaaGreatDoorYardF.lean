/-
  Yards: MovePack of both.
-/
import Derived.Test.YtjgpppcjhneibaaGreatDoorYardE
import Derived.RegionTactic
import Derived.BigRegion
namespace Go.Proofs.YtjgpppcjhneibaaGreatDoor
open Go.ChangeShapes Go.WideShapes Go.RowKit

theorem mvOk_iff {X : List (List Int)} {f t : Int} : mvOk X f t = true ↔ 0 ≤ f ∧ f ≤ (X.length : Int) - 1 ∧ 0 < (X.getD f.toNat []).length ∧ t ≠ f ∧ -1 ≤ t ∧ t ≤ (X.length : Int) - 1 := by unfold mvOk; exact decide_eq_true_iff
theorem OwnR.appRow {α : Type} {Li : Lay α} {T1 T2 : TypeId} {w w' : World} {base c g : Nat} {rs : List (Row α)} (h : OwnR Li T1 T2 w base (some ⟨g, 0, none⟩) c rs) (hT : T1 ≠ T2) {i : Nat} (hi : i < rs.length) (r : Row α) (hr : Own Li T2 w' base r.1 r.2.1 r.2.2) (hg : Grew w w' rs[i].1 r.1) :
    OwnR Li T1 T2 (w'.setCell ⟨g, i, none⟩ (.slice r.1 r.2.2.length r.2.1)) base (some ⟨g, 0, none⟩) c (rs.set i r) := by
  have hout := Grew.own hg h.out (fun g' e1 e2 => own_types h.out (h.inn _ (List.getElem_mem hi)) hT g' e1 e2)
  have hne : ∀ {s : Row α}, Own Li T2 w' base s.1 s.2.1 s.2.2 → blk s.1 ≠ some g := fun hs e => own_types hout.1 hs hT g rfl e
  have hoth : ∀ j (hj : j < rs.length), j ≠ i → Own Li T2 w' base rs[j].1 rs[j].2.1 rs[j].2.2 ∧ Ap rs[j].1 r.1 := fun j hj e => by
    have := Grew.own hg (h.inn _ (List.getElem_mem hj)) (fun g' e1 e2 => h.apart hj hi e g' e1 e2)
    exact ⟨this.1, this.2⟩
  refine ⟨?_, ?_, pair_set h.ap i r fun j hj e => (hoth j hj e).2⟩
  · rw [List.map_set]
    exact hout.1.setVal i (hd r)
  · intro s hs
    obtain ⟨j, hj, rfl⟩ := List.mem_iff_getElem.1 hs
    simp only [List.length_set] at hj
    rw [List.getElem_set]
    by_cases e : i = j
    · subst e
      rw [if_pos rfl]
      exact hr.setFar (hne hr) _
    · rw [if_neg e]
      have h1 := (hoth j hj (fun h => e h.symm)).1
      exact h1.setFar (hne h1) _
theorem OwnR.dr {α : Type} {Li : Lay α} {T1 T2 : TypeId} {w : World} {base c : Nat} {A : Option Addr} {rs : List (Row α)} (h : OwnR Li T1 T2 w base A c rs) : OwnR Li T1 T2 w.drew base A c rs := ⟨h.out, h.inn, h.ap⟩
theorem OwnR.al {α : Type} {Li : Lay α} {T1 T2 : TypeId} {w : World} {base c : Nat} {A : Option Addr} {rs : List (Row α)} (h : OwnR Li T1 T2 w base A c rs) (o : Obj) : OwnR Li T1 T2 (w.alloc o) base A c rs := h.below ((Below.refl _ _).alloc (Nat.le_refl _) o)
theorem mvX_drop (X : List (List Int)) {f : Nat} (hf : f < X.length) : mvX X f (-1) = X.set f ((X.getD f []).take ((X.getD f []).length - 1)) := by
  apply List.ext_getElem
  · simp [mvX]
  · intro i h1 h2
    simp only [mvX, List.getElem_map, List.getElem_range]
    rw [List.getElem_set]
    have hi : i < X.length := by simpa [mvX] using h1
    unfold mvRow
    by_cases e : f = i
    · subst e; rw [if_pos rfl, if_pos rfl]
    · rw [if_neg (by omega), if_neg (by omega), if_neg e, getD_lt X [] hi]
theorem mvX_both (X : List (List Int)) {f t : Nat} (hf : f < X.length) (ht : t < X.length) (hne : t ≠ f) : mvX X f t = (X.set f ((X.getD f []).take ((X.getD f []).length - 1))).set t (X.getD t [] ++ [topL (X.getD f [])]) := by
  apply List.ext_getElem
  · simp [mvX]
  · intro i h1 h2
    simp only [mvX, List.getElem_map, List.getElem_range]
    rw [List.getElem_set, List.getElem_set]
    have hi : i < X.length := by simpa [mvX] using h1
    unfold mvRow
    rw [Int.toNat_natCast]
    by_cases e : t = i
    · subst e; rw [if_pos rfl, if_neg (by omega), if_pos rfl]
    · rw [if_neg e]
      by_cases e2 : f = i
      · subst e2; rw [if_pos rfl, if_pos rfl]
      · rw [if_neg (by omega), if_neg (by omega), if_neg e2, getD_lt X [] hi]

end Go.Proofs.YtjgpppcjhneibaaGreatDoor
