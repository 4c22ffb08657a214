/-
  Pairs: all lists of different numbers in order; the best of them.
-/
import Derived.Test.YtofcmljnckdknaaPlain
namespace Go.Proofs.Ytofcmljnckdknaa

/-- all lists of m more different numbers below n, in order, behind dn -/
def injs (n : Nat) : Nat → List Int → List (List Int)
  | 0, dn => [dn]
  | m + 1, dn => (List.range n).flatMap fun (k : Nat) => if dn.contains (k : Int) = true then [] else injs n m (dn ++ [(k : Int)])
/-- those of the first k choices -/
def injK (n m : Nat) (dn : List Int) (k : Nat) : List (List Int) := (List.range k).flatMap fun (k : Nat) => if dn.contains (k : Int) = true then [] else injs n m (dn ++ [(k : Int)])
theorem injs_zero (n : Nat) (dn : List Int) : injs n 0 dn = [dn] := rfl
theorem injs_succ (n m : Nat) (dn : List Int) : injs n (m + 1) dn = injK n m dn n := rfl
theorem injK_succ (n m : Nat) (dn : List Int) (k : Nat) : injK n m dn (k + 1) = injK n m dn k ++ (if dn.contains (k : Int) = true then [] else injs n m (dn ++ [(k : Int)])) := by
  unfold injK
  rw [List.range_succ, List.flatMap_append]
  simp
theorem injK_yes {n m : Nat} {dn : List Int} {k : Nat} (h : dn.contains (k : Int) = true) : injK n m dn (k + 1) = injK n m dn k := by rw [injK_succ, if_pos h, List.append_nil]
theorem injK_no {n m : Nat} {dn : List Int} {k : Nat} (h : dn.contains (k : Int) = false) : injK n m dn (k + 1) = injK n m dn k ++ injs n m (dn ++ [(k : Int)]) := by rw [injK_succ, h]; rfl
/-- the worth at a place -/
def wAt (X : List (List Int)) (i : Nat) (k : Int) : Int := (X.getD i []).getD k.toNat 0
def wS (X : List (List Int)) (own : List Int) : Int := sm ((List.range own.length).map fun i => wAt X i (own.getD i 0))
theorem wS_nil (X : List (List Int)) : wS X [] = 0 := rfl
theorem wS_snoc (X : List (List Int)) (own : List Int) (k : Int) : wS X (own ++ [k]) = wS X own + wAt X own.length k := by
  unfold wS
  rw [List.length_append, List.length_singleton, List.range_succ, List.map_append, sm_append]
  congr 1
  · congr 1
    apply List.map_congr_left
    intro i hi
    have : i < own.length := by simpa using hi
    rw [List.getD_eq_getElem?_getD, List.getElem?_append_left this, List.getD_eq_getElem?_getD]
  · simp [sm]
/-- the tables' numbers -/
def WkX (X : List (List Int)) : Prop := ∀ r ∈ X, ∀ v ∈ r, 0 ≤ v ∧ v ≤ 1000
theorem wAt_bd {X : List (List Int)} (h : WkX X) (i : Nat) (k : Int) : 0 ≤ wAt X i k ∧ wAt X i k ≤ 1000 := by
  unfold wAt
  by_cases hi : i < X.length
  · have e : X.getD i [] = X[i] := by simp [List.getD, hi]
    rw [e]
    by_cases hk : k.toNat < X[i].length
    · have e2 : X[i].getD k.toNat 0 = X[i][k.toNat] := by simp [List.getD, hk]
      rw [e2]
      exact h _ (List.getElem_mem hi) _ (List.getElem_mem hk)
    · have e2 : X[i].getD k.toNat 0 = 0 := by rw [List.getD_eq_getElem?_getD, List.getElem?_eq_none (by omega)]; rfl
      omega
  · have e : X.getD i [] = [] := by rw [List.getD_eq_getElem?_getD, List.getElem?_eq_none (by omega)]; rfl
    rw [e]
    simp
theorem wS_bd {X : List (List Int)} (h : WkX X) (own : List Int) : 0 ≤ wS X own ∧ wS X own ≤ 1000 * own.length := by
  unfold wS
  refine ⟨sm_nonneg fun v hv => ?_, ?_⟩
  · obtain ⟨i, _, rfl⟩ := List.mem_map.1 hv
    exact (wAt_bd h _ _).1
  · have := sm_le (M := 1000) (xs := (List.range own.length).map fun i => wAt X i (own.getD i 0)) (fun v hv => by
      obtain ⟨i, _, rfl⟩ := List.mem_map.1 hv
      exact (wAt_bd h _ _).2)
    rw [List.length_map, List.length_range] at this
    omega
/-- a better list takes the place of the best -/
def stp (X : List (List Int)) (st : List Int × Int) (own : List Int) : List Int × Int := if st.2 < wS X own then (own, wS X own) else st
theorem stp_yes {X : List (List Int)} {st : List Int × Int} {own : List Int} (h : st.2 < wS X own) : stp X st own = (own, wS X own) := if_pos h
theorem stp_no {X : List (List Int)} {st : List Int × Int} {own : List Int} (h : wS X own ≤ st.2) : stp X st own = st := if_neg (by omega)
def hnd (cs own : List Int) : List Int := own.map fun k => cs.getD k.toNat 0
theorem hnd_len (cs own : List Int) : (hnd cs own).length = own.length := by simp [hnd]
theorem hnd_snoc (cs own : List Int) (k : Int) : hnd cs (own ++ [k]) = hnd cs own ++ [cs.getD k.toNat 0] := by simp [hnd]
/-- a list of numbers below n, at most so many -/
def LtL (n : Nat) (l : List Int) : Prop := ∀ k ∈ l, 0 ≤ k ∧ k < n
theorem LtL.snoc {n : Nat} {l : List Int} (h : LtL n l) {k : Nat} (hk : k < n) : LtL n (l ++ [(k : Int)]) := by
  intro x hx
  rcases List.mem_append.1 hx with hx | hx
  · exact h x hx
  · simp at hx; subst hx; omega
theorem LtL.nil (n : Nat) : LtL n [] := fun _ h => by cases h
theorem injs_all (n m : Nat) : ∀ (dn : List Int), LtL n dn → ∀ l ∈ injs n m dn, l.length = dn.length + m ∧ LtL n l := by
  induction m with
  | zero => intro dn hd l hl; simp [injs] at hl; subst hl; exact ⟨rfl, hd⟩
  | succ m ih =>
    intro dn hd l hl
    simp only [injs, List.mem_flatMap, List.mem_range] at hl
    obtain ⟨k, hk, hl⟩ := hl
    split at hl
    · cases hl
    · obtain ⟨h1, h2⟩ := ih _ (hd.snoc hk) l hl
      exact ⟨by rw [h1]; simp; omega, h2⟩
/-- what is kept as the best: a list of this kind or the first -/
theorem fold_keep (P : List Int → Prop) (X : List (List Int)) (ls : List (List Int)) (h : ∀ l ∈ ls, P l) : ∀ st : List Int × Int, P st.1 → P (ls.foldl (stp X) st).1 := by
  induction ls with
  | nil => intro st hs; exact hs
  | cons l ls ih =>
    intro st hs
    simp only [List.foldl_cons]
    refine ih (fun l hl => h l (List.mem_cons_of_mem _ hl)) _ ?_
    unfold stp
    split
    · exact h l List.mem_cons_self
    · exact hs
theorem fold_lo {X : List (List Int)} (hX : WkX X) {B : Nat} (ls : List (List Int)) (h : ∀ l ∈ ls, l.length ≤ B) : ∀ st : List Int × Int, -1 ≤ st.2 → st.2 ≤ 1000 * B → -1 ≤ (ls.foldl (stp X) st).2 ∧ (ls.foldl (stp X) st).2 ≤ 1000 * B := by
  induction ls with
  | nil => intro st hs h2; exact ⟨hs, h2⟩
  | cons l ls ih =>
    intro st hs h2
    simp only [List.foldl_cons]
    have hl := h l List.mem_cons_self
    have hb := wS_bd hX l
    refine ih (fun l hl => h l (List.mem_cons_of_mem _ hl)) _ ?_ ?_
    · unfold stp; split
      · simp; omega
      · exact hs
    · unfold stp; split
      · simp; omega
      · exact h2
end Go.Proofs.Ytofcmljnckdknaa
