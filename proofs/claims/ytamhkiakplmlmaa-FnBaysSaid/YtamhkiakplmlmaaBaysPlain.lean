/-
  Bays for a wall, in numbers: the spec's table (fewest bays, then the least length) and what can be reached with so many bays.
-/
import Derived.Test.YtamhkiakplmlmaaPlain
namespace Go.Proofs.Ytamhkiakplmlmaa

/-- can k bays of these sizes (in steps) have the sum s? -/
def reach (as : List Int) : Nat → Int → Bool
  | 0, s => s == 0
  | k + 1, s => as.any fun a => reach as k (s - a)
theorem reach_nn {as : List Int} (ha : ∀ a ∈ as, 0 ≤ a) {k : Nat} {s : Int} (h : reach as k s = true) : 0 ≤ s := by
  induction k generalizing s with
  | zero => simp [reach] at h; omega
  | succ k ih =>
    obtain ⟨a, hm, hr⟩ := List.any_eq_true.1 h
    have := ih hr
    have := ha a hm
    omega
theorem reach_le {as : List Int} {M : Int} (ha : ∀ a ∈ as, a ≤ M) {k : Nat} {s : Int} (h : reach as k s = true) : s ≤ k * M := by
  induction k generalizing s with
  | zero => simp [reach] at h; omega
  | succ k ih =>
    obtain ⟨a, hm, hr⟩ := List.any_eq_true.1 h
    have := ih hr
    have := ha a hm
    rw [Int.natCast_succ, Int.add_mul]
    omega
theorem reach_all {as : List Int} {M : Int} (hM : M ∈ as) (k : Nat) : reach as k (k * M) = true := by
  induction k with
  | zero => simp [reach]
  | succ k ih =>
    refine List.any_eq_true.2 ⟨M, hM, ?_⟩
    rw [show ((k + 1 : Nat) : Int) * M - M = k * M by rw [Int.natCast_succ, Int.add_mul]; omega]
    exact ih

/-- one step of the spec's inner loop: the row so far (few, over, pick), the size at k -/
def bstep (T : List (Int × Int × Int)) (n : Int) (as : List Int) (st : Int × Int × Int) (k : Nat) : Int × Int × Int :=
  let a := as.getD k 0
  let rest := max 0 (n - a)
  let r := T.getD rest.toNat (0, 0, 0)
  let more := if a > n then a - n else r.2.1
  if k = 0 ∨ r.1 + 1 < st.1 ∨ (r.1 + 1 = st.1 ∧ more < st.2.1) then (r.1 + 1, more, (k : Int)) else st
def brow (T : List (Int × Int × Int)) (n : Int) (as : List Int) (k : Nat) : Int × Int × Int := (List.range k).foldl (bstep T n as) (0, 0, 0)
def btab (as : List Int) : Nat → List (Int × Int × Int)
  | 0 => [(0, 0, 0)]
  | n + 1 => btab as n ++ [brow (btab as n) (n + 1) as as.length]
theorem btab_len (as : List Int) (n : Nat) : (btab as n).length = n + 1 := by induction n <;> simp_all [btab]
theorem btab_get (as : List Int) {n m : Nat} (h : m ≤ n) (d : Int × Int × Int) : (btab as n).getD m d = (btab as m).getD m d := by
  induction n with
  | zero => obtain rfl : m = 0 := by omega
            rfl
  | succ n ih =>
    by_cases e : m = n + 1
    · rw [e]
    · rw [show btab as (n + 1) = btab as n ++ [brow (btab as n) (n + 1) as as.length] from rfl, List.getD_eq_getElem?_getD, List.getElem?_append_left (by rw [btab_len]; omega), ← List.getD_eq_getElem?_getD]
      exact ih (by omega)
/-- fewest, the least length, the first pick -/
def bF (as : List Int) (n : Nat) : Int × Int × Int := (btab as n).getD n (0, 0, 0)
theorem bF_zero (as : List Int) : bF as 0 = (0, 0, 0) := rfl
theorem bF_succ (as : List Int) (n : Nat) : bF as (n + 1) = brow (btab as n) (n + 1) as as.length := by
  unfold bF
  rw [show btab as (n + 1) = btab as n ++ [brow (btab as n) (n + 1) as as.length] from rfl, List.getD_eq_getElem?_getD, List.getElem?_append_right (by rw [btab_len]; omega), btab_len]
  simp
theorem brow_succ (T : List (Int × Int × Int)) (n : Int) (as : List Int) (k : Nat) : brow T n as (k + 1) = bstep T n as (brow T n as k) k := by
  unfold brow
  rw [List.range_succ, List.foldl_append]
  rfl
/-- what a first size leaves -/
def bR (n : Nat) (a : Int) : Nat := (max 0 ((n : Int) - a)).toNat
def bMore (as : List Int) (n : Nat) (a : Int) : Int := if a > n then a - n else (bF as (bR n a)).2.1
theorem bstep_eq (as : List Int) {n k : Nat} (st : Int × Int × Int) (h1 : 1 ≤ as.getD k 0) :
    bstep (btab as n) ((n : Int) + 1) as st k = if k = 0 ∨ (bF as (bR (n + 1) (as.getD k 0))).1 + 1 < st.1 ∨ ((bF as (bR (n + 1) (as.getD k 0))).1 + 1 = st.1 ∧ bMore as (n + 1) (as.getD k 0) < st.2.1) then ((bF as (bR (n + 1) (as.getD k 0))).1 + 1, bMore as (n + 1) (as.getD k 0), (k : Int)) else st := by
  have hle : bR (n + 1) (as.getD k 0) ≤ n := by unfold bR; omega
  have e : (btab as n).getD (max 0 ((n : Int) + 1 - as.getD k 0)).toNat (0, 0, 0) = bF as (bR (n + 1) (as.getD k 0)) := by
    rw [show (max 0 ((n : Int) + 1 - as.getD k 0)).toNat = bR (n + 1) (as.getD k 0) by unfold bR; simp]
    exact btab_get as hle _
  unfold bstep bMore
  simp only [e, Int.natCast_add, Int.cast_ofNat_Int]
/-- the row behind k sizes: the best of them, and the first that is as good -/
structure BRow (as : List Int) (n k : Nat) (st : Int × Int × Int) : Prop where
  pick : ∃ j : Nat, j < k ∧ st.2.2 = j ∧ st.1 = (bF as (bR n (as.getD j 0))).1 + 1 ∧ st.2.1 = bMore as n (as.getD j 0) ∧
    ∀ i, i < j → ¬ ((bF as (bR n (as.getD i 0))).1 + 1 = st.1 ∧ bMore as n (as.getD i 0) = st.2.1)
  low : ∀ i, i < k → st.1 < (bF as (bR n (as.getD i 0))).1 + 1 ∨ (st.1 = (bF as (bR n (as.getD i 0))).1 + 1 ∧ st.2.1 ≤ bMore as n (as.getD i 0))
theorem brow_ok (as : List Int) (n : Nat) {k : Nat} (hk : 0 < k) (hl : k ≤ as.length) (h1 : ∀ i, i < as.length → 1 ≤ as.getD i 0) : BRow as (n + 1) k (brow (btab as n) ((n : Int) + 1) as k) := by
  induction k with
  | zero => omega
  | succ k ih =>
    rw [brow_succ, bstep_eq as _ (h1 k (by omega))]
    by_cases h0 : k = 0
    · subst h0
      rw [if_pos (.inl rfl)]
      exact ⟨⟨0, by omega, rfl, rfl, rfl, fun i hi => by omega⟩, fun i hi => by
        obtain rfl : i = 0 := by omega
        exact .inr ⟨rfl, Int.le_refl _⟩⟩
    · have hb := ih (by omega) (by omega)
      generalize brow (btab as n) ((n : Int) + 1) as k = st at *
      by_cases hc : k = 0 ∨ (bF as (bR (n + 1) (as.getD k 0))).1 + 1 < st.1 ∨ ((bF as (bR (n + 1) (as.getD k 0))).1 + 1 = st.1 ∧ bMore as (n + 1) (as.getD k 0) < st.2.1)
      · rw [if_pos hc]
        refine ⟨⟨k, by omega, rfl, rfl, rfl, fun i hi => ?_⟩, fun i hi => ?_⟩
        · have := hb.low i hi
          simp only
          omega
        · by_cases e : i = k
          · subst e; exact .inr ⟨rfl, Int.le_refl _⟩
          · have := hb.low i (by omega)
            simp only
            omega
      · rw [if_neg hc]
        refine ⟨?_, fun i hi => ?_⟩
        · obtain ⟨j, hj, r⟩ := hb.pick
          exact ⟨j, by omega, r⟩
        · by_cases e : i = k
          · subst e; omega
          · exact hb.low i (by omega)
/-- the length that the row stands for -/
def bL (as : List Int) (n : Nat) : Int := if n = 0 then 0 else n + (bF as n).2.1
theorem bL_rest (as : List Int) {n : Nat} {a : Int} : bMore as n a = a + bL as (bR n a) - n := by
  unfold bMore bL
  by_cases h : a > n
  · rw [if_pos h, if_pos (by unfold bR; omega)]; omega
  · rw [if_neg h]
    by_cases h2 : bR n a = 0
    · rw [if_pos h2, h2, bF_zero]
      have : (n : Int) = a := by unfold bR at h2; omega
      simp only
      omega
    · rw [if_neg h2]
      have : (bR n a : Int) = n - a := by unfold bR; omega
      omega
theorem mem_getD {as : List Int} {a : Int} (h : a ∈ as) : ∃ i, i < as.length ∧ as.getD i 0 = a := by
  obtain ⟨i, hi, e⟩ := List.getElem_of_mem h
  exact ⟨i, hi, by rw [getD_lt as 0 hi]; exact e⟩
theorem getD_mem {as : List Int} {i : Nat} (h : i < as.length) : as.getD i 0 ∈ as := by rw [getD_lt as 0 h]; exact List.getElem_mem h

/-- the table is right -/
theorem bF_ok {as : List Int} (hne : as ≠ []) (h1 : ∀ a ∈ as, 1 ≤ a) (n : Nat) :
    (∃ c : Nat, (bF as n).1 = c ∧ reach as c (bL as n) = true) ∧ (n : Int) ≤ bL as n ∧ ∀ (c : Nat) (s : Int), reach as c s = true → (n : Int) ≤ s → (bF as n).1 ≤ c ∧ ((bF as n).1 = c → bL as n ≤ s) := by
  have h1' : ∀ i, i < as.length → 1 ≤ as.getD i 0 := fun i hi => h1 _ (getD_mem hi)
  have hlen : 0 < as.length := List.length_pos_iff.2 hne
  induction n using Nat.strongRecOn with
  | ind n ih =>
    cases n with
    | zero =>
      refine ⟨⟨0, rfl, rfl⟩, by simp [bL], fun c s hr hs => ⟨?_, ?_⟩⟩
      · rw [bF_zero]; simp
      · intro hc
        have : c = 0 := by rw [bF_zero] at hc; simp at hc; omega
        simpa [bL] using hs
    | succ n =>
      have hb := brow_ok as n hlen (Nat.le_refl _) h1'
      rw [← bF_succ] at hb
      have hL : bL as (n + 1) = ((n + 1 : Nat) : Int) + (bF as (n + 1)).2.1 := by unfold bL; rw [if_neg (by omega)]
      have hlt : ∀ i, i < as.length → bR (n + 1) (as.getD i 0) < n + 1 := fun i hi => by have := h1' i hi; unfold bR; omega
      obtain ⟨j, hj, _, hf, ho, _⟩ := hb.pick
      have hm := bL_rest as (n := n + 1) (a := as.getD j 0)
      obtain ⟨⟨c, hc, hr⟩, hle, _⟩ := ih _ (hlt j hj)
      refine ⟨⟨c + 1, by rw [hf, hc]; rfl, ?_⟩, ?_, ?_⟩
      · refine List.any_eq_true.2 ⟨as.getD j 0, getD_mem hj, ?_⟩
        rw [hL, ho, hm, show ((n + 1 : Nat) : Int) + (as.getD j 0 + bL as (bR (n + 1) (as.getD j 0)) - ((n + 1 : Nat) : Int)) - as.getD j 0 = bL as (bR (n + 1) (as.getD j 0)) by omega]
        exact hr
      · have : ((n + 1 : Nat) : Int) - as.getD j 0 ≤ bR (n + 1) (as.getD j 0) := by unfold bR; omega
        omega
      · intro c s hr hs
        cases c with
        | zero => simp [reach] at hr; omega
        | succ c =>
          obtain ⟨a, ha, hr⟩ := List.any_eq_true.1 hr
          obtain ⟨i, hi, rfl⟩ := mem_getD ha
          have hnn := reach_nn (fun a h => by have := h1 a h; omega) hr
          obtain ⟨_, _, hmin⟩ := ih _ (hlt i hi)
          obtain ⟨m1, m2⟩ := hmin c _ hr (by unfold bR; omega)
          have hlow := hb.low i hi
          have hmi := bL_rest as (n := n + 1) (a := as.getD i 0)
          rw [Int.natCast_succ]
          constructor
          · omega
          · intro he
            have : (bF as (bR (n + 1) (as.getD i 0))).1 = c := by omega
            have := m2 this
            omega
/-- the pick is the first size with which the rest can be reached -/
theorem bF_pick {as : List Int} (hne : as ≠ []) (h1 : ∀ a ∈ as, 1 ≤ a) (n c : Nat) (hc : (bF as (n + 1)).1 = (c : Int) + 1) :
    ∃ j : Nat, j < as.length ∧ (bF as (n + 1)).2.2 = j ∧ reach as c (bL as (n + 1) - as.getD j 0) = true ∧ (∀ i, i < j → reach as c (bL as (n + 1) - as.getD i 0) = false) ∧
      (bF as (bR (n + 1) (as.getD j 0))).1 = c ∧ bL as (bR (n + 1) (as.getD j 0)) = bL as (n + 1) - as.getD j 0 := by
  have h1' : ∀ i, i < as.length → 1 ≤ as.getD i 0 := fun i hi => h1 _ (getD_mem hi)
  have hlen : 0 < as.length := List.length_pos_iff.2 hne
  have hb := brow_ok as n hlen (Nat.le_refl _) h1'
  rw [← bF_succ] at hb
  have hL : bL as (n + 1) = ((n + 1 : Nat) : Int) + (bF as (n + 1)).2.1 := by unfold bL; rw [if_neg (by omega)]
  obtain ⟨j, hj, hp, hf, ho, hno⟩ := hb.pick
  have hm := bL_rest as (n := n + 1) (a := as.getD j 0)
  obtain ⟨⟨c', hc', hr⟩, _, _⟩ := bF_ok hne h1 (bR (n + 1) (as.getD j 0))
  obtain rfl : c' = c := by omega
  have hl : bL as (bR (n + 1) (as.getD j 0)) = bL as (n + 1) - as.getD j 0 := by omega
  refine ⟨j, hj, hp, by rw [← hl]; exact hr, fun i hi => ?_, hc', hl⟩
  by_cases hri : reach as c' (bL as (n + 1) - as.getD i 0) = true
  · exfalso
    have hnn := reach_nn (fun a h => by have := h1 a h; omega) hri
    have hge := (bF_ok hne h1 (n + 1)).2.1
    obtain ⟨_, _, hmin⟩ := bF_ok hne h1 (bR (n + 1) (as.getD i 0))
    obtain ⟨m1, m2⟩ := hmin c' _ hri (by unfold bR; omega)
    have hlow := hb.low i (by omega)
    have hmi := bL_rest as (n := n + 1) (a := as.getD i 0)
    have e1 : (bF as (bR (n + 1) (as.getD i 0))).1 = c' := by omega
    have := m2 e1
    exact hno i hi ⟨by omega, by omega⟩
  · simpa using hri
end Go.Proofs.Ytamhkiakplmlmaa
