/-
  FnTrips: what the best trips, the first trips that fit and the evenest trips are, in plain terms.
-/
import Derived.Test.YtcookepklcbfeaaTripsZ
import Derived.Test.YtcookepklcbfeaaFirstFit
import Derived.Test.YtcookepklcbfeaaTripFault
namespace Go.Proofs.Ytcookepklcbfeaa
open Go.ChangeShapes Go.WideShapes Go.RowKit

/-- what the loads of trip k weigh -/
def bs : List Int → List Int → Int → Int
  | a :: us, x :: xs, k => (if a = k then x else 0) + bs us xs k
  | _, _, _ => 0
theorem bs_append (us xs : List Int) (h : us.length = xs.length) (a x k : Int) : bs (us ++ [a]) (xs ++ [x]) k = bs us xs k + if a = k then x else 0 := by
  induction us generalizing xs with
  | nil =>
    obtain rfl : xs = [] := List.length_eq_zero_iff.1 (by simpa using h.symm)
    simp [bs]
  | cons b us ih =>
    cases xs with
    | nil => simp at h
    | cons y xs =>
      simp only [List.cons_append, bs]
      rw [ih xs (by simpa using h)]
      omega
theorem bs_succ (us xs : List Int) (h : us.length = xs.length) (k : Int) {i : Nat} (hi : i < xs.length) : bs (us.take (i + 1)) (xs.take (i + 1)) k = bs (us.take i) (xs.take i) k + if us.getD i (-1) = k then xs[i] else 0 := by
  have ha : i < us.length := by omega
  rw [List.take_succ_eq_append_getElem ha, List.take_succ_eq_append_getElem hi, bs_append _ _ (by simp; omega), getD_lt us (-1) ha]
theorem bs_nn {xs : List Int} (hx : ∀ x ∈ xs, 0 ≤ x) : ∀ (us : List Int) (k : Int), 0 ≤ bs us xs k := by
  induction xs with
  | nil => intro us k; cases us <;> simp [bs]
  | cons x xs ih =>
    intro us k
    cases us with
    | nil => simp [bs]
    | cons a us =>
      have h1 := hx x (List.mem_cons_self ..)
      have h2 := ih (fun y hy => hx y (List.mem_cons_of_mem _ hy)) us k
      simp only [bs]
      split <;> omega
theorem bs_in {xs : List Int} (hx : ∀ x ∈ xs, 1 ≤ x) : ∀ (us : List Int) (k : Int), us.length = xs.length → k ∈ us → 1 ≤ bs us xs k := by
  induction xs with
  | nil =>
    intro us k h hk
    obtain rfl : us = [] := List.length_eq_zero_iff.1 (by simpa using h)
    cases hk
  | cons x xs ih =>
    intro us k h hk
    cases us with
    | nil => cases hk
    | cons a us =>
      have h1 := hx x (List.mem_cons_self ..)
      have hx2 : ∀ y ∈ xs, 1 ≤ y := fun y hy => hx y (List.mem_cons_of_mem _ hy)
      have h2 := bs_nn (fun y hy => by have := hx2 y hy; omega) us k
      simp only [bs]
      rcases List.mem_cons.1 hk with rfl | hk
      · rw [if_pos rfl]; omega
      · have := ih hx2 us k (by simpa using h) hk
        split <;> omega
theorem puts_getD (sums : List Int) {k : Nat} (hk : k ≤ sums.length) (x : Int) (j : Nat) : (puts sums k x).getD j 0 = sums.getD j 0 + if (k : Int) = (j : Int) then x else 0 := by
  unfold puts
  by_cases h : k < sums.length
  · rw [if_pos h, getD_lt sums 0 h]
    by_cases e : k = j
    · subst e
      rw [if_pos rfl, getD_lt _ 0 (by simpa using h), getD_lt sums 0 h]
      simp
    · rw [if_neg (by omega)]
      simp only [List.getD_eq_getElem?_getD, List.getElem?_set_ne e]
      omega
  · obtain rfl : k = sums.length := by omega
    rw [if_neg h]
    by_cases e : j < sums.length
    · rw [if_neg (by omega), getD_lt _ 0 (by simp; omega), getD_lt sums 0 e, List.getElem_append_left e]
      omega
    · by_cases e2 : sums.length = j
      · subst e2
        rw [if_pos rfl]
        simp
      · rw [if_neg (by omega)]
        simp only [List.getD_eq_getElem?_getD]
        rw [List.getElem?_eq_none (by simp; omega), List.getElem?_eq_none (by omega)]
        rfl
theorem lvs_spec {most : Int} : ∀ (rest sums wh : List Int) (l : List Int × Nat), l ∈ lvs most rest sums wh → (∀ s ∈ sums, s ≤ most) →
    ∃ us : List Int, us.length = rest.length ∧ l.1 = wh ++ us ∧ (∀ a ∈ us, 0 ≤ a ∧ a < l.2) ∧ (∀ k : Nat, sums.length ≤ k → k < l.2 → (k : Int) ∈ us) ∧ ∀ k : Nat, k < l.2 → sums.getD k 0 + bs us rest k ≤ most := by
  intro rest
  induction rest with
  | nil =>
    intro sums wh l hl hs
    simp [lvs] at hl
    subst hl
    refine ⟨[], rfl, by simp, by simp, fun k h1 h2 => by simp at h2; omega, fun k hk => ?_⟩
    simp only at hk
    rw [getD_lt sums 0 hk]
    simp only [bs]
    have := hs _ (List.getElem_mem hk)
    omega
  | cons x xs ih =>
    intro sums wh l hl hs
    simp only [lvs, List.mem_flatMap, List.mem_range] at hl
    obtain ⟨k0, hk0, hl⟩ := hl
    split at hl
    · rename_i hm
      have hge := lvs_ge hl
      have hpl := puts_len sums k0 x
      have hs2 : ∀ s ∈ puts sums k0 x, s ≤ most := by
        intro s hs3
        unfold puts at hs3
        split at hs3
        · rcases List.mem_or_eq_of_mem_set hs3 with h | h
          · exact hs s h
          · rw [h]; exact hm
        · rename_i h9
          rcases List.mem_append.1 hs3 with h | h
          · exact hs s h
          · simp at h
            rw [List.getD_eq_getElem?_getD, List.getElem?_eq_none (by omega)] at hm
            subst h
            simpa using hm
      obtain ⟨us, h1, h2, h3, h4, h5⟩ := ih _ _ l hl hs2
      refine ⟨(k0 : Int) :: us, by simp [h1], by rw [h2]; simp, ?_, ?_, ?_⟩
      · intro a ha
        rcases List.mem_cons.1 ha with rfl | ha
        · split at hpl <;> omega
        · exact h3 a ha
      · intro k hk1 hk2
        by_cases e : k = k0
        · subst e; exact List.mem_cons_self ..
        · refine List.mem_cons_of_mem _ (h4 k ?_ hk2)
          split at hpl <;> omega
      · intro k hk
        have := h5 k hk
        rw [puts_getD sums (by omega)] at this
        simp only [bs]
        omega
    · cases hl
/-- the best trips: each load's trip, each trip is used, none bears too much; no way has fewer -/
theorem best_walk {most : Int} {xs : List Int} (hx : ∀ x ∈ xs, 1 ≤ x ∧ x ≤ most) (hm : 0 ≤ most) : ∃ F : Nat, (bestL most xs).1 = (F : Int) ∧ F ≤ xs.length ∧ (bestL most xs).2.length = xs.length ∧ (∀ a ∈ (bestL most xs).2, 0 ≤ a ∧ a < F) ∧ (∀ k : Nat, k < F → (k : Int) ∈ (bestL most xs).2) ∧ (∀ k : Nat, k < F → bs (bestL most xs).2 xs k ≤ most) ∧ ∀ l ∈ lvs most xs [] [], F ≤ l.2 := by
  obtain ⟨l0, h0, _, _⟩ := best_ok hx hm
  have hne : lvs most xs [] [] ≠ [] := by intro e; rw [e] at h0; cases h0
  obtain ⟨l, h1, h2, h3, _⟩ := upd_first hne
  obtain ⟨us, a1, a2, a3, a4, a5⟩ := lvs_spec _ _ _ l h1 (fun s hs => by cases hs)
  have e : bestL most xs = ((l.2 : Int), l.1) := h2
  rw [e]
  simp only [List.nil_append] at a2
  have hle := lvs_le h1
  simp at hle
  refine ⟨l.2, rfl, hle, by rw [a2]; exact a1, by rw [a2]; exact a3, fun k hk => by rw [a2]; exact a4 k (Nat.zero_le _) hk, fun k hk => ?_, h3⟩
  have := a5 k hk
  rw [a2]
  simpa using this
/-- the first trips that fit are one of the ways -/
theorem ff_way {most : Int} : ∀ (rest sums wh : List Int), (∀ x ∈ rest, x ≤ most) → ((rest.foldl (ffStep most) (wh, sums)).1, (rest.foldl (ffStep most) (wh, sums)).2.length) ∈ lvs most rest sums wh := by
  intro rest
  induction rest with
  | nil => intro sums wh _; simp [lvs]
  | cons x xs ih =>
    intro sums wh hx
    rw [List.foldl_cons]
    have hle : ffT most sums x ≤ sums.length := List.findIdx_le_length
    have hput : ffS most sums x = puts sums (ffT most sums x) x := by
      unfold ffS puts
      split
      · rename_i h; rw [getD_lt sums 0 h]
      · rfl
    have hfit : sums.getD (ffT most sums x) 0 + x ≤ most := by
      by_cases h : ffT most sums x < sums.length
      · rw [getD_lt sums 0 h]
        have := List.findIdx_getElem (xs := sums) (p := fun s => decide (s + x ≤ most)) (w := h)
        exact of_decide_eq_true this
      · rw [List.getD_eq_getElem?_getD, List.getElem?_eq_none (by omega)]
        have := hx x (List.mem_cons_self ..)
        simpa using this
    simp only [lvs, List.mem_flatMap, List.mem_range]
    refine ⟨ffT most sums x, by omega, ?_⟩
    rw [if_pos hfit, ← hput]
    exact ih (ffS most sums x) (wh ++ [(ffT most sums x : Int)]) fun y hy => hx y (List.mem_cons_of_mem _ hy)
def usedL (right : List Int) (k : Nat) : Int := (right.take k).foldl (fun u x => max u (x + 1)) 0
theorem usedL_succ (right : List Int) {k : Nat} (h : k < right.length) : usedL right (k + 1) = max (usedL right k) (right[k] + 1) := by
  unfold usedL
  rw [List.take_succ_eq_append_getElem h, List.foldl_append]
  rfl
theorem used_fold (right : List Int) : ∀ u : Int, u ≤ right.foldl (fun u x => max u (x + 1)) u ∧ ∀ x ∈ right, x + 1 ≤ right.foldl (fun u x => max u (x + 1)) u := by
  induction right with
  | nil => intro u; exact ⟨Int.le_refl _, fun x hx => by cases hx⟩
  | cons y l ih =>
    intro u
    obtain ⟨h1, h2⟩ := ih (max u (y + 1))
    rw [List.foldl_cons]
    refine ⟨by omega, fun x hx => ?_⟩
    rcases List.mem_cons.1 hx with rfl | hx
    · omega
    · exact h2 x hx
theorem used_walk {most : Int} {xs : List Int} (hx : ∀ x ∈ xs, 1 ≤ x ∧ x ≤ most) (hm : 0 ≤ most) {F : Nat} (hF : ∀ l ∈ lvs most xs [] [], F ≤ l.2) : (F : Int) ≤ usedL (ffGo most xs).1 (ffGo most xs).1.length := by
  have h1 := ff_way xs [] [] (fun x h => (hx x h).2)
  have h2 := hF _ h1
  obtain ⟨us, _, a2, _, a4, _⟩ := lvs_spec _ _ _ _ h1 (fun s hs => by cases hs)
  simp only [List.nil_append] at a2
  have e : (ffGo most xs).1 = us := a2
  unfold usedL
  rw [List.take_of_length_le (Nat.le_refl _), e]
  obtain ⟨b1, b2⟩ := used_fold us 0
  by_cases h0 : F = 0
  · omega
  · have h3 := a4 (F - 1) (Nat.zero_le _) (by dsimp only; dsimp only at h2; omega)
    have := b2 _ h3
    omega

theorem sig_bs {us xs : List Int} {F : Nat} (h : us.length = xs.length) (ha : ∀ a ∈ us, 0 ≤ a ∧ a < F) : sig (fun k => bs us xs k) F = sm xs := by
  induction us generalizing xs with
  | nil =>
    obtain rfl : xs = [] := List.length_eq_zero_iff.1 (by simpa using h.symm)
    rw [show sig (fun k : Nat => bs [] [] (k : Int)) F = 0 from sig_zero fun i _ => rfl]; rfl
  | cons a us ih =>
    cases xs with
    | nil => simp at h
    | cons x xs =>
      have h1 := ih (xs := xs) (by simpa using h) fun b hb => ha b (List.mem_cons_of_mem _ hb)
      have h2 := ha a (List.mem_cons_self ..)
      rw [sm_cons, ← h1]
      have hadd : ∀ (f g : Nat → Int) n, sig (fun k => f k + g k) n = sig f n + sig g n := by
        intro f g n
        induction n with
        | zero => rfl
        | succ n ih => simp only [sig, ih]; omega
      have e : (fun k : Nat => bs (a :: us) (x :: xs) k) = fun k : Nat => (if a = (k : Int) then x else 0) + bs us xs k := rfl
      rw [e, hadd]
      congr 1
      rw [sig_one (k := a.toNat) (by omega) (fun i _ hne => by rw [if_neg]; omega)]
      rw [if_pos (by omega)]
theorem sig_cap {g : Nat → Int} {n : Nat} {M : Int} (h : ∀ i, i < n → g i ≤ M) : sig g n ≤ n * M := by
  induction n with
  | zero => simp [sig]
  | succ n ih =>
    have h1 := ih fun i hi => h i (by omega)
    have h2 := h n (by omega)
    simp only [sig, Int.natCast_add, Int.add_mul]
    omega
theorem cnt_sm (p : Int → Bool) (xs : List Int) : sm (xs.map fun x => if p x = true then 1 else 0) = (cnt p xs : Int) := by
  induction xs with
  | nil => rfl
  | cons x xs ih =>
    rw [List.map_cons, sm_cons, ih]
    unfold cnt
    cases h : p x <;> simp [h]
    omega
theorem bs_big {most : Int} (hm : 0 ≤ most) : ∀ (us xs : List Int) (k : Int), (∀ x ∈ xs, 1 ≤ x) → (most + 1) * bs us (xs.map fun x => if big most x = true then 1 else 0) k ≤ 2 * bs us xs k := by
  intro us
  induction us with
  | nil => intro xs k _; simp [bs]
  | cons a us ih =>
    intro xs k hx
    cases xs with
    | nil => simp [bs]
    | cons x xs =>
      have h1 := ih xs k fun y hy => hx y (List.mem_cons_of_mem _ hy)
      have h2 := hx x (List.mem_cons_self ..)
      simp only [List.map_cons, bs, Int.mul_add]
      by_cases e : a = k
      · rw [if_pos e, if_pos e]
        by_cases b : big most x = true
        · rw [if_pos b]
          have : most < 2 * x := by simpa [big] using b
          omega
        · rw [if_neg b]
          omega
      · rw [if_neg e, if_neg e]
        omega
/-- the least number is not too great -/
theorem least_walk {most : Int} {xs us : List Int} {F : Nat} (hx : ∀ x ∈ xs, 1 ≤ x ∧ x ≤ most) (hm : 1 ≤ most) (hl : us.length = xs.length) (ha : ∀ a ∈ us, 0 ≤ a ∧ a < F) (hb : ∀ k : Nat, k < F → bs us xs k ≤ most) : ltZ xs most ≤ F := by
  have h1 := sig_bs hl ha
  have h2 := sig_cap (g := fun k => bs us xs k) hb
  have h3 := sig_bs (xs := xs.map fun x => if big most x = true then 1 else 0) (by simpa using hl) ha
  rw [cnt_sm] at h3
  have h4 := sig_cap (n := F) (M := 1) (g := fun k : Nat => bs us (xs.map fun x => if big most x = true then 1 else 0) k) fun k hk => by
    have a1 := bs_big (most := most) (by omega) us xs k fun x h => (hx x h).1
    have a2 := hb k hk
    generalize bs us (xs.map fun x => if big most x = true then 1 else 0) (k : Int) = z at *
    rcases Int.lt_or_le 1 z with h | h
    · have : (most + 1) * 2 ≤ (most + 1) * z := Int.mul_le_mul_of_nonneg_left (by omega) (by omega)
      omega
    · exact h
  unfold ltZ
  have h5 : (sm xs + most - 1) / most ≤ F := by
    apply Int.le_of_lt_add_one
    apply Int.ediv_lt_of_lt_mul (by omega)
    rw [Int.add_mul, Int.one_mul]
    omega
  omega

/-! the lists of trips -/
/-- the first n loads of trip k -/
def lsO (us : List Int) (n k : Nat) : List Nat := (List.range n).filter fun j => decide (us.getD j (-1) = (k : Int))
def lsA (us : List Int) (F n : Nat) : List (List Int) := (List.range F).map fun k => (lsO us n k).map fun j : Nat => (j : Int)
theorem lsO_succ (us : List Int) (n k : Nat) : lsO us (n + 1) k = lsO us n k ++ if us.getD n (-1) = (k : Int) then [n] else [] := by
  unfold lsO
  rw [List.range_succ, List.filter_append]
  congr 1
  rw [List.filter_cons, List.filter_nil]
  by_cases h : us.getD n (-1) = (k : Int)
  · rw [if_pos h, if_pos (decide_eq_true h)]
  · rw [if_neg h, if_neg (by rw [decide_eq_false h]; decide)]
theorem lsA_len (us : List Int) (F n : Nat) : (lsA us F n).length = F := by simp [lsA]
theorem lsA_get (us : List Int) (F n : Nat) {k : Nat} (h : k < (lsA us F n).length) : (lsA us F n)[k] = (lsO us n k).map fun j : Nat => (j : Int) := by simp [lsA]
theorem lsA_zero (us : List Int) (F : Nat) : lsA us F 0 = List.replicate F [] := by
  apply List.ext_getElem
  · simp [lsA]
  · intro i h1 h2
    simp [lsA, lsO]
theorem lsA_succ (us : List Int) (F n k : Nat) (hk : k < F) (h : us.getD n (-1) = (k : Int)) : lsA us F (n + 1) = (lsA us F n).set k ((lsA us F n).getD k [] ++ [(n : Int)]) := by
  apply List.ext_getElem
  · simp [lsA]
  · intro i h1 h2
    rw [List.getElem_set, lsA_get, lsO_succ, h]
    by_cases e : k = i
    · subst e
      rw [if_pos rfl, if_pos rfl, getD_lt _ _ (by rw [lsA_len]; exact hk), lsA_get]
      simp
    · rw [if_neg (by omega), if_neg e, lsA_get]
      simp
theorem lsO_bs {us xs : List Int} (hl : us.length = xs.length) (k n : Nat) (hn : n ≤ xs.length) : ((lsO us n k).map fun j => xs.getD j 0).sum = bs (us.take n) (xs.take n) k := by
  induction n with
  | zero => simp [lsO, bs]
  | succ n ih =>
    rw [lsO_succ, bs_succ us xs hl k (by omega), List.map_append, List.sum_append, ih (by omega)]
    congr 1
    by_cases h : us.getD n (-1) = (k : Int)
    · rw [if_pos h, if_pos h]
      simp only [List.map_cons, List.map_nil, List.sum_cons, List.sum_nil, Int.add_zero]
      exact getD_lt xs 0 (by omega)
    · rw [if_neg h, if_neg h]; simp
theorem lsO_mem {us : List Int} {n k j : Nat} : j ∈ lsO us n k ↔ j < n ∧ us.getD j (-1) = (k : Int) := by
  unfold lsO
  rw [List.mem_filter, List.mem_range]
  simp
theorem lsO_nodup (us : List Int) (n k : Nat) : (lsO us n k).Nodup := List.Pairwise.filter _ List.nodup_range
theorem run_list {loads : List Int} : ∀ (js : List Nat) (met : List Bool) (sum : Int), js.Nodup → met.length = loads.length → (∀ j ∈ js, j < loads.length ∧ met.getD j false = false) →
    ∃ met', (js.map fun j : Nat => (j : Int)).foldl (trStep loads) (some (met, sum)) = some (met', sum + (js.map fun j => loads.getD j 0).sum) ∧ met'.length = loads.length ∧ ∀ i, met'.getD i false = true ↔ (met.getD i false = true ∨ i ∈ js) := by
  intro js
  induction js with
  | nil => intro met sum _ hl _; exact ⟨met, by simp, hl, by simp⟩
  | cons j js ih =>
    intro met sum hnd hl hj
    obtain ⟨h1, h2⟩ := hj j (List.mem_cons_self ..)
    rw [List.nodup_cons] at hnd
    have hstep : trStep loads (some (met, sum)) (j : Int) = some (met.set j true, sum + loads.getD j 0) := by
      simp only [trStep, Int.toNat_natCast]
      rw [if_pos ⟨inB_mk (by omega), h2⟩]
    have hset : ∀ i, (met.set j true).getD i false = true ↔ (met.getD i false = true ∨ i = j) := by
      intro i
      simp only [List.getD_eq_getElem?_getD]
      by_cases e : j = i
      · subst e
        rw [List.getElem?_set_self (by omega)]
        simp
      · rw [List.getElem?_set_ne e]
        constructor
        · exact .inl
        · rintro (h | h)
          · exact h
          · exact absurd h.symm e
    obtain ⟨met', a1, a2, a3⟩ := ih (met.set j true) (sum + loads.getD j 0) hnd.2 (by simpa using hl) fun i hi => by
      obtain ⟨b1, b2⟩ := hj i (List.mem_cons_of_mem _ hi)
      refine ⟨b1, ?_⟩
      rw [Bool.eq_false_iff]
      intro hc
      rcases (hset i).1 hc with h | h
      · rw [b2] at h; cases h
      · subst h; exact hnd.1 hi
    refine ⟨met', ?_, a2, fun i => ?_⟩
    · rw [List.map_cons, List.foldl_cons, hstep, a1]
      simp only [List.map_cons, List.sum_cons]
      congr 2
      omega
    · rw [a3, hset, List.mem_cons]
      constructor
      · rintro ((h | h) | h)
        · exact .inl h
        · exact .inr (.inl h)
        · exact .inr (.inr h)
      · rintro (h | h | h)
        · exact .inl (.inl h)
        · exact .inl (.inr h)
        · exact .inr h
theorem all_list {loads us : List Int} {most : Int} {F : Nat} (hl : us.length = loads.length) (hu : ∀ k : Nat, k < F → (k : Int) ∈ us) (hb : ∀ k : Nat, k < F → bs us loads k ≤ most) :
    ∀ k : Nat, k ≤ F → ∃ met, trAll loads most ((lsA us F loads.length).take k) = some met ∧ met.length = loads.length ∧ ∀ i, met.getD i false = true ↔ (i < loads.length ∧ 0 ≤ us.getD i (-1) ∧ us.getD i (-1) < k) := by
  intro k
  induction k with
  | zero =>
    intro _
    refine ⟨List.replicate loads.length false, by simp [trAll], by simp, fun i => ?_⟩
    constructor
    · intro h
      rw [List.getD_eq_getElem?_getD, List.getElem?_replicate] at h
      split at h <;> simp at h
    · rintro ⟨_, h1, h2⟩
      omega
  | succ k ih =>
    intro hk
    obtain ⟨met, h1, h2, h3⟩ := ih (by omega)
    have hlt : k < (lsA us F loads.length).length := by rw [lsA_len]; omega
    obtain ⟨met', a1, a2, a3⟩ := run_list (loads := loads) (lsO us loads.length k) met 0 (lsO_nodup _ _ _) h2 fun j hj => by
      obtain ⟨b1, b2⟩ := lsO_mem.1 hj
      refine ⟨b1, ?_⟩
      rw [Bool.eq_false_iff]
      intro hc
      have := (h3 j).1 hc
      omega
    refine ⟨met', ?_, a2, fun i => ?_⟩
    · rw [trAll_succ _ _ _ hlt, h1, lsA_get]
      have hrun : trRun loads met ((lsO us loads.length k).map fun j : Nat => (j : Int)) = some (met', 0 + ((lsO us loads.length k).map fun j => loads.getD j 0).sum) := a1
      simp only [trOne, hrun, Int.zero_add]
      have hs := lsO_bs hl k loads.length (Nat.le_refl _)
      rw [List.take_of_length_le (by omega), List.take_of_length_le (Nat.le_refl _)] at hs
      rw [hs, if_neg]
      rintro (h | h)
      · have := hb k (by omega); omega
      · obtain ⟨j, hj, e⟩ := List.getElem_of_mem (hu k (by omega))
        have hm : j ∈ lsO us loads.length k := lsO_mem.2 ⟨by omega, by rw [getD_lt us _ hj]; exact e⟩
        have : lsO us loads.length k = [] := by simpa using h
        rw [this] at hm
        cases hm
    · rw [a3, h3, lsO_mem]
      omega
/-- the lists of the best trips have no fault -/
theorem fault_walk {loads us : List Int} {most : Int} {F : Nat} (hv : vlB loads most = true) (hF : F ≤ loads.length) (hl : us.length = loads.length) (ha : ∀ a ∈ us, 0 ≤ a ∧ a < F) (hu : ∀ k : Nat, k < F → (k : Int) ∈ us) (hb : ∀ k : Nat, k < F → bs us loads k ≤ most) : tfP2 loads most (lsA us F loads.length) = (-1, 0) := by
  obtain ⟨_, hl10, _⟩ := vlB_parts hv
  unfold tfP2
  rw [if_pos hv, if_pos (by rw [lsA_len]; omega)]
  congr 1
  have hall := all_list hl hu hb
  obtain ⟨met, h1, h2, h3⟩ := hall F (Nat.le_refl _)
  rw [List.take_of_length_le (by rw [lsA_len]; exact Nat.le_refl _)] at h1
  rw [tfZ_end (met := met) (fun j hj => by
    rw [lsA_len] at hj
    obtain ⟨m2, e, _⟩ := hall (j + 1) (by omega)
    rw [e]; rfl) h1, if_neg]
  intro hm
  obtain ⟨i, hi, e⟩ := List.getElem_of_mem hm
  have h4 : met.getD i false = true := (h3 i).2 ⟨by omega, by
    have := ha _ (List.getElem_mem (show i < us.length by omega))
    rw [getD_lt us _ (by omega)]
    exact this⟩
  rw [getD_lt met _ hi, e] at h4
  cases h4

/-! the evenest trips -/
theorem feas_one {most : Int} : ∀ (rest : List Int) (s : Int), (∀ x ∈ rest, 0 ≤ x) → s + sm rest ≤ most → Feas most rest [s] := by
  intro rest
  induction rest with
  | nil => intro s _ _; trivial
  | cons x xs ih =>
    intro s hx h
    rw [sm_cons] at h
    have h0 : ∀ y ∈ xs, 0 ≤ y := fun y hy => hx y (List.mem_cons_of_mem _ hy)
    have h1 := sm_nonneg h0
    exact ⟨s, [], List.Perm.refl _, by omega, ih (s + x) h0 (by omega)⟩
theorem ev_loop {xs : List Int} {trips : Int} : ∀ (n : Nat) (lo hi L H : Int), hi - lo ≤ n → L ≤ lo → lo < hi → hi ≤ H → (bestL hi xs).1 ≤ trips → (lo = L ∨ ¬ (bestL lo xs).1 ≤ trips) →
    L < evH xs trips n lo hi ∧ evH xs trips n lo hi ≤ H ∧ (bestL (evH xs trips n lo hi) xs).1 ≤ trips ∧ (evH xs trips n lo hi - 1 = L ∨ ¬ (bestL (evH xs trips n lo hi - 1) xs).1 ≤ trips) := by
  intro n
  induction n with
  | zero => intro lo hi L H h1 h2 h3; omega
  | succ n ih =>
    intro lo hi L H h1 h2 h3 h4 h5 h6
    unfold evH
    split
    · split
      · rename_i hb
        exact ih lo _ L H (by omega) h2 (by omega) (by omega) hb h6
      · rename_i hb
        exact ih _ hi L H (by omega) (by omega) (by omega) h4 h5 (.inr hb)
    · obtain rfl : hi = lo + 1 := by omega
      refine ⟨by omega, h4, h5, ?_⟩
      rw [Int.add_sub_cancel]
      exact h6
theorem ev_walk {xs : List Int} {trips e : Int} (h : evP xs trips = (e, 0)) (hn : 0 < xs.length) (hs : sm xs ≤ 5000) : vlB xs e = true ∧ (bestL e xs).1 ≤ trips ∧ (vlB xs (e - 1) = true → ¬ (bestL (e - 1) xs).1 ≤ trips) := by
  unfold evP at h
  split at h
  · rename_i hv
    split at h
    · rename_i ht
      obtain ⟨rfl, _⟩ := Prod.mk.inj h
      clear h
      obtain ⟨_, hl, hx⟩ := vlB_parts hv
      obtain ⟨t1, _⟩ := inB_yes ht
      have hmx := (mx0_le xs (mx0 xs xs.length)).1 (Int.le_refl _)
      have hsum : ∀ x ∈ xs, x ≤ sm xs := by
        intro x hx2
        obtain ⟨i, hi, rfl⟩ := List.getElem_of_mem hx2
        have a1 := sm_succ xs hi
        have a2 := sm_take_bd (xs := xs) (fun x h => by have := hx x h; omega) (i + 1)
        have a3 := sm_take_bd (xs := xs) (fun x h => by have := hx x h; omega) i
        omega
      have hs0 : 0 ≤ sm xs := sm_nonneg fun x h => by have := hx x h; omega
      have hmle : mx0 xs xs.length ≤ sm xs := (mx0_le xs _).2 ⟨hs0, hsum⟩
      have hhi : (bestL (sm xs) xs).1 ≤ trips := by
        obtain ⟨F, f1, _, _, _, _, _, f2⟩ := best_walk (most := sm xs) (xs := xs) (fun x h => ⟨(hx x h).1, hsum x h⟩) hs0
        have hfe : Feas (sm xs) xs ([] ++ List.replicate (1 - 0) 0) := feas_one xs 0 (fun x h => by have := hx x h; omega) (by omega)
        obtain ⟨l, l1, l2⟩ := (lvs_feas (most := sm xs) (rest := xs) (sums := []) (wh := []) (t := 1) (Nat.zero_le _)).2 hfe
        have := f2 l l1
        omega
      have hpos : 1 ≤ mx0 xs xs.length := by
        have h1 := hmx.2 _ (List.getElem_mem hn)
        have h2 := hx _ (List.getElem_mem hn)
        omega
      have hloop := ev_loop (xs := xs) (trips := trips) 50001 (mx0 xs xs.length - 1) (sm xs) (mx0 xs xs.length - 1) (sm xs) (by omega) (Int.le_refl _) (by omega) (Int.le_refl _) hhi (.inl rfl)
      generalize evH xs trips 50001 (mx0 xs xs.length - 1) (sm xs) = e at *
      obtain ⟨h1, h2, h3, h4⟩ := hloop
      refine ⟨?_, h3, fun hv2 => ?_⟩
      · simp only [vlB, Bool.and_eq_true, decide_eq_true_eq, Bool.not_eq_true']
        refine ⟨⟨inB_mk (by omega), hl⟩, outB_mk fun x hx1 => ?_⟩
        have a1 := hx x hx1
        have a2 := hmx.2 x hx1
        omega
      · rcases h4 with h4 | h4
        · obtain ⟨_, _, hx2⟩ := vlB_parts hv2
          have := (mx0_le xs (e - 1)).2 ⟨by omega, fun x h => (hx2 x h).2⟩
          omega
        · exact h4
    · cases (Prod.mk.inj h).2
  · cases (Prod.mk.inj h).2
end Go.Proofs.Ytcookepklcbfeaa
