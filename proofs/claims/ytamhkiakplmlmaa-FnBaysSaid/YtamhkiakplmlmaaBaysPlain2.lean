/-
  Bays for a wall, in numbers: what both functions return; the rows of what can be reached.
-/
import Derived.Test.YtamhkiakplmlmaaBaysPlain
import Derived.Test.YtamhkiakplmlmaaRisPlain
namespace Go.Proofs.Ytamhkiakplmlmaa

def stepsOf (xs : List Int) : List Int := xs.map fun x => x / 50
/-- the sizes that are picked: c bays for n steps -/
def bOut (xs : List Int) : Nat → Nat → List Int
  | 0, _ => []
  | c + 1, n => xs.getD (bF (stepsOf xs) n).2.2.toNat 0 :: bOut xs c (bR n ((stepsOf xs).getD (bF (stepsOf xs) n).2.2.toNat 0))
theorem bOut_len (xs : List Int) (c n : Nat) : (bOut xs c n).length = c := by
  induction c generalizing n with
  | zero => rfl
  | succ c ih => simp [bOut, ih]
/-- sizes that are allowed -/
structure Szs (xs : List Int) : Prop where
  ris : Ris 500 3000 xs
  one : 1 ≤ xs.length
  five : xs.length ≤ 5
theorem Szs.at_ {xs : List Int} (h : Szs xs) {i : Nat} (hi : i < xs.length) : 500 ≤ xs[i] ∧ xs[i] ≤ 3000 := (h.ris i hi).1
theorem stepsOf_get {xs : List Int} {i : Nat} (hi : i < xs.length) : (stepsOf xs).getD i 0 = xs[i] / 50 := by
  unfold stepsOf
  rw [getD_lt _ 0 (by simpa using hi)]
  simp
theorem stepsOf_len (xs : List Int) : (stepsOf xs).length = xs.length := by simp [stepsOf]
theorem Szs.mem {xs : List Int} (h : Szs xs) {a : Int} (ha : a ∈ stepsOf xs) : 10 ≤ a ∧ a ≤ 60 := by
  obtain ⟨x, hx, rfl⟩ := List.mem_map.1 ha
  obtain ⟨i, hi, rfl⟩ := List.getElem_of_mem hx
  have := h.at_ hi
  omega
theorem Szs.ne {xs : List Int} (h : Szs xs) : stepsOf xs ≠ [] := by
  intro e
  have := stepsOf_len xs
  rw [e] at this
  have := h.one
  simp at *
  omega
theorem Szs.pos {xs : List Int} (h : Szs xs) : ∀ a ∈ stepsOf xs, 1 ≤ a := fun a ha => by have := h.mem ha; omega
theorem Ris.mono {lo hi : Int} {xs : List Int} (h : Ris lo hi xs) {i j : Nat} (hij : i ≤ j) (hj : j < xs.length) : xs[i] ≤ xs[j] := by
  induction j with
  | zero =>
    obtain rfl : i = 0 := by omega
    exact Int.le_refl _
  | succ j ih =>
    by_cases e : i = j + 1
    · subst e; exact Int.le_refl _
    · have := ih (by omega) (by omega)
      have h2 := (h (j + 1) hj).2 (by omega)
      simp only [Nat.add_sub_cancel] at h2
      omega
/-- the greatest size stands last -/
theorem Szs.last {xs : List Int} (h : Szs xs) : (xs[xs.length - 1]'(by have := h.one; omega) / 50) ∈ stepsOf xs ∧ ∀ a ∈ stepsOf xs, a ≤ xs[xs.length - 1]'(by have := h.one; omega) / 50 := by
  have h1 := h.one
  refine ⟨List.mem_map.2 ⟨_, List.getElem_mem _, rfl⟩, fun a ha => ?_⟩
  obtain ⟨x, hx, rfl⟩ := List.mem_map.1 ha
  obtain ⟨i, hi, rfl⟩ := List.getElem_of_mem hx
  have := h.ris.mono (i := i) (j := xs.length - 1) (by omega) (by omega)
  omega

/-- bounds of the table -/
theorem bF_bd {xs : List Int} (h : Szs xs) (n : Nat) : 0 ≤ (bF (stepsOf xs) n).1 ∧ (bF (stepsOf xs) n).1 ≤ n ∧ 0 ≤ (bF (stepsOf xs) n).2.1 ∧ (bF (stepsOf xs) n).2.1 ≤ 60 ∧ 0 ≤ (bF (stepsOf xs) n).2.2 ∧ (bF (stepsOf xs) n).2.2 < xs.length := by
  have h1' : ∀ i, i < (stepsOf xs).length → 1 ≤ (stepsOf xs).getD i 0 := fun i hi => h.pos _ (getD_mem hi)
  have hone := h.one
  induction n using Nat.strongRecOn with
  | ind n ih =>
    cases n with
    | zero => rw [bF_zero]; simp; omega
    | succ n =>
      have hb := brow_ok (stepsOf xs) n (by rw [stepsOf_len]; omega) (Nat.le_refl _) h1'
      rw [← bF_succ] at hb
      obtain ⟨j, hj, hp, hf, ho, _⟩ := hb.pick
      have hm := h.mem (getD_mem hj)
      have hlt : bR (n + 1) ((stepsOf xs).getD j 0) ≤ n := by unfold bR; omega
      have i1 := ih _ (Nat.lt_succ_of_le hlt)
      have hjl := stepsOf_len xs
      refine ⟨by omega, by omega, ?_, ?_, by omega, by omega⟩
      · rw [ho]; unfold bMore; split <;> omega
      · rw [ho]; unfold bMore; split <;> omega
theorem bF_nil {xs : List Int} (h : Szs xs) {n : Nat} : (bF (stepsOf xs) n).1 = 0 ↔ n = 0 := by
  constructor
  · intro e
    obtain ⟨⟨c, hc, hr⟩, hle, _⟩ := bF_ok h.ne h.pos n
    obtain rfl : c = 0 := by omega
    simp [reach] at hr
    omega
  · rintro rfl; rfl
theorem bMore_bd {xs : List Int} (h : Szs xs) {n : Nat} {a : Int} (ha : a ∈ stepsOf xs) (hn : 1 ≤ n) : 0 ≤ bMore (stepsOf xs) n a ∧ bMore (stepsOf xs) n a ≤ 60 := by
  have hm := h.mem ha
  have := bF_bd h (bR n a)
  unfold bMore; split <;> omega
/-- the number of bays -/
theorem count_eq {xs : List Int} (h : Szs xs) {n : Nat} {M : Int} (hM : M ∈ stepsOf xs) (hle : ∀ a ∈ stepsOf xs, a ≤ M) : (bF (stepsOf xs) n).1 = ((n : Int) + M - 1) / M := by
  have hm := h.mem hM
  obtain ⟨⟨c, hc, hr⟩, hge, hmin⟩ := bF_ok h.ne h.pos n
  have h1 := reach_le hle hr
  have hq0 : 0 ≤ ((n : Int) + M - 1) / M := Int.ediv_nonneg (by omega) (by omega)
  obtain ⟨q, hq⟩ : ∃ q : Nat, (q : Int) = ((n : Int) + M - 1) / M := ⟨_, Int.toNat_of_nonneg hq0⟩
  have h2 := Int.mul_ediv_self_le (x := (n : Int) + M - 1) (k := M) (by omega)
  have h3 := Int.lt_mul_ediv_self_add (x := (n : Int) + M - 1) (k := M) (by omega)
  rw [← hq] at h2 h3 ⊢
  have hall := reach_all hM q
  rw [Int.mul_comm M (q : Int)] at h2 h3
  have h4 := (hmin q _ hall (by omega)).1
  by_cases e : (c : Int) < q
  · exfalso
    have : ((c : Int) + 1) * M ≤ q * M := Int.mul_le_mul_of_nonneg_right (by omega) (by omega)
    rw [Int.add_mul] at this
    omega
  · omega

/-! rows -/
def rowL (as : List Int) (N q : Nat) : List Bool := (List.range N).map fun s : Nat => reach as q (s : Int)
theorem rowL_len (as : List Int) (N q : Nat) : (rowL as N q).length = N := by simp [rowL]
theorem rowL_get (as : List Int) {N q s : Nat} (h : s < (rowL as N q).length) : (rowL as N q)[s] = reach as q (s : Int) := by simp [rowL]
def rowP (as : List Int) (q m j : Nat) (s : Nat) : Bool := (as.any fun a => decide ((s : Int) - a < m) && reach as q ((s : Int) - a)) || (reach as q m && (as.take j).any fun a => (m : Int) + a == s)
structure RowI (as : List Int) (N q m j : Nat) (R : List Bool) : Prop where
  len : R.length = N
  at_ : ∀ s, (h : s < R.length) → R[s] = rowP as q m j s
theorem RowI.start {as : List Int} (h : ∀ a ∈ as, 0 ≤ a) (N q : Nat) : RowI as N q 0 0 (List.replicate N false) := by
  refine ⟨by simp, fun s hs => ?_⟩
  simp only [List.getElem_replicate]
  symm
  unfold rowP
  rw [Bool.or_eq_false_iff]
  refine ⟨?_, by simp⟩
  rw [List.any_eq_false]
  intro a ha
  simp only [Bool.and_eq_true, decide_eq_true_eq, not_and]
  intro h1 h2
  have := reach_nn h h2
  simp at h1
  omega
theorem any_take_succ {α : Type} (l : List α) {j : Nat} (hj : j < l.length) (p : α → Bool) : (l.take (j + 1)).any p = ((l.take j).any p || p l[j]) := by
  rw [List.take_succ_eq_append_getElem hj, List.any_append]
  simp
theorem RowI.skip {as : List Int} {N q m j : Nat} {R : List Bool} (h : RowI as N q m j R) (hj : j < as.length) (hno : reach as q m = false ∨ (N : Int) ≤ m + as[j]) : RowI as N q m (j + 1) R := by
  refine ⟨h.len, fun s hs => ?_⟩
  rw [h.at_ s hs]
  unfold rowP
  rw [any_take_succ as hj]
  rcases hno with e | e
  · simp [e]
  · have : ((m : Int) + as[j] == (s : Int)) = false := by
      have := h.len
      rw [beq_eq_false_iff_ne]; omega
    simp [this]
theorem RowI.put {as : List Int} {N q m j : Nat} {R : List Bool} (h : RowI as N q m j R) (hj : j < as.length) (hr : reach as q m = true) {p : Nat} (hp : (p : Int) = m + as[j]) : RowI as N q m (j + 1) (R.set p true) := by
  refine ⟨by simpa using h.len, fun s hs => ?_⟩
  simp only [List.length_set] at hs
  rw [List.getElem_set]
  unfold rowP
  rw [any_take_succ as hj, hr]
  by_cases e : p = s
  · subst e
    simp [hp]
  · rw [if_neg e, h.at_ s hs]
    have : ((m : Int) + as[j] == (s : Int)) = false := by rw [beq_eq_false_iff_ne]; omega
    unfold rowP
    simp [this, hr]
theorem RowI.next {as : List Int} {N q m : Nat} {R : List Bool} (h : RowI as N q m as.length R) : RowI as N q (m + 1) 0 R := by
  refine ⟨h.len, fun s hs => ?_⟩
  rw [h.at_ s hs]
  unfold rowP
  rw [List.take_of_length_le (Nat.le_refl _), List.take_zero, List.any_nil, Bool.and_false, Bool.or_false, Bool.eq_iff_iff, Bool.or_eq_true, Bool.and_eq_true, List.any_eq_true, List.any_eq_true, List.any_eq_true]
  constructor
  · rintro (⟨a, ha, h1⟩ | ⟨h1, a, ha, h2⟩)
    · refine ⟨a, ha, ?_⟩
      rw [Bool.and_eq_true] at h1 ⊢
      exact ⟨by simp at h1 ⊢; omega, h1.2⟩
    · refine ⟨a, ha, ?_⟩
      have : (s : Int) - a = m := by simp at h2; omega
      rw [Bool.and_eq_true, this]
      exact ⟨by simp; omega, h1⟩
  · rintro ⟨a, ha, h1⟩
    rw [Bool.and_eq_true] at h1
    obtain ⟨h1, h2⟩ := h1
    by_cases e : (s : Int) - a = m
    · refine .inr ⟨by rw [← e]; exact h2, a, ha, by simp; omega⟩
    · exact .inl ⟨a, ha, by rw [Bool.and_eq_true]; exact ⟨by simp at h1 ⊢; omega, h2⟩⟩
theorem RowI.done {as : List Int} (h0 : ∀ a ∈ as, 0 ≤ a) {N q : Nat} {R : List Bool} (h : RowI as N q N 0 R) : R = rowL as N (q + 1) := by
  apply List.ext_getElem
  · rw [h.len, rowL_len]
  · intro s h1 h2
    rw [h.at_ s h1, rowL_get]
    unfold rowP
    rw [List.take_zero, List.any_nil, Bool.and_false, Bool.or_false, reach, Bool.eq_iff_iff, List.any_eq_true, List.any_eq_true]
    have hl := h.len
    constructor
    · rintro ⟨a, ha, h3⟩
      rw [Bool.and_eq_true] at h3
      exact ⟨a, ha, h3.2⟩
    · rintro ⟨a, ha, h3⟩
      have := h0 a ha
      exact ⟨a, ha, by rw [Bool.and_eq_true]; exact ⟨by simp; omega, h3⟩⟩
theorem row0 (as : List Int) (N : Nat) : (List.replicate N false).set 0 true = rowL as N 0 := by
  apply List.ext_getElem
  · simp [rowL]
  · intro s h1 h2
    rw [rowL_get, List.getElem_set]
    by_cases e : 0 = s
    · subst e; simp [reach]
    · rw [if_neg e]
      simp [reach]
      omega

/-! the reference's three rows, as lists -/
structure TabR (xs : List Int) (N n : Nat) (F O P : List Int) : Prop where
  lf : F.length = N + 1
  lo : O.length = N + 1
  lp : P.length = N + 1
  at_ : ∀ q, q < n → F.getD q 0 = (bF (stepsOf xs) q).1 ∧ O.getD q 0 = (bF (stepsOf xs) q).2.1 ∧ P.getD q 0 = (bF (stepsOf xs) q).2.2
def stR (xs : List Int) (n k : Nat) : Int × Int × Int := brow (btab (stepsOf xs) (n - 1)) (n : Int) (stepsOf xs) k
structure RowR (xs : List Int) (N n k : Nat) (F O P : List Int) : Prop where
  tab : TabR xs N n F O P
  cur : 0 < k → F.getD n 0 = (stR xs n k).1 ∧ O.getD n 0 = (stR xs n k).2.1 ∧ P.getD n 0 = (stR xs n k).2.2
theorem TabR.start (xs : List Int) (N : Nat) : TabR xs N 1 (List.replicate (N + 1) 0) (List.replicate (N + 1) 0) (List.replicate (N + 1) 0) := by
  refine ⟨by simp, by simp, by simp, fun q hq => ?_⟩
  obtain rfl : q = 0 := by omega
  rw [bF_zero]
  simp [List.getD]
theorem RowR.start {xs : List Int} {N n : Nat} {F O P : List Int} (h : TabR xs N n F O P) : RowR xs N n 0 F O P := ⟨h, fun h => by omega⟩
theorem stR_succ {xs : List Int} (h : Szs xs) {n k : Nat} (hn : 1 ≤ n) (hk : k < xs.length) :
    stR xs n (k + 1) = if k = 0 ∨ (bF (stepsOf xs) (bR n (xs[k] / 50))).1 + 1 < (stR xs n k).1 ∨ ((bF (stepsOf xs) (bR n (xs[k] / 50))).1 + 1 = (stR xs n k).1 ∧ bMore (stepsOf xs) n (xs[k] / 50) < (stR xs n k).2.1) then ((bF (stepsOf xs) (bR n (xs[k] / 50))).1 + 1, bMore (stepsOf xs) n (xs[k] / 50), (k : Int)) else stR xs n k := by
  obtain ⟨m, rfl⟩ : ∃ m, n = m + 1 := ⟨n - 1, by omega⟩
  unfold stR
  rw [brow_succ, Nat.add_sub_cancel, show ((m + 1 : Nat) : Int) = (m : Int) + 1 by omega]
  rw [bstep_eq _ _ (by rw [stepsOf_get hk]; have := h.at_ hk; omega), stepsOf_get hk]
theorem set_getD_ne (l : List Int) (i q : Nat) (v : Int) (h : q ≠ i) : (l.set i v).getD q 0 = l.getD q 0 := by simp [List.getD, List.getElem?_set, Ne.symm h]
theorem set_getD_eq (l : List Int) (i : Nat) (v : Int) (h : i < l.length) : (l.set i v).getD i 0 = v := by simp [List.getD, h]
theorem RowR.put {xs : List Int} (hz : Szs xs) {N n k : Nat} {F O P : List Int} (h : RowR xs N n k F O P) (hn : 1 ≤ n) (hN : n ≤ N) (hk : k < xs.length) {f m : Int} (hf : f = (bF (stepsOf xs) (bR n (xs[k] / 50))).1 + 1) (hm : m = bMore (stepsOf xs) n (xs[k] / 50))
    (hc : k = 0 ∨ f < F.getD n 0 ∨ (f = F.getD n 0 ∧ m < O.getD n 0)) : RowR xs N n (k + 1) (F.set n f) (O.set n m) (P.set n (k : Int)) := by
  obtain ⟨lf, lo, lp, ht⟩ := h.tab
  refine ⟨⟨by simpa using lf, by simpa using lo, by simpa using lp, fun q hq => ?_⟩, fun _ => ?_⟩
  · rw [set_getD_ne _ _ _ _ (by omega), set_getD_ne _ _ _ _ (by omega), set_getD_ne _ _ _ _ (by omega)]
    exact ht q hq
  · rw [set_getD_eq _ _ _ (by omega), set_getD_eq _ _ _ (by omega), set_getD_eq _ _ _ (by omega), stR_succ hz hn hk]
    have hc2 : k = 0 ∨ f < (stR xs n k).1 ∨ (f = (stR xs n k).1 ∧ m < (stR xs n k).2.1) := by
      by_cases e : k = 0
      · exact .inl e
      · have := h.cur (by omega)
        rw [this.1, this.2.1] at hc
        exact hc
    rw [hf, hm] at hc2
    rw [if_pos hc2]
    exact ⟨hf, hm, rfl⟩
theorem RowR.keep {xs : List Int} (hz : Szs xs) {N n k : Nat} {F O P : List Int} (h : RowR xs N n k F O P) (hn : 1 ≤ n) (hk : k < xs.length) {f m : Int} (hf : f = (bF (stepsOf xs) (bR n (xs[k] / 50))).1 + 1) (hm : m = bMore (stepsOf xs) n (xs[k] / 50))
    (hc : ¬ (k = 0 ∨ f < F.getD n 0 ∨ (f = F.getD n 0 ∧ m < O.getD n 0))) : RowR xs N n (k + 1) F O P := by
  refine ⟨h.tab, fun _ => ?_⟩
  have hk0 : k ≠ 0 := fun e => hc (.inl e)
  have hcur := h.cur (by omega)
  rw [stR_succ hz hn hk, if_neg]
  · exact hcur
  · rw [← hf, ← hm, ← hcur.1, ← hcur.2.1]
    exact hc
theorem RowR.done {xs : List Int} (hz : Szs xs) {N n : Nat} {F O P : List Int} (hn : 1 ≤ n) (h : RowR xs N n xs.length F O P) : TabR xs N (n + 1) F O P := by
  obtain ⟨lf, lo, lp, ht⟩ := h.tab
  refine ⟨lf, lo, lp, fun q hq => ?_⟩
  by_cases e : q = n
  · subst e
    have := h.cur (by have := hz.one; omega)
    obtain ⟨m, rfl⟩ : ∃ m, q = m + 1 := ⟨q - 1, by omega⟩
    rw [bF_succ, stepsOf_len]
    unfold stR at this
    rw [Nat.add_sub_cancel, show ((m + 1 : Nat) : Int) = (m : Int) + 1 by omega] at this
    exact this
  · exact ht q (by omega)
theorem bMore_gt (as : List Int) {n : Nat} {a : Int} (h : (n : Int) < a) : bMore as n a = a - n := by unfold bMore; rw [if_pos h]
theorem bMore_le (as : List Int) {n : Nat} {a : Int} (h : ¬ (n : Int) < a) : bMore as n a = (bF as (bR n a)).2.1 := by unfold bMore; rw [if_neg h]
end Go.Proofs.Ytamhkiakplmlmaa
