/-
  Trips, in numbers: all ways to put loads into trips, in the searches' order; the first one of the least number; the least number as a question of bins.
-/
import Derived.Test.YtcookepklcbfeaaPlain
namespace Go.Proofs.Ytcookepklcbfeaa

/-- load x into trip k, which may be a new one -/
def puts (sums : List Int) (k : Nat) (x : Int) : List Int := if k < sums.length then sums.set k (sums.getD k 0 + x) else sums ++ [x]
/-- all ways, as (the trips of the loads, the number of trips), in order -/
def lvs (most : Int) : List Int → List Int → List Int → List (List Int × Nat)
  | [], sums, wh => [(wh, sums.length)]
  | x :: xs, sums, wh => (List.range (sums.length + 1)).flatMap fun k => if sums.getD k 0 + x ≤ most then lvs most xs (puts sums k x) (wh ++ [(k : Int)]) else []
theorem puts_len (sums : List Int) (k : Nat) (x : Int) : (puts sums k x).length = if k < sums.length then sums.length else sums.length + 1 := by
  unfold puts
  split <;> simp
theorem puts_ge (sums : List Int) (k : Nat) (x : Int) : sums.length ≤ (puts sums k x).length := by
  rw [puts_len]; split <;> omega
theorem lvs_ge {most : Int} {rest sums wh : List Int} {l : List Int × Nat} (h : l ∈ lvs most rest sums wh) : sums.length ≤ l.2 := by
  induction rest generalizing sums wh with
  | nil => simp [lvs] at h; subst h; exact Nat.le_refl _
  | cons x xs ih =>
    simp only [lvs, List.mem_flatMap] at h
    obtain ⟨k, _, hk⟩ := h
    split at hk
    · have := ih hk
      have := puts_ge sums k x
      omega
    · cases hk
theorem lvs_le {most : Int} {rest sums wh : List Int} {l : List Int × Nat} (h : l ∈ lvs most rest sums wh) : l.2 ≤ sums.length + rest.length := by
  induction rest generalizing sums wh with
  | nil => simp [lvs] at h; subst h; simp
  | cons x xs ih =>
    simp only [lvs, List.mem_flatMap] at h
    obtain ⟨k, _, hk⟩ := h
    split at hk
    · have := ih hk
      have h2 := puts_len sums k x
      simp only [List.length_cons]
      split at h2 <;> omega
    · cases hk
theorem lvs_len {most : Int} {rest sums wh : List Int} {l : List Int × Nat} (h : l ∈ lvs most rest sums wh) : l.1.length = wh.length + rest.length := by
  induction rest generalizing sums wh with
  | nil => simp [lvs] at h; subst h; simp
  | cons x xs ih =>
    simp only [lvs, List.mem_flatMap] at h
    obtain ⟨k, _, hk⟩ := h
    split at hk
    · have := ih hk
      simp at this
      simp only [List.length_cons]
      omega
    · cases hk
/-- the spec's state: the fewest so far (-1: none) and its list -/
def upd (st : Int × List Int) (l : List Int × Nat) : Int × List Int := if st.1 < 0 ∨ (l.2 : Int) < st.1 then ((l.2 : Int), l.1) else st
theorem upd_skip {st : Int × List Int} {ls : List (List Int × Nat)} (h0 : 0 ≤ st.1) (h : ∀ l ∈ ls, st.1 ≤ l.2) : ls.foldl upd st = st := by
  induction ls with
  | nil => rfl
  | cons l ls ih =>
    have hl := h l (List.mem_cons_self ..)
    rw [List.foldl_cons, show upd st l = st by unfold upd; rw [if_neg (by omega)]]
    exact ih fun x hx => h x (List.mem_cons_of_mem _ hx)
/-- the spec's loop over the trips, from k on -/
def lvsFrom (most : Int) (x : Int) (xs sums wh : List Int) (n : Nat) : Nat → List (List Int × Nat)
  | 0 => []
  | m + 1 => (if sums.getD (n - (m + 1)) 0 + x ≤ most then lvs most xs (puts sums (n - (m + 1)) x) (wh ++ [((n - (m + 1) : Nat) : Int)]) else []) ++ lvsFrom most x xs sums wh n m
theorem lvsFrom_all (most : Int) (x : Int) (xs sums wh : List Int) : lvs most (x :: xs) sums wh = lvsFrom most x xs sums wh (sums.length + 1) (sums.length + 1) := by
  have : ∀ n m, m ≤ n → lvsFrom most x xs sums wh n m = ((List.range n).drop (n - m)).flatMap fun k => if sums.getD k 0 + x ≤ most then lvs most xs (puts sums k x) (wh ++ [(k : Int)]) else [] := by
    intro n m h
    induction m with
    | zero => rw [Nat.sub_zero, List.drop_of_length_le (by simp)]; rfl
    | succ m ih =>
      rw [lvsFrom, ih (by omega), List.drop_eq_getElem_cons (i := n - (m + 1)) (by simp; omega), List.flatMap_cons, show n - (m + 1) + 1 = n - m by omega]
      simp
  rw [this _ _ (Nat.le_refl _)]
  simp [lvs]
/-- the first of least number -/
theorem upd_first {ls : List (List Int × Nat)} (hne : ls ≠ []) : ∃ l, l ∈ ls ∧ ls.foldl upd (-1, []) = ((l.2 : Int), l.1) ∧ (∀ x ∈ ls, l.2 ≤ x.2) ∧ ls.find? (fun x => x.2 ≤ l.2) = some l := by
  have key : ∀ (ls : List (List Int × Nat)) (l0 : List Int × Nat), ∃ l, (l = l0 ∨ l ∈ ls) ∧ ls.foldl upd ((l0.2 : Int), l0.1) = ((l.2 : Int), l.1) ∧ (∀ x ∈ l0 :: ls, l.2 ≤ x.2) ∧ (l0 :: ls).find? (fun x => x.2 ≤ l.2) = some l := by
    intro ls
    induction ls with
    | nil => intro l0; exact ⟨l0, .inl rfl, rfl, by simp, by simp⟩
    | cons a ls ih =>
      intro l0
      rw [List.foldl_cons]
      by_cases h : a.2 < l0.2
      · rw [show upd ((l0.2 : Int), l0.1) a = ((a.2 : Int), a.1) by unfold upd; rw [if_pos (.inr (by simpa using h))]]
        obtain ⟨l, h1, h2, h3, h4⟩ := ih a
        have ha := h3 a (List.mem_cons_self ..)
        refine ⟨l, .inr ?_, h2, ?_, ?_⟩
        · rcases h1 with rfl | h1
          · exact List.mem_cons_self ..
          · exact List.mem_cons_of_mem _ h1
        · intro x hx
          rcases List.mem_cons.1 hx with rfl | hx
          · omega
          · exact h3 x hx
        · rw [List.find?_cons_of_neg (by simp; omega)]
          exact h4
      · rw [show upd ((l0.2 : Int), l0.1) a = ((l0.2 : Int), l0.1) by unfold upd; rw [if_neg (by simp; omega)]]
        obtain ⟨l, h1, h2, h3, h4⟩ := ih l0
        have hl0 := h3 l0 (List.mem_cons_self ..)
        refine ⟨l, ?_, h2, ?_, ?_⟩
        · rcases h1 with h1 | h1
          · exact .inl h1
          · exact .inr (List.mem_cons_of_mem _ h1)
        · intro x hx
          rcases List.mem_cons.1 hx with rfl | hx
          · exact hl0
          · rcases List.mem_cons.1 hx with rfl | hx
            · omega
            · exact h3 x (List.mem_cons_of_mem _ hx)
        · by_cases e : l0.2 ≤ l.2
          · rw [List.find?_cons_of_pos (by simpa using e)] at h4 ⊢
            exact h4
          · rw [List.find?_cons_of_neg (by simpa using e)] at h4 ⊢
            rw [List.find?_cons_of_neg (by simp; omega)]
            exact h4
  cases ls with
  | nil => exact absurd rfl hne
  | cons a ls =>
    obtain ⟨l, h1, h2, h3, h4⟩ := key ls a
    refine ⟨l, ?_, ?_, h3, h4⟩
    · rcases h1 with rfl | h1
      · exact List.mem_cons_self ..
      · exact List.mem_cons_of_mem _ h1
    · rw [List.foldl_cons, show upd (-1, []) a = ((a.2 : Int), a.1) by unfold upd; rw [if_pos (.inl (by decide))]]
      exact h2

/-! bins -/
/-- do the loads fit into these bins (with what they hold)? -/
def Feas (most : Int) : List Int → List Int → Prop
  | [], _ => True
  | x :: xs, s => ∃ a s0, s.Perm (a :: s0) ∧ a + x ≤ most ∧ Feas most xs ((a + x) :: s0)
theorem Feas.perm {most : Int} {rest s s' : List Int} (h : Feas most rest s) (hp : s.Perm s') : Feas most rest s' := by
  cases rest with
  | nil => trivial
  | cons x xs =>
    obtain ⟨a, s0, h1, h2, h3⟩ := h
    exact ⟨a, s0, hp.symm.trans h1, h2, h3⟩
theorem set_perm (s : List Int) {k : Nat} (h : k < s.length) (v : Int) : (s.set k v).Perm (v :: s.eraseIdx k) := by
  induction s generalizing k with
  | nil => simp at h
  | cons a s ih =>
    cases k with
    | zero => simp
    | succ k =>
      simp only [List.set_cons_succ, List.eraseIdx_cons_succ]
      exact ((ih (by simpa using h)).cons a).trans (List.Perm.swap _ _ _)
theorem get_perm (s : List Int) {k : Nat} (h : k < s.length) : s.Perm (s[k] :: s.eraseIdx k) := by
  have := set_perm s h s[k]
  rwa [List.set_getElem_self] at this
theorem Feas.at_ {most : Int} {x : Int} {xs s : List Int} {k : Nat} (h : k < s.length) (hm : s[k] + x ≤ most) (hf : Feas most xs (s.set k (s[k] + x))) : Feas most (x :: xs) s :=
  ⟨s[k], s.eraseIdx k, get_perm s h, hm, hf.perm (set_perm s h _)⟩
theorem Feas.get {most : Int} {x : Int} {xs s : List Int} (h : Feas most (x :: xs) s) : ∃ k, ∃ hk : k < s.length, s[k] + x ≤ most ∧ Feas most xs (s.set k (s[k] + x)) := by
  obtain ⟨a, s0, h1, h2, h3⟩ := h
  have hm : a ∈ s := h1.mem_iff.2 (List.mem_cons_self ..)
  obtain ⟨k, hk, rfl⟩ := List.getElem_of_mem hm
  refine ⟨k, hk, h2, h3.perm ?_⟩
  have := h1.symm.trans (get_perm s hk)
  have := List.Perm.cons_inv this
  exact (this.cons _).trans (set_perm s hk _).symm

/-- a way with at most t trips: the same as room in t bins -/
theorem lvs_feas {most : Int} {rest sums wh : List Int} {t : Nat} (ht : sums.length ≤ t) : (∃ l ∈ lvs most rest sums wh, l.2 ≤ t) ↔ Feas most rest (sums ++ List.replicate (t - sums.length) 0) := by
  induction rest generalizing sums wh with
  | nil => simp [lvs, Feas]; exact ht
  | cons x xs ih =>
    constructor
    · rintro ⟨l, hl, hlt⟩
      simp only [lvs, List.mem_flatMap, List.mem_range] at hl
      obtain ⟨k, hk, hl⟩ := hl
      split at hl
      · rename_i hm
        have hge := lvs_ge hl
        by_cases hks : k < sums.length
        · have e : puts sums k x = sums.set k (sums[k] + x) := by unfold puts; rw [if_pos hks, getD_lt sums 0 hks]
          rw [getD_lt sums 0 hks] at hm
          rw [e] at hl
          have := (ih (sums := sums.set k (sums[k] + x)) (wh := wh ++ [(k : Int)]) (by simpa using ht)).1 ⟨l, hl, hlt⟩
          refine Feas.at_ (k := k) (by simp; omega) (by rw [List.getElem_append_left hks]; exact hm) ?_
          rw [List.getElem_append_left hks, List.set_append_left _ _ hks]
          simpa using this
        · have e : puts sums k x = sums ++ [x] := by unfold puts; rw [if_neg hks]
          have hke : k = sums.length := by omega
          subst hke
          rw [e] at hl hge
          simp at hge
          have := (ih (sums := sums ++ [x]) (wh := wh ++ [(sums.length : Int)]) (by simp; omega)).1 ⟨l, hl, hlt⟩
          have hz : sums.getD sums.length 0 = 0 := by simp
          rw [hz] at hm
          obtain ⟨m, hm2⟩ : ∃ m, t - sums.length = m + 1 := ⟨t - sums.length - 1, by omega⟩
          have hm3 : t - (sums ++ [x]).length = m := by simp; omega
          rw [hm3] at this
          rw [hm2, List.replicate_succ]
          refine Feas.at_ (k := sums.length) (by simp) (by simpa using hm) ?_
          simpa using this
      · cases hl
    · intro h
      obtain ⟨k, hk, hm, hf⟩ := h.get
      simp at hk
      by_cases hks : k < sums.length
      · rw [List.getElem_append_left hks] at hm hf
        rw [List.set_append_left _ _ hks] at hf
        have := (ih (sums := sums.set k (sums[k] + x)) (wh := wh ++ [(k : Int)]) (by simpa using ht)).2 (by simpa using hf)
        obtain ⟨l, hl, hlt⟩ := this
        refine ⟨l, ?_, hlt⟩
        simp only [lvs, List.mem_flatMap, List.mem_range]
        refine ⟨k, by omega, ?_⟩
        rw [getD_lt sums 0 hks, if_pos hm]
        rw [show puts sums k x = sums.set k (sums[k] + x) by unfold puts; rw [if_pos hks, getD_lt sums 0 hks]]
        exact hl
      · obtain ⟨m, hm2⟩ : ∃ m, t - sums.length = m + 1 := ⟨t - sums.length - 1, by omega⟩
        rw [List.getElem_append_right (by omega)] at hm hf
        simp only [List.getElem_replicate] at hm hf
        have hf' : Feas most xs (sums ++ [x] ++ List.replicate (t - (sums ++ [x]).length) 0) := by
          refine hf.perm ?_
          rw [show t - (sums ++ [x]).length = m by simp; omega, hm2, List.set_append_right _ _ (by omega)]
          rw [List.append_assoc]
          refine List.Perm.append_left _ ?_
          refine (set_perm _ (by simp; omega) _).trans ?_
          rw [List.eraseIdx_replicate, if_pos (by omega), Int.zero_add]
          exact List.Perm.refl _
        have := (ih (sums := sums ++ [x]) (wh := wh ++ [(sums.length : Int)]) (by simp; omega)).2 hf'
        obtain ⟨l, hl, hlt⟩ := this
        refine ⟨l, ?_, hlt⟩
        simp only [lvs, List.mem_flatMap, List.mem_range]
        refine ⟨sums.length, by omega, ?_⟩
        rw [if_pos (by simpa using hm), show puts sums sums.length x = sums ++ [x] by unfold puts; rw [if_neg (by omega)]]
        exact hl
end Go.Proofs.Ytcookepklcbfeaa
