/-
  FnTestedBricks, the plain part: the mean and the weakest, the middle, classes, texts read back.
-/
import Derived.Test.YtehmghlhljocbaaGreatDoorTestedM
import Derived.Test.YtehmghlhljocbaaGreatDoorTestedD
import Derived.Test.YtehmghlhljocbaaGreatDoorRdT
import Derived.Test.YtehmghlhljocbaaGreatDoorRdBack
namespace Go.Proofs.YtehmghlhljocbaaGreatDoor

theorem sm_ge (m : Int) : ∀ l : List Int, (∀ x ∈ l, m ≤ x) → m * l.length ≤ sm l
  | [], _ => by simp [sm]
  | x :: r, h => by
    have h1 := sm_ge m r (fun y hy => h y (List.mem_cons_of_mem _ hy))
    have h2 := h x List.mem_cons_self
    have h3 : sm (x :: r) = x + sm r := by
      have := sm_append [x] r
      simp [sm] at this ⊢
      try omega
    rw [h3, List.length_cons]
    have h4 : m * ((r.length + 1 : Nat) : Int) = m * r.length + m := by
      rw [Int.natCast_add, Int.mul_add]
      simp
    omega
theorem mean_ge {xs : List TestedD} (h : tcP xs = 0) : (xs.getD (wkB xs xs.length) (0, 0)).1 * (msD xs : Int) ≤ (msN xs : Int) := by
  obtain ⟨hv, hl⟩ := tc_zero h
  obtain ⟨s0, _⟩ := stg_nat hv
  have hq := wkB_lt xs xs.length hl (Nat.le_refl _)
  have hmin := wkB_min xs xs.length
  obtain ⟨M, hM⟩ : ∃ M : Nat, (M : Int) = (xs.getD (wkB xs xs.length) (0, 0)).1 := by
    have := ((vt_parts hv).2 _ (List.getElem_mem hq)).1.1
    rw [getD_lt xs _ hq]
    exact ⟨xs[wkB xs xs.length].1.toNat, by omega⟩
  rw [← hM] at hmin ⊢
  have h1 : (M : Int) * xs.length ≤ stg xs := by
    have := sm_ge (M : Int) (xs.map fun x => x.1) (fun y hy => by
      obtain ⟨x, hx, rfl⟩ := List.mem_map.1 hy
      obtain ⟨i, hi, rfl⟩ := List.getElem_of_mem hx
      have := hmin i hi
      rw [getD_lt xs _ hi] at this
      exact this)
    rw [List.length_map] at this
    exact this
  unfold msD msN msG
  rw [if_pos h, if_pos h]
  obtain ⟨S, hS⟩ : ∃ S : Nat, S = (stg xs).toNat := ⟨_, rfl⟩
  have hSi : stg xs = (S : Int) := by omega
  rw [← hS]
  rw [hSi] at h1
  generalize xs.length = n at *
  have h2 : M * n ≤ S := by exact_mod_cast h1
  have hg : 0 < Nat.gcd S n := Nat.gcd_pos_of_pos_right S hl
  have e1 := Nat.div_mul_cancel (Nat.gcd_dvd_left S n)
  have e2 := Nat.div_mul_cancel (Nat.gcd_dvd_right S n)
  generalize Nat.gcd S n = g at *
  have h3 : M * (n / g) ≤ S / g := by
    refine Nat.le_of_mul_le_mul_right ?_ hg
    rw [Nat.mul_assoc, e1, e2]
    exact h2
  exact_mod_cast h3
/-- more than -/
def abvC (xs : List Int) (v : Int) : Nat := xs.countP fun y => decide (v < y)
theorem three_cnt (xs : List Int) (v : Int) : belC xs v + samC xs v + abvC xs v = xs.length := by
  rw [bel_sam]
  unfold abvC
  induction xs with
  | nil => rfl
  | cons x r ih =>
    simp only [List.countP_cons, List.length_cons]
    by_cases h : x ≤ v
    · simp [h, show ¬ v < x by omega]; omega
    · simp [h, show v < x by omega]; omega
theorem med_walk {xs : List TestedD} (h : tcP xs = 0) : (mwP xs).2 = 0 ∧ 2 * belC (wat xs) (mwP xs).1 < xs.length ∧ 2 * abvC (wat xs) (mwP xs).1 ≤ xs.length := by
  obtain ⟨_, hl⟩ := tc_zero h
  have e : mwP xs = ((sortI (wat xs)).getD ((xs.length - 1) / 2) 0, 0) := by unfold mwP; rw [if_pos h]
  have h1 := (mid_iff (xs := wat xs) (by rw [wat_len]; exact hl) (mwP xs).1).2 (by rw [e, wat_len])
  unfold midC at h1
  rw [decide_eq_true_iff, wat_len] at h1
  have h3 := three_cnt (wat xs) (mwP xs).1
  rw [wat_len] at h3
  refine ⟨by rw [e], ?_, ?_⟩ <;> omega
theorem med_code (xs : List TestedD) : (mwP xs).2 = tcP xs := by
  unfold mwP
  split
  · rename_i h; rw [h]
  · rfl
theorem belT_succ (xs : List TestedD) (v : Int) {k : Nat} (h : k < xs.length) : belC (wat (xs.take (k + 1))) v = belC (wat (xs.take k)) v + if xs[k].2 < v then 1 else 0 := by
  unfold belC wat
  rw [List.take_succ_eq_append_getElem h, List.map_append, List.countP_append]
  by_cases hs : xs[k].2 < v <;> simp [hs]
theorem abvC_succ (xs : List TestedD) (v : Int) {k : Nat} (h : k < xs.length) : abvC (wat (xs.take (k + 1))) v = abvC (wat (xs.take k)) v + if v < xs[k].2 then 1 else 0 := by
  unfold abvC wat
  rw [List.take_succ_eq_append_getElem h, List.map_append, List.countP_append]
  by_cases hs : v < xs[k].2 <;> simp [hs]
theorem belT_le (xs : List TestedD) (v : Int) (k : Nat) : belC (wat (xs.take k)) v ≤ k := by
  have := List.countP_le_length (p := fun y => decide (y < v)) (l := wat (xs.take k))
  rw [wat_len, List.length_take] at this
  unfold belC
  omega
theorem abvC_le (xs : List TestedD) (v : Int) (k : Nat) : abvC (wat (xs.take k)) v ≤ k := by
  have := List.countP_le_length (p := fun y => decide (v < y)) (l := wat (xs.take k))
  rw [wat_len, List.length_take] at this
  unfold abvC
  omega
/-- the faults are told while there is a class to be had -/
theorem bc_walk {xs : List TestedD} {ks : List ClassD} (h : (bcP xs ks).2 = 0 ∨ ((bcP xs ks).2 = 3 ∧ tcP xs = 0)) : vtB xs = true ∧ 0 < xs.length ∧ (∀ c ∈ ks, clOk c = true) ∧ bcP xs ks = bcF xs ks := by
  by_cases hc : vtB xs = true ∧ ks.any (fun c => !clOk c) = false
  · have e : bcP xs ks = bcF xs ks := by unfold bcP; rw [if_pos hc]
    refine ⟨hc.1, ?_, fun c hm => ?_, e⟩
    · rcases h with h | h
      · by_cases h0 : xs.length = 0
        · rw [e, bcF_nil xs ks h0] at h
          simp at h
        · omega
      · exact (tc_zero h.2).2
    · have := List.any_eq_false.1 hc.2 c hm
      simpa using this
  · exfalso
    have e : (bcP xs ks).2 = 1 := by unfold bcP; rw [if_neg hc]
    rcases h with h | h
    · rw [e] at h; cases h
    · rw [e] at h; cases h.1
theorem bc_code (xs : List TestedD) (ks : List ClassD) : (bcP xs ks).2 = 0 ∨ (bcP xs ks).2 = 3 ∨ (bcP xs ks).2 = 1 := by
  unfold bcP
  split
  · have : ∀ l : List ClassD, (bcF xs l).2 = 0 ∨ (bcF xs l).2 = 3 := by
      intro l
      induction l with
      | nil => exact .inr rfl
      | cons c r ih =>
        have := bcF_step xs (cs := c :: r) (k := 0) (by simp)
        simp only [List.drop_zero, List.getElem_cons_zero] at this
        rw [this]
        split
        · exact .inl rfl
        · simpa using ih
    rcases this ks with h | h
    · exact .inl h
    · exact .inr (.inl h)
  · exact .inr (.inr rfl)
theorem cf_ok {xs : List TestedD} {c : ClassD} (hv : vtB xs = true) (hl : 0 < xs.length) (hc : clOk c = true) : cfS xs c = cfT xs c ∧ cfC xs c = 0 := by
  unfold cfS cfC
  rw [if_pos ⟨hv, hc, by omega⟩, if_pos ⟨hv, hc⟩, if_neg (by omega)]
  exact ⟨rfl, rfl⟩
/-! ## texts -/
theorem tt_parts {x : TestedD} (h : (0 ≤ x.1 ∧ x.1 ≤ 100000) ∧ 0 ≤ x.2 ∧ x.2 ≤ 1000) : rdT (ttE x) = some x := by
  have hs : spl 47 (ttE x) = [Lib.itoa x.1, Lib.itoa x.2] := by
    have h1 := spl_join 47 [Lib.itoa x.1, Lib.itoa x.2] (by simp) (fun p hp hc => by
      simp only [List.mem_cons, List.not_mem_nil, or_false] at hp
      rcases hp with rfl | rfl
      · have := itoa_digit h.1.1 _ hc
        simp at this
      · have := itoa_digit h.2.1 _ hc
        simp at this)
    rw [join_more _ (by simp), Lib.join_one, ← List.append_assoc] at h1
    exact h1
  unfold rdT rdNs
  rw [hs, if_pos (by rfl)]
  show Option.map _ (mapO rdN ([x.1, x.2].map Lib.itoa)) = _
  rw [mapO_map_some (fun y hy => by
    simp only [List.mem_cons, List.not_mem_nil, or_false] at hy
    rcases hy with rfl | rfl
    · exact rdN_itoa h.1.1 (by omega)
    · exact rdN_itoa h.2.1 (by omega))]
  rfl
theorem rt_back (ts : List TestedD) : rtS (ttS ts).data.toList = some (if vtB ts = true then ts else []) := by
  by_cases hv : vtB ts = true
  · rw [if_pos hv]
    unfold ttS
    rw [if_pos hv, bs_data]
    by_cases h0 : ts = []
    · subst h0
      rfl
    · have hs : spl 32 (ttL ts) = ts.map ttE := by
        unfold ttL jn
        refine spl_join 32 _ (by simpa using h0) (fun p hp hc => ?_)
        obtain ⟨x, hx, rfl⟩ := List.mem_map.1 hp
        have hb := (vt_parts hv).2 x hx
        unfold ttE at hc
        rcases List.mem_append.1 hc with hc | hc
        · rcases List.mem_append.1 hc with hc | hc
          · have := itoa_digit hb.1.1 _ hc
            simp at this
          · simp at hc
        · have := itoa_digit hb.2.1 _ hc
          simp at this
      have hne : ttL ts ≠ [] := by
        intro e
        rw [e] at hs
        have h1 := congrArg (fun l : List (List UInt8) => l.length) hs
        have h2 : (spl 32 []) = [[]] := rfl
        rw [h2] at hs
        cases ts with
        | nil => exact h0 rfl
        | cons x r =>
          have h3 := congrArg (fun l : List (List UInt8) => (l.headD []).length) hs
          have h4 : 0 < (ttE x).length := by unfold ttE; simp; omega
          simp at h3
          rw [h3] at h4
          simp at h4
      unfold rtS
      rw [if_neg hne, hs, mapO_map_some (fun x hx => tt_parts ((vt_parts hv).2 x hx))]
      show (if vtB ts = true then some ts else none) = _
      rw [if_pos hv]
  · rw [if_neg hv]
    unfold ttS
    rw [if_neg hv]
    rfl
end Go.Proofs.YtehmghlhljocbaaGreatDoor
