/-
  FnTrips: the sums and bounds of its loops, in plain terms.
-/
import Derived.Test.YtcookepklcbfeaaTripsLaw
namespace Go.Proofs.Ytcookepklcbfeaa
open Go.ChangeShapes Go.WideShapes Go.RowKit

def smS (us xs : List Int) (F k : Nat) : List Int := (List.range (F + 1)).map fun j : Nat => bs (us.take k) (xs.take k) (j : Int)
theorem smS_len (us xs : List Int) (F k : Nat) : (smS us xs F k).length = F + 1 := by simp [smS]
theorem smS_get (us xs : List Int) (F k : Nat) {j : Nat} (h : j < (smS us xs F k).length) : (smS us xs F k)[j] = bs (us.take k) (xs.take k) (j : Int) := by simp [smS]
theorem smS_zero (us xs : List Int) (F : Nat) : smS us xs F 0 = List.replicate (F + 1) 0 := by
  apply List.ext_getElem
  · simp [smS]
  · intro i h1 h2
    rw [smS_get]
    simp [bs]
theorem smS_succ {us xs : List Int} (F : Nat) {k a : Nat} (hl : us.length = xs.length) (hk : k < xs.length) (ha : us.getD k (-1) = (a : Int)) : smS us xs F (k + 1) = (smS us xs F k).set a (bs (us.take k) (xs.take k) (a : Int) + xs[k]) := by
  apply List.ext_getElem
  · simp [smS]
  · intro i h1 h2
    rw [smS_get, bs_succ us xs hl _ hk, List.getElem_set, ha]
    by_cases e : a = i
    · subst e
      rw [if_pos rfl, if_pos rfl]
    · rw [if_neg (by omega), if_neg e, smS_get, Int.add_zero]
theorem bs_bd : ∀ (us xs : List Int) (k : Int), (∀ x ∈ xs, 0 ≤ x ∧ x ≤ 5000) → 0 ≤ bs us xs k ∧ bs us xs k ≤ 5000 * xs.length := by
  intro us
  induction us with
  | nil => intro xs k _; simp [bs]; omega
  | cons a us ih =>
    intro xs k hx
    cases xs with
    | nil => simp [bs]
    | cons x xs =>
      have h1 := ih xs k fun y hy => hx y (List.mem_cons_of_mem _ hy)
      have h2 := hx x (List.mem_cons_self ..)
      simp only [bs, List.length_cons]
      split <;> omega
theorem bs_tk {us xs : List Int} (hx : ∀ x ∈ xs, 0 ≤ x ∧ x ≤ 5000) (hl : xs.length ≤ 10) (k : Nat) (j : Int) : 0 ≤ bs (us.take k) (xs.take k) j ∧ bs (us.take k) (xs.take k) j ≤ 50000 := by
  have h := bs_bd (us.take k) (xs.take k) j (fun x h => hx x (List.mem_of_mem_take h))
  have : (xs.take k).length ≤ 10 := by simp; omega
  omega
theorem smS_end {us xs : List Int} (F : Nat) (hl : us.length = xs.length) {j : Nat} (h : j < (smS us xs F us.length).length) : (smS us xs F us.length)[j] = bs us xs (j : Int) := by
  rw [smS_get, List.take_of_length_le (Nat.le_refl _), List.take_of_length_le (by omega)]
theorem ff_bd {most : Int} {xs : List Int} (hx : ∀ x ∈ xs, 1 ≤ x ∧ x ≤ most) (hl : xs.length ≤ 10) : (ffGo most xs).1.length ≤ 10 ∧ ∀ a ∈ (ffGo most xs).1, 0 ≤ a ∧ a ≤ 10 := by
  have h1 := ff_way xs [] [] (fun x h => (hx x h).2)
  obtain ⟨us, a1, a2, a3, _, _⟩ := lvs_spec _ _ _ _ h1 (fun s hs => by cases hs)
  simp only [List.nil_append] at a2
  have e : (ffGo most xs).1 = us := a2
  have h2 := lvs_le h1
  simp only [List.length_nil, Nat.zero_add] at h2
  rw [e]
  refine ⟨by omega, fun a ha => ?_⟩
  have := a3 a ha
  omega
theorem used_bd {R : List Int} (h : ∀ a ∈ R, 0 ≤ a ∧ a ≤ 10) (k : Nat) : 0 ≤ usedL R k ∧ usedL R k ≤ 11 := by
  unfold usedL
  have : ∀ (l : List Int) (u : Int), (∀ a ∈ l, 0 ≤ a ∧ a ≤ 10) → 0 ≤ u ∧ u ≤ 11 → 0 ≤ l.foldl (fun u x => max u (x + 1)) u ∧ l.foldl (fun u x => max u (x + 1)) u ≤ 11 := by
    intro l
    induction l with
    | nil => intro u _ hu; exact hu
    | cons x l ih =>
      intro u hl hu
      have hx := hl x (List.mem_cons_self ..)
      rw [List.foldl_cons]
      exact ih (max u (x + 1)) (fun a ha => hl a (List.mem_cons_of_mem _ ha)) (by omega)
  exact this _ 0 (fun a ha => h a (List.mem_of_mem_take ha)) (by omega)
/-- all that the law's last part leans on -/
structure TrG (xs : List Int) (most : Int) (M R : List Int) (few low : Int) (F : Nat) : Prop where
  v : vlB xs most = true
  few : few = F
  f10 : F ≤ 10
  ml : M.length = xs.length
  mb : ∀ a ∈ M, 0 ≤ a ∧ a < F
  sb : ∀ k : Nat, k < F → 1 ≤ bs M xs (k : Int) ∧ bs M xs (k : Int) ≤ most
  tf : tfP2 xs most (lsA M F M.length) = (-1, 0)
  lw : low ≤ F
  rl : R.length ≤ 10
  rb : ∀ a ∈ R, 0 ≤ a ∧ a ≤ 10
  us : (F : Int) ≤ usedL R R.length
theorem tr_good {xs : List Int} {most : Int} (h : (btP xs most).2 = 0) : ∃ F, TrG xs most (btP xs most).1 (ffP xs most).1 (ftP xs most).1 (ltP xs most).1 F := by
  cases hv : vlB xs most
  · simp [btP, hv] at h
  · obtain ⟨⟨hm1, hm2⟩, hl, hx⟩ := vlB_parts hv
    obtain ⟨F, f1, f2, f3, f4, f5, f6, f7⟩ := best_walk hx (show (0 : Int) ≤ most by omega)
    have e1 : (btP xs most).1 = (bestL most xs).2 := by simp [btP, hv]
    have e2 : (ffP xs most).1 = (ffGo most xs).1 := by simp [ffP, hv]
    have e3 : (ftP xs most).1 = (bestL most xs).1 := by simp [ftP, hv]
    have e4 : (ltP xs most).1 = ltZ xs most := by simp [ltP, hv]
    rw [e1, e2, e3, e4]
    obtain ⟨r1, r2⟩ := ff_bd hx hl
    exact ⟨F, hv, f1, by omega, f3, f4, fun k hk => ⟨bs_in (fun x h => (hx x h).1) _ _ f3 (f5 k hk), f6 k hk⟩, by rw [f3]; exact fault_walk hv f2 f3 f4 f5 f6, least_walk hx hm1 f3 f4 f6, r1, r2, used_walk hx (by omega) f7⟩
theorem tr_codes {xs : List Int} {most : Int} : (btP xs most).2 = (ftP xs most).2 ∧ (ftP xs most).2 = (ffP xs most).2 ∧ (ffP xs most).2 = (ltP xs most).2 := by
  cases hv : vlB xs most <;> simp [btP, ftP, ffP, ltP, hv]
end Go.Proofs.Ytcookepklcbfeaa
