/-
  FnScaffolds: what a bay at a place, a tier, an overload and the room are, in plain terms.
-/
import Derived.Test.YtamhkiakplmlmaaDoorScafD
import Derived.Test.YtamhkiakplmlmaaDoorScafE
import Derived.Test.YtamhkiakplmlmaaDoorScafA
namespace Go.Proofs.YtamhkiakplmlmaaDoor
open Go.ChangeShapes Go.WideShapes Go.RowKit

theorem findN_is {p : Nat → Bool} {n k : Nat} (h : findN p n = some k) : k < n ∧ p k = true ∧ ∀ j, j < k → p j = false := by
  unfold findN at h
  rw [List.find?_range_eq_some] at h
  obtain ⟨h1, h2, h3⟩ := h
  exact ⟨by simpa using h2, h1, fun j hj => by simpa using h3 j hj⟩
/-- the bay at a place -/
theorem ba_walk {b t : List Int} {n p k : Int} (h : baP b t n p = (k, 0)) : vsB b t n = true ∧ ∃ (j : Nat) (hj : j < b.length), k = (j : Int) ∧ sm (b.take j) ≤ p ∧ p < sm (b.take j) + b[j] := by
  unfold baP at h
  split at h
  · rename_i hv
    refine ⟨hv, ?_⟩
    split at h
    · rename_i hi
      split at h
      · rename_i j hf
        obtain ⟨rfl, _⟩ := Prod.mk.inj h
        obtain ⟨h1, h2, h3⟩ := findN_is hf
        refine ⟨j, h1, rfl, ?_, ?_⟩
        · cases j with
          | zero => rw [List.take_zero, sm_nil]; exact (inB_yes hi).1
          | succ i =>
            have := h3 i (by omega)
            unfold baHit at this
            have := of_decide_eq_false this
            omega
        · unfold baHit at h2
          have := of_decide_eq_true h2
          rw [sm_succ b h1] at this
          exact this
      · cases (Prod.mk.inj h).2
    · cases (Prod.mk.inj h).2
  · cases (Prod.mk.inj h).2
/-- the tier for a height -/
theorem tf_walk {b t : List Int} {n h r k : Int} (hh : tfP b t n h r = (k, 0)) : vsB b t n = true ∧ (0 ≤ h ∧ h ≤ 40000) ∧ (0 ≤ r ∧ r ≤ 2500) ∧ ∃ (j : Nat), j < t.length ∧ k = (j : Int) ∧ sm (t.take (j + 1)) ≤ h ∧ h ≤ sm (t.take (j + 1)) + r := by
  unfold tfP at hh
  split at hh
  · rename_i hv
    refine ⟨hv, ?_⟩
    split at hh
    · rename_i hi
      refine ⟨inB_yes hi.1, inB_yes hi.2, ?_⟩
      split at hh
      · rename_i j hf
        obtain ⟨rfl, _⟩ := Prod.mk.inj hh
        obtain ⟨h1, h2, _⟩ := findN_is hf
        unfold tfHit at h2
        exact ⟨j, h1, rfl, inB_yes h2⟩
      · cases (Prod.mk.inj hh).2
    · cases (Prod.mk.inj hh).2
  · cases (Prod.mk.inj hh).2
theorem fs_some {α : Type} {f : Nat → Option α} {a : α} : ∀ m k, fs f m k = some a → ∃ i, k ≤ i ∧ i < k + m ∧ f i = some a
  | 0, _, h => by cases h
  | m + 1, k, h => by
    unfold fs at h
    split at h
    · rename_i x hx
      cases h
      exact ⟨k, Nat.le_refl _, by omega, hx⟩
    · obtain ⟨i, h1, h2, h3⟩ := fs_some m (k + 1) h
      exact ⟨i, by omega, by omega, h3⟩
theorem fs_has {α : Type} {f : Nat → Option α} : ∀ m k i, k ≤ i → i < k + m → (f i).isSome = true → (fs f m k).isSome = true
  | 0, _, _, h1, h2, _ => by omega
  | m + 1, k, i, h1, h2, h3 => by
    unfold fs
    split
    · rfl
    · rename_i hx
      by_cases e : i = k
      · subst e
        rw [hx] at h3
        cases h3
      · exact fs_has m (k + 1) i (by omega) (by omega) h3
/-- what bears too much weighs something too much -/
theorem ov_walk {b t : List Int} {n : Int} {ss : List StandD} {x : StandD} (h : ovP b t n ss = (x, 0)) : 1 ≤ x.2.2 := by
  unfold ovP at h
  split at h
  · split at h
    · rename_i y hy
      obtain ⟨rfl, _⟩ := Prod.mk.inj h
      unfold ovA at hy
      obtain ⟨i, _, _, h1⟩ := fs_some _ _ hy
      unfold ovR at h1
      obtain ⟨j, _, _, h2⟩ := fs_some _ _ h1
      unfold ovB at h2
      split at h2
      · rename_i hw
        cases h2
        dsimp only
        omega
      · cases h2
    · cases (Prod.mk.inj h).2
  · rename_i hc
    exact absurd (Prod.mk.inj h).2 hc
/-- the room -/
theorem rf_walk {b t : List Int} {n tier : Int} {ss : List StandD} {M : List Int} (h : rfP b t n ss tier = (M, 0)) :
    vsB b t n = true ∧ (ss.length ≤ 100 ∧ ∀ x ∈ ss, 0 ≤ x.2.2 ∧ x.2.2 ≤ 10000) ∧ M.length = b.length ∧ (∀ i (hi : i < M.length), M[i] = max (n - wt ss tier i) 0) ∧ ∀ i, i < M.length → n < wt ss tier i → (ovP b t n ss).2 = 0 := by
  unfold rfP at h
  split at h
  · rename_i hs
    obtain ⟨hv, hb, hit⟩ := scT_parts hs
    obtain ⟨rfl, _⟩ := Prod.mk.inj h
    obtain ⟨h1, h2⟩ := scB_parts hb
    refine ⟨hv, ⟨h1, fun x hx => (stOk_parts (h2 x hx)).2.2⟩, rfL_len _ _ _ _, fun i hi => by simp [rfL], fun i hi hw => ?_⟩
    rw [rfL_len] at hi
    have hc : scC b t n ss = 0 := by unfold scC; rw [if_pos hv, if_pos hb]
    obtain ⟨t0, t1⟩ := inB_yes hit
    obtain ⟨T, rfl⟩ : ∃ T : Nat, tier = (T : Int) := ⟨tier.toNat, by omega⟩
    unfold ovP
    rw [if_pos hc]
    have hsome : (ovA b t n ss).isSome = true := by
      unfold ovA
      refine fs_has _ _ T (Nat.zero_le _) (by omega) ?_
      unfold ovR
      refine fs_has _ _ i (Nat.zero_le _) (by omega) ?_
      unfold ovB
      rw [if_pos hw]
      rfl
    cases ho : ovA b t n ss with
    | none => rw [ho] at hsome; cases hsome
    | some x => rfl
  · rename_i hc
    exact absurd (Prod.mk.inj h).2 hc
end Go.Proofs.YtamhkiakplmlmaaDoor
