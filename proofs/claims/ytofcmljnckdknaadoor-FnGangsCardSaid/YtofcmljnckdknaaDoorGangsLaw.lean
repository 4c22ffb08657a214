/-
  FnGangs: what the best day, bricks by hour and an added hand are, in plain terms.
-/
import Derived.Test.YtofcmljnckdknaaDoorGangsF
import Derived.Test.YtofcmljnckdknaaDoorGangsG
import Derived.Test.YtofcmljnckdknaaDoorGangsH
namespace Go.Proofs.YtofcmljnckdknaaDoor
open Go.ChangeShapes Go.WideShapes Go.RowKit

structure BdI (ws : List WorkD) (k : Nat) (st : Int × Int) : Prop where
  at_ : st.2 = 0 ∨ st.2 = dsum ws st.1
  nn : 0 ≤ st.2
  up : ∀ i (h : i < ws.length), i < k → dsum ws ws[i].2.1 ≤ st.2 ∧ (dsum ws ws[i].2.1 = st.2 → 0 < st.2 → st.1 ≤ ws[i].2.1)
theorem bdF_inv {ws : List WorkD} (h0 : ∀ d, 0 ≤ dsum ws d) : ∀ k, k ≤ ws.length → BdI ws k (bdF ws k)
  | 0, _ => ⟨.inl rfl, by simp [bdF], fun i _ h => by omega⟩
  | k + 1, hk => by
    have ih := bdF_inv h0 k (by omega)
    rw [bdF_succ ws (show k < ws.length by omega)]
    have hd := h0 (ws[k]'(by omega)).2.1
    generalize bdF ws k = st at *
    obtain ⟨h1, h2, h3⟩ := ih
    unfold bdS
    by_cases hc : st.2 < dsum ws ws[k].2.1 ∨ (dsum ws ws[k].2.1 = st.2 ∧ 0 < dsum ws ws[k].2.1 ∧ ws[k].2.1 < st.1)
    · rw [if_pos hc]
      refine ⟨.inr rfl, hd, fun i hi hik => ?_⟩
      by_cases e : i = k
      · subst e
        exact ⟨Int.le_refl _, fun _ _ => Int.le_refl _⟩
      · obtain ⟨u1, u2⟩ := h3 i hi (by omega)
        refine ⟨by dsimp only; omega, fun a b => ?_⟩
        dsimp only at a b ⊢
        rcases hc with hc | ⟨hc1, hc2, hc3⟩
        · omega
        · have := u2 (by omega) (by omega)
          omega
    · rw [if_neg hc]
      refine ⟨h1, h2, fun i hi hik => ?_⟩
      by_cases e : i = k
      · subst e
        refine ⟨by omega, fun a b => ?_⟩
        omega
      · exact h3 i hi (by omega)
/-- the best day -/
theorem bd_walk {xs : List HandD} {ws : List WorkD} {best : Int} (h : bdP xs ws = (best, 0)) : vwB xs ws = true ∧ ∀ i (hi : i < ws.length), dsum ws ws[i].2.1 ≤ dsum ws best ∧ (dsum ws ws[i].2.1 = dsum ws best → best ≤ ws[i].2.1) := by
  unfold bdP at h
  split at h
  · rename_i hv
    have hb := vw_bds hv
    have h0 : ∀ d, 0 ≤ dsum ws d := fun d => by
      have := (dsum_bd hb.2.2.2.1 hb.2.1 d ws.length).1
      rw [List.take_length] at this
      exact this
    have hI := bdF_inv h0 ws.length (Nat.le_refl _)
    split at h
    · cases h
    · rename_i hne
      obtain ⟨rfl, _⟩ := Prod.mk.inj h
      obtain ⟨h1, h2, h3⟩ := hI
      have h4 : (bdF ws ws.length).2 = dsum ws (bdF ws ws.length).1 := by
        rcases h1 with h1 | h1
        · exact absurd h1 hne
        · exact h1
      refine ⟨hv, fun i hi => ?_⟩
      obtain ⟨u1, u2⟩ := h3 i hi hi
      rw [← h4]
      exact ⟨u1, fun a => u2 a (by omega)⟩
  · cases h
theorem wbG_some {f : WorkD → Int} {n : Nat} : ∀ (ws : List WorkD) (j : Nat), (wbG f n ws).getD j 0 ≠ 0 → ∃ x ∈ ws, x.1.toNat = j ∧ f x ≠ 0 := by
  intro ws
  have go : ∀ k, k ≤ ws.length → ∀ j, (wbG f n (ws.take k)).getD j 0 ≠ 0 → ∃ x ∈ ws, x.1.toNat = j ∧ f x ≠ 0 := by
    intro k
    induction k with
    | zero =>
      intro _ j hj
      exfalso
      apply hj
      simp only [List.take_zero, wbG, List.foldl_nil]
      rw [List.getD_eq_getElem?_getD]
      by_cases h : j < n
      · simp [h]
      · rw [List.getElem?_eq_none (by simpa using (by omega : n ≤ j))]; rfl
    | succ k ih =>
      intro hk j hj
      rw [wbG_succ f n ws (by omega)] at hj
      unfold wbS at hj
      by_cases h : (wbG f n (ws.take k)).getD j 0 = 0
      · by_cases e : ws[k].1.toNat = j
        · refine ⟨ws[k], List.getElem_mem _, e, fun hf => hj ?_⟩
          rw [e, h, hf, List.getD_eq_getElem?_getD, List.getElem?_set]
          by_cases hl : j < (wbG f n (ws.take k)).length
          · simp [hl]
          · simp [hl]
        · exfalso
          apply hj
          rw [List.getD_eq_getElem?_getD, List.getElem?_set_ne e, ← List.getD_eq_getElem?_getD]
          exact h
      · exact ih (by omega) j h
  intro j hj
  exact go ws.length (Nat.le_refl _) j (by rw [List.take_length]; exact hj)
/-- bricks by hour: only who lays has some -/
theorem lh_walk {xs : List HandD} {ws : List WorkD} {hand : Int} {a b : Int} (h : lhP xs ws hand = ((a, b), 0)) : ∃ k : Nat, hand = (k : Int) ∧ ∃ hk : k < xs.length, 0 ≤ a ∧ (0 < a → xs[k].2.2 = true) := by
  unfold lhP at h
  split at h
  · rename_i hv
    split at h
    · rename_i hi
      obtain ⟨i0, i1⟩ := inB_yes hi
      split at h
      · cases h
      · obtain ⟨h1, _⟩ := Prod.mk.inj h
        obtain ⟨rfl, rfl⟩ := Prod.mk.inj h1
        obtain ⟨k, rfl⟩ : ∃ k : Nat, hand = (k : Int) := ⟨hand.toNat, by omega⟩
        refine ⟨k, rfl, by omega, Int.natCast_nonneg _, fun hp => ?_⟩
        have hne : (wbG fLaid xs.length ws).getD k 0 ≠ 0 := by
          intro e
          have : wbN fLaid xs.length ws (k : Int) = 0 := by unfold wbN; rw [Int.toNat_natCast, e]; rfl
          rw [this] at hp
          simp at hp
        obtain ⟨x, hx, hxk, hf⟩ := wbG_some ws k hne
        have hb := vw_bds hv
        have hl := hb.2.2.2.1 x hx
        have hok : wkOk xs x = true := by
          have h2 := hv
          unfold vwB at h2
          rw [Bool.and_eq_true] at h2
          have h3 := h2.2
          rw [Bool.not_eq_true', List.any_eq_false] at h3
          have := h3 x hx
          simpa using this
        unfold wkOk at hok
        simp only [Bool.and_eq_true, Bool.or_eq_true] at hok
        have h5 := hok.2
        unfold fLaid at hf hl
        rcases h5 with h5 | h5
        · have : x.2.2.1 ≤ 0 := of_decide_eq_true h5
          omega
        · have h6 := h5.1
          unfold laysAt at h6
          rw [hxk] at h6
          have hkx : k < xs.length := by omega
          rw [List.getElem?_eq_getElem hkx] at h6
          exact h6
    · cases h
  · cases h
/-- a hand that is added -/
theorem ah_walk {xs X : List HandD} {h : HandD} (hh : ahP xs h = (X, 0)) : X = xs ++ [h] ∧ gangB X = true := by
  unfold ahP at hh
  split at hh
  · rename_i hg
    split at hh
    · rename_i hk
      split at hh
      · cases hh
      · rename_i hd
        split at hh
        · cases hh
        · rename_i hl
          obtain ⟨rfl, _⟩ := Prod.mk.inj hh
          refine ⟨rfl, ?_⟩
          have hlen := gang_len hg
          have hall : ∀ i, i < xs.length → gI xs i = true := by
            intro i hi
            unfold gangB at hg
            rw [Bool.and_eq_true] at hg
            exact List.all_eq_true.1 hg.1 i (List.mem_range.2 hi)
          rw [gang_all]
          · rw [decide_eq_true_eq, List.length_append, List.length_singleton]
            omega
          · intro i hi
            rw [List.length_append, List.length_singleton] at hi
            rw [gI_at (by rw [List.length_append, List.length_singleton]; exact hi)]
            by_cases e : i < xs.length
            · have h1 := hall i e
              rw [gI_at e] at h1
              rw [List.getElem_append_left e, List.take_append_of_le_length (by omega)]
              exact h1
            · obtain rfl : i = xs.length := by omega
              rw [List.getElem_append_right (by omega), List.take_append_of_le_length (by omega), List.take_length]
              simp only [Nat.sub_self, List.getElem_cons_zero]
              rw [hk]
              simp at hd
              simp [hd]
    · cases hh
  · cases hh
end Go.Proofs.YtofcmljnckdknaaDoor
