/-
  FnPay: what the parts and the pairs are, in plain terms.
-/
import Derived.Test.YtofcmljnckdknaaPairK
import Derived.Test.YtofcmljnckdknaaGangsJ
import Derived.Test.YtofcmljnckdknaaDivideLaw
import Derived.Test.YtofcmljnckdknaaPairLaw
namespace Go.Proofs.Ytofcmljnckdknaa
open Go.ChangeShapes Go.WideShapes Go.RowKit

/-- the parts of a pay -/
theorem dp_walk {xs : List HandD} {ws : List WorkD} {pay : Int} {P : List Int} (h : dpP xs ws pay = (P, 0)) :
    ∃ H : List Int, wbP fHours xs ws = (H, 0) ∧ H.length = P.length ∧ P.length ≤ 20 ∧ (∀ k (h1 : k < P.length) (h2 : k < H.length), 0 ≤ P[k] ∧ (H[k] = 0 → P[k] = 0)) ∧ (∀ k, 0 ≤ sm (P.take k) ∧ sm (P.take k) ≤ 1000000000) ∧ sm P = pay := by
  unfold dpP at h
  split at h
  · rename_i hv
    split at h
    · rename_i hp
      split at h
      · cases h
      · rename_i hs
        obtain ⟨hp0, hp1⟩ := inB_yes hp
        obtain ⟨hw, hs0, _⟩ := dpW_bd hv
        obtain ⟨rfl, _⟩ := Prod.mk.inj h
        have hpos : 0 < sm (dpW xs ws) := by omega
        have hsum := dvL_sum (pay := pay) hpos
        have hnn : ∀ x ∈ dvL pay (dpW xs ws), 0 ≤ x := by
          intro x hx
          obtain ⟨k, hk, rfl⟩ := List.getElem_of_mem hx
          exact (dvL_law hp0 (fun x hx => (hw x hx).1) hpos hk (by rw [dvL_len] at hk; exact hk)).1
        refine ⟨wbG fHours xs.length ws, by unfold wbP; rw [hv]; rfl, by rw [wbG_len, dvL_len, dpW_len], by rw [dvL_len, dpW_len]; exact (vw_bds hv).1, ?_, ?_, hsum⟩
        · intro k h1 h2
          have h3 : k < (dpW xs ws).length := by rw [dvL_len] at h1; exact h1
          obtain ⟨l1, l2⟩ := dvL_law hp0 (fun x hx => (hw x hx).1) hpos h1 h3
          refine ⟨l1, fun e => l2 ?_⟩
          have h4 : k < (shr xs).length := by rw [shr_len]; rw [wbG_len] at h2; exact h2
          have := wtL_get (wbG fHours xs.length ws) (shr xs) h3 h2 h4
          rw [show (dpW xs ws)[k] = (wtL (wbG fHours xs.length ws) (shr xs))[k]'h3 from rfl, this, e]
          omega
        · intro k
          have := sm_take_bd hnn k
          omega
    · cases h
  · cases h
theorem layT_mem {xs : List HandD} {b : Bool} {k : Nat} {v : Int} (h : v ∈ layT xs b k) : ∃ i : Nat, i < k ∧ v = (i : Int) := by
  unfold layT at h
  obtain ⟨i, hi, rfl⟩ := List.mem_map.1 h
  exact ⟨i, by have := (List.mem_filter.1 hi).1; simpa using this, rfl⟩
theorem layT_nodup (xs : List HandD) (b : Bool) (k : Nat) : (layT xs b k).Nodup := by
  unfold layT
  unfold List.Nodup
  rw [List.pairwise_map]
  exact (List.Pairwise.filter _ List.nodup_range).imp (fun h e => h (Int.ofNat.inj e))
/-- the pairs -/
theorem pr_walk {xs : List HandD} {X : List (List Int)} {R : List Int} (h : prP xs X = (R, 0)) :
    ∃ own : List Int, R = hnd (lyL xs false) own ∧ (lyL xs false).length ≤ 6 ∧ xs.length ≤ 20 ∧ own.length = X.length ∧ X.length ≤ (lyL xs false).length ∧ LtL (lyL xs false).length own ∧ own.Nodup ∧ (∀ r ∈ X, r.length = (lyL xs false).length) ∧ WkX X ∧ wS X (iot X.length) ≤ wS X own := by
  unfold prP at h
  split at h
  · rename_i hg
    split at h
    · rename_i h2
      split at h
      · cases h
      · rename_i h3
        split at h
        · cases h
        · rename_i h4
          obtain ⟨rfl, _⟩ := Prod.mk.inj h
          obtain ⟨hrow, hX⟩ := rwB_no h2.2
          obtain ⟨b1, b2, b3, b4⟩ := best_law hX (n := (lyL xs false).length) (by omega)
          exact ⟨_, rfl, by omega, gang_len hg, b2, by omega, b3, b1, hrow, hX, b4⟩
    · cases h
  · cases h
/-- which carrier is meant -/
theorem hnd_at {cs own : List Int} (hn : cs.Nodup) (hl : LtL cs.length own) {i : Nat} (hi : i < own.length) (h2 : i < (hnd cs own).length) {k : Nat} (hk : k < cs.length) : (cs[k] = (hnd cs own)[i] ↔ (k : Int) = own[i]) := by
  obtain ⟨o0, o1⟩ := hl _ (List.getElem_mem hi)
  have e : (hnd cs own)[i] = cs[own[i].toNat]'(by omega) := by
    simp only [hnd, List.getElem_map]
    exact getD_lt _ _ (by omega)
  rw [e]
  constructor
  · intro h
    have := (List.getElem_inj hn).1 h
    omega
  · intro h
    congr 1
    omega
theorem hnd_apart {cs own : List Int} (hn : cs.Nodup) (hl : LtL cs.length own) (ho : own.Nodup) {i k : Nat} (hik : k < i) (h1 : i < (hnd cs own).length) : (hnd cs own)[k] ≠ (hnd cs own)[i] := by
  have h2 := h1
  rw [hnd_len] at h2
  obtain ⟨o0, o1⟩ := hl _ (List.getElem_mem (show k < own.length by omega))
  have e : (hnd cs own)[k] = cs[own[k].toNat]'(by omega) := by
    simp only [hnd, List.getElem_map]
    exact getD_lt _ _ (by omega)
  rw [e]
  intro h
  have h3 := (hnd_at hn hl h2 h1 (k := own[k].toNat) (by omega)).1 h
  have h4 : own[k] = own[i] := by omega
  have := (List.getElem_inj ho).1 h4
  omega
/-- what the first k carriers of row i add -/
def hitW (X : List (List Int)) (own : List Int) (i k : Nat) : Int := if (own.getD i 0).toNat < k then wAt X i (own.getD i 0) else 0
theorem hitW_zero (X : List (List Int)) (own : List Int) (i : Nat) : hitW X own i 0 = 0 := by unfold hitW; rw [if_neg (by omega)]
theorem hitW_yes {X : List (List Int)} {own : List Int} {i k : Nat} (hi : i < own.length) (h : (k : Int) = own[i]) : hitW X own i k = 0 ∧ hitW X own i (k + 1) = wAt X i (k : Int) := by
  have e : own.getD i 0 = own[i] := getD_lt _ _ hi
  unfold hitW
  rw [e, if_neg (by omega), if_pos (by omega), h]
  exact ⟨rfl, rfl⟩
theorem hitW_no {X : List (List Int)} {own : List Int} {i k : Nat} (hi : i < own.length) (h0 : 0 ≤ own[i]) (h : (k : Int) ≠ own[i]) : hitW X own i (k + 1) = hitW X own i k := by
  have e : own.getD i 0 = own[i] := getD_lt _ _ hi
  unfold hitW
  rw [e]
  by_cases h1 : own[i].toNat < k
  · rw [if_pos h1, if_pos (by omega)]
  · rw [if_neg h1, if_neg (by omega)]
theorem hitW_all {X : List (List Int)} {own : List Int} {i n : Nat} (hi : i < own.length) (hl : LtL n own) : wS X (own.take i) + hitW X own i n = wS X (own.take (i + 1)) := by
  obtain ⟨o0, o1⟩ := hl _ (List.getElem_mem hi)
  have e : own.getD i 0 = own[i] := getD_lt _ _ hi
  rw [List.take_succ_eq_append_getElem hi, wS_snoc]
  unfold hitW
  rw [e, if_pos (by omega), List.length_take, Nat.min_eq_left (by omega)]
theorem hitW_bd {X : List (List Int)} (hX : WkX X) (own : List Int) (i k : Nat) : 0 ≤ hitW X own i k ∧ hitW X own i k ≤ 1000 := by
  unfold hitW
  split
  · exact wAt_bd hX _ _
  · omega
theorem iotW (X : List (List Int)) (i : Nat) : wS X (iot (i + 1)) = wS X (iot i) + wAt X i (i : Int) := by
  rw [iot_succ, wS_snoc, iot_len]
end Go.Proofs.Ytofcmljnckdknaa
