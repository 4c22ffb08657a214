/-
  Shares of a pay: none is less than 0, nothing is paid for no weight, and the sum is the pay.
-/
import Derived.Test.YtofcmljnckdknaaDividePlain
namespace Go.Proofs.Ytofcmljnckdknaa

theorem qP_all {pay : Int} {ws : List Int} (hs0 : 0 < sm ws) : qP pay ws ws.length = pay := by
  unfold qP
  rw [List.take_length, Int.mul_ediv_cancel _ (by omega)]
theorem qP_step {pay : Int} {ws : List Int} (hp0 : 0 ≤ pay) (hw : ∀ x ∈ ws, 0 ≤ x) (hs0 : 0 < sm ws) {k : Nat} (hk : k < ws.length) : qP pay ws k ≤ qP pay ws (k + 1) ∧ (ws[k] = 0 → qP pay ws (k + 1) = qP pay ws k) := by
  have h1 := sm_succ ws hk
  have h2 := hw _ (List.getElem_mem hk)
  unfold qP
  rw [h1]
  refine ⟨Int.ediv_le_ediv hs0 (Int.mul_le_mul_of_nonneg_left (by omega) hp0), fun h => by rw [h, Int.add_zero]⟩
theorem dvL_get (pay : Int) (ws : List Int) {k : Nat} (h : k < (dvL pay ws).length) : (dvL pay ws)[k] = qP pay ws (k + 1) - qP pay ws k := by simp [dvL]
theorem dvL_law {pay : Int} {ws : List Int} (hp0 : 0 ≤ pay) (hw : ∀ x ∈ ws, 0 ≤ x) (hs0 : 0 < sm ws) {k : Nat} (h : k < (dvL pay ws).length) (h2 : k < ws.length) : 0 ≤ (dvL pay ws)[k] ∧ (ws[k] = 0 → (dvL pay ws)[k] = 0) := by
  obtain ⟨h3, h4⟩ := qP_step (pay := pay) hp0 hw hs0 h2
  rw [dvL_get]
  refine ⟨by omega, fun e => by rw [h4 e]; omega⟩
theorem dvL_take (pay : Int) (ws : List Int) : ∀ k, k ≤ ws.length → sm ((dvL pay ws).take k) = qP pay ws k
  | 0, _ => by rw [qP_zero]; simp [sm]
  | k + 1, h => by
    have h1 : k < (dvL pay ws).length := by rw [dvL_len]; omega
    rw [sm_succ _ h1, dvL_take pay ws k (by omega), dvL_get]
    omega
theorem dvL_sum {pay : Int} {ws : List Int} (hs0 : 0 < sm ws) : sm (dvL pay ws) = pay := by
  have h := dvL_take pay ws ws.length (Nat.le_refl _)
  rw [qP_all hs0, List.take_of_length_le (by rw [dvL_len]; exact Nat.le_refl _)] at h
  exact h
end Go.Proofs.Ytofcmljnckdknaa
