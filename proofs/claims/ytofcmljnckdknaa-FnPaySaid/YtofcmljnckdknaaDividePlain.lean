/-
  Shares of a pay: each hand's is the difference of two quotients.
-/
import Derived.Test.YtofcmljnckdknaaPlain
namespace Go.Proofs.Ytofcmljnckdknaa

/-- the weights: hours times shares -/
def wtL (hs sh : List Int) : List Int := (List.range hs.length).map fun i => hs.getD i 0 * sh.getD i 0
theorem wtL_len (hs sh : List Int) : (wtL hs sh).length = hs.length := by simp [wtL]
theorem wtL_get (hs sh : List Int) {i : Nat} (h : i < (wtL hs sh).length) (h1 : i < hs.length) (h2 : i < sh.length) : (wtL hs sh)[i] = hs[i] * sh[i] := by
  simp [wtL, h1, h2]
theorem wtL_succ (hs sh : List Int) {k : Nat} (h1 : k < hs.length) (h2 : k < sh.length) : (wtL hs sh).take (k + 1) = (wtL hs sh).take k ++ [hs[k] * sh[k]] := by
  rw [List.take_succ_eq_append_getElem (by rw [wtL_len]; exact h1), wtL_get hs sh _ h1 h2]
theorem wtL_bd {hs sh : List Int} {M N : Int} (hM : 0 ≤ M) (hl : hs.length = sh.length) (h1 : ∀ x ∈ hs, 0 ≤ x ∧ x ≤ M) (h2 : ∀ x ∈ sh, 0 ≤ x ∧ x ≤ N) : ∀ x ∈ wtL hs sh, 0 ≤ x ∧ x ≤ M * N := by
  intro x hx
  obtain ⟨i, hi, rfl⟩ := List.getElem_of_mem hx
  have hi1 : i < hs.length := by rw [wtL_len] at hi; exact hi
  rw [wtL_get hs sh hi hi1 (by omega)]
  obtain ⟨a0, a1⟩ := h1 _ (List.getElem_mem hi1)
  obtain ⟨b0, b1⟩ := h2 _ (List.getElem_mem (show i < sh.length by omega))
  exact ⟨Int.mul_nonneg a0 b0, Int.mul_le_mul a1 b1 b0 hM⟩
/-- what is paid to the first k -/
def qP (pay : Int) (ws : List Int) (k : Nat) : Int := pay * sm (ws.take k) / sm ws
theorem qP_zero (pay : Int) (ws : List Int) : qP pay ws 0 = 0 := by simp [qP, sm]
def dvL (pay : Int) (ws : List Int) : List Int := (List.range ws.length).map fun k => qP pay ws (k + 1) - qP pay ws k
theorem dvL_len (pay : Int) (ws : List Int) : (dvL pay ws).length = ws.length := by simp [dvL]
theorem dvL_succ (pay : Int) (ws : List Int) {k : Nat} (h : k < ws.length) : (dvL pay ws).take (k + 1) = (dvL pay ws).take k ++ [qP pay ws (k + 1) - qP pay ws k] := by
  rw [List.take_succ_eq_append_getElem (by rw [dvL_len]; exact h)]
  simp [dvL]
/-- the products and quotients stay small -/
theorem qP_bd {pay : Int} {ws : List Int} (hp0 : 0 ≤ pay) (hp1 : pay ≤ 1000000000) (hw : ∀ x ∈ ws, 0 ≤ x) (hs0 : 0 < sm ws) (hs : sm ws ≤ 4000000000) (k : Nat) :
    0 ≤ sm (ws.take k) ∧ sm (ws.take k) ≤ sm ws ∧ 0 ≤ pay * sm (ws.take k) ∧ pay * sm (ws.take k) ≤ 4000000000000000000 ∧ 0 ≤ qP pay ws k ∧ qP pay ws k ≤ 1000000000 := by
  obtain ⟨h1, h2⟩ := sm_take_bd hw k
  have h3 := Int.mul_nonneg hp0 h1
  have h4 : pay * sm (ws.take k) ≤ 1000000000 * 4000000000 := Int.mul_le_mul hp1 (by omega) h1 (by omega)
  have h5 : pay * sm (ws.take k) ≤ 1000000000 * sm ws := Int.mul_le_mul hp1 h2 h1 (by omega)
  refine ⟨h1, h2, h3, by omega, Int.ediv_nonneg h3 (by omega), ?_⟩
  unfold qP
  have h6 := Int.ediv_le_ediv hs0 h5
  rw [Int.mul_ediv_cancel _ (by omega)] at h6
  exact h6
end Go.Proofs.Ytofcmljnckdknaa
