/-
  slices.Clone, and the reference's l00Own: a row of the call's own.
-/
import Derived.Test.YtehmghlhljocbaaGreatDoorNum
import Derived.Test.YtehmghlhljocbaaGreatDoorSteps
import Derived.Lib.SliceRun
namespace Go.Proofs.YtehmghlhljocbaaGreatDoor
open Go.ChangeShapes Go.WideShapes Go.RowKit

theorem Rd.flat {α : Type} {L : Lay α} {w : World} {B c : Nat} {A : Option Addr} {xs : List α} (h : Rd L w B A c xs) : ∀ ad, A = some ad → ∀ j u, (xs.flatMap L.f)[j]? = some u → w.cell? (ad.add j) = some u := by
  intro ad had j u hu
  have hj : j < xs.length * L.sz := by
    have := (List.getElem?_eq_some_iff.1 hu).1
    rwa [flat_len] at this
  have hdiv : j / L.sz < xs.length := Nat.div_lt_of_lt_mul (by rw [Nat.mul_comm]; exact hj)
  have hmod : j % L.sz < L.sz := Nat.mod_lt _ L.pos
  have hjj : j = (j / L.sz) * L.sz + j % L.sz := by rw [Nat.mul_comm]; exact (Nat.div_add_mod j L.sz).symm
  obtain ⟨ad', e, _, hc⟩ := h.at_ _ hdiv
  rw [had] at e
  cases e
  have hl : j % L.sz < (L.f xs[j / L.sz]).length := by rw [L.len]; exact hmod
  have hf := flat_get L xs (j / L.sz) hdiv (j % L.sz) _ (List.getElem?_eq_getElem hl)
  rw [← hjj, hu] at hf
  have := hc (j % L.sz) _ (List.getElem?_eq_getElem hl)
  rw [← hjj] at this
  rw [this, hf]
theorem Rd.none_len {α : Type} {L : Lay α} {w : World} {B c : Nat} {xs : List α} (h : Rd L w B none c xs) : xs = [] := by
  cases xs with
  | nil => rfl
  | cons x xs =>
    obtain ⟨ad, e, _⟩ := h.at_ 0 (by simp)
    cases e
end Go.Proofs.YtehmghlhljocbaaGreatDoor
