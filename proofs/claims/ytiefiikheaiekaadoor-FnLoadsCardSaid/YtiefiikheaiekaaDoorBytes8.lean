/-
  Bytes as elements.
-/
import Derived.Test.YtiefiikheaiekaaDoorGrid
namespace Go.Proofs.YtiefiikheaiekaaDoor
open Go.ChangeShapes Go.WideShapes Go.RowKit

def LU : Lay Int := ⟨1, fun x => [.int .u8 x], fun _ => rfl, by decide, fun x u hu => by simp at hu; subst hu; rfl⟩
theorem flat_u8 (xs : List Int) : xs.flatMap LU.f = xs.map (Value.int .u8) := by induction xs <;> simp_all [LU]
theorem Rd.u8 {w : World} {B c : Nat} {A : Option Addr} {xs : List Int} (h : Rd LU w B A c xs) {k : Nat} (hk : k < xs.length) : ∃ ad, A = some ad ∧ ad.block < B ∧ w.cell? (ad.add k) = some (.int .u8 xs[k]) := by
  obtain ⟨ad, e, hb, hc⟩ := h.at_ k hk
  have := hc 0 (.int .u8 xs[k]) rfl
  simp only [LU, Nat.mul_one, Nat.add_zero] at this
  exact ⟨ad, e, hb, this⟩
end Go.Proofs.YtiefiikheaiekaaDoor
