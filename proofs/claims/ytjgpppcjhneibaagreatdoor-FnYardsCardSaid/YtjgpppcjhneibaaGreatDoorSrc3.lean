/-
  The source of draws: from its place.
-/
import Derived.Test.YtjgpppcjhneibaaGreatDoorSrc2
namespace Go.Proofs.YtjgpppcjhneibaaGreatDoor
open Go.ChangeShapes Go.WideShapes Go.RowKit

theorem from_at (g : Nat) (A : Option Addr) (c : Nat) (cs : List Int) (w : World) (hg : g = w.heap.size) {B : Nat} (hr : Rd LU w B A c cs) (hB : B ≤ w.heap.size) (hb : ∀ x ∈ cs, 0 ≤ x ∧ x ≤ 255) :
    Calls Tryz.prog 31 #[.slice A cs.length c] w fun e w' => e = .returned (.pointer (some ⟨g, 0, none⟩)) ∧ Sr w' g A c cs 0 ∧ Below g w w' := by
  subst hg
  exact l00From_any A c cs w (hr.more hB) hb
theorem Sr.dr {w : World} {g c m : Nat} {A : Option Addr} {cs : List Int} (h : Sr w g A c cs m) : Sr w.drew g A c cs m := ⟨h.c0, h.c1, h.c2, h.f1, h.f2, h.rd.drew, h.by_, h.g1⟩
end Go.Proofs.YtjgpppcjhneibaaGreatDoor
