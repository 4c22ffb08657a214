/-
  Yards read back, the plain part: the reference's way and the program's are one.
-/
import Derived.Test.YtjgpppcjhneibaaGreatDoorRdPlain
import Derived.Test.YtjgpppcjhneibaaGreatDoorYardZ
namespace Go.Proofs.YtjgpppcjhneibaaGreatDoor
open Go.ChangeShapes Go.WideShapes Go.RowKit

def rdY (p : List UInt8) : Option (List Int) := if p = [] then some [] else mapO rdN (spl 44 p)
theorem rdNs_all (b : UInt8) (p : List UInt8) : rdNs b (p.count b + 1) p = mapO rdN (spl b p) := by
  unfold rdNs
  rw [if_pos (spl_len b p)]
theorem rdY_back (p : List UInt8) (x : List Int) (h : rdY p = some x) : ntL [44] x = p := by
  unfold rdY at h
  by_cases h0 : p = []
  · rw [if_pos h0] at h
    rw [← Option.some.inj h, h0]
    rfl
  · rw [if_neg h0] at h
    have hb := mapO_back (g := Lib.itoa) (fun x y h => rdN_some h) h
    unfold ntL jn
    rw [hb, join_spl]
/-- the reference's -/
noncomputable def ryS (s : List UInt8) : Option (List (List Int)) :=
  match mapO rdY (spl 124 s) with
  | none => none
  | some X => if vyB X = true then some X else none
/-- the program's -/
noncomputable def ryI (s : List UInt8) : Option (List (List Int)) :=
  match mapO rdY (spN 124 5 s) with
  | none => none
  | some X => if vyB X = true ∧ ytL X = s then some X else none
theorem ry_same (s : List UInt8) : ryI s = ryS s := by
  unfold ryI ryS
  by_cases hn : (spl 124 s).length ≤ 4
  · rw [spN_full (by omega)]
    cases hm : mapO rdY (spl 124 s) with
    | none => rfl
    | some X =>
      have hb := mapO_back rdY_back hm
      have ht : ytL X = s := by
        unfold ytL jn
        rw [hb, join_spl]
      show (if vyB X = true ∧ ytL X = s then some X else none) = if vyB X = true then some X else none
      by_cases hv : vyB X = true
      · rw [if_pos hv, if_pos ⟨hv, ht⟩]
      · rw [if_neg hv, if_neg (fun h => hv h.1)]
  · refine Eq.trans (b := none) ?_ (Eq.symm ?_)
    · cases hm : mapO rdY (spN 124 5 s) with
      | none => rfl
      | some X =>
        have hl := mapO_len hm
        rw [spN_many (by omega) (by omega)] at hl
        show (if vyB X = true ∧ ytL X = s then some X else none) = none
        rw [if_neg (fun h => by have := (YB.of h.1).n4; omega)]
    · cases hm : mapO rdY (spl 124 s) with
      | none => rfl
      | some X =>
        have hl := mapO_len hm
        show (if vyB X = true then some X else none) = none
        rw [if_neg (fun h => by have := (YB.of h).n4; omega)]
end Go.Proofs.YtjgpppcjhneibaaGreatDoor
