/-
  Tested bricks read back, the plain part: the reference's way and the program's are one.
-/
import Derived.Test.YtehmghlhljocbaaGreatDoorRdPlain
import Derived.Test.YtehmghlhljocbaaGreatDoorTestedZ
namespace Go.Proofs.YtehmghlhljocbaaGreatDoor
open Go.ChangeShapes Go.WideShapes Go.RowKit

def rdT (p : List UInt8) : Option TestedD := (rdNs 47 2 p).map fun v => (v.getD 0 0, v.getD 1 0)
theorem two_of {α : Type} {v : List α} (h : v.length = 2) : ∃ a b, v = [a, b] := by
  match v, h with
  | [a, b], _ => exact ⟨a, b, rfl⟩
theorem rdT_back (p : List UInt8) (x : TestedD) (h : rdT p = some x) : ttE x = p := by
  unfold rdT rdNs at h
  by_cases h2 : (spl 47 p).length = 2
  · rw [if_pos h2] at h
    cases hm : mapO rdN (spl 47 p) with
    | none => rw [hm] at h; cases h
    | some v =>
      rw [hm] at h
      simp only [Option.map_some, Option.some.injEq] at h
      have hb := mapO_back (g := Lib.itoa) (fun x y h => rdN_some h) hm
      have hl := mapO_len hm
      obtain ⟨a, b, rfl⟩ := two_of (hl.trans h2)
      rw [← join_spl 47 p, ← hb, ← h]
      show Lib.itoa a ++ [47] ++ Lib.itoa b = Lib.join [Lib.itoa a, Lib.itoa b] [47]
      rw [join_more _ (by simp), Lib.join_one, List.append_assoc]
  · rw [if_neg h2] at h
    cases h
/-- the reference's -/
def rtS (s : List UInt8) : Option (List TestedD) :=
  if s = [] then some [] else
    match mapO rdT (spl 32 s) with
    | none => none
    | some xs => if vtB xs = true then some xs else none
/-- the program's -/
def rtI (s : List UInt8) : Option (List TestedD) :=
  if s = [] then some [] else
    match mapO rdT (spN 32 21 s) with
    | none => none
    | some xs => if ttS xs = bs s then some xs else none
theorem ttS_bad {xs : List TestedD} {s : List UInt8} (hv : ¬ vtB xs = true) (h0 : s ≠ []) : ¬ ttS xs = bs s := by
  unfold ttS
  rw [if_neg hv]
  intro e
  have := congrArg ByteArray.size e
  rw [bs_size] at this
  exact h0 (List.length_eq_zero_iff.1 this.symm)
theorem rt_same (s : List UInt8) : rtI s = rtS s := by
  unfold rtI rtS
  by_cases h0 : s = []
  · rw [if_pos h0, if_pos h0]
  rw [if_neg h0, if_neg h0]
  by_cases hn : (spl 32 s).length ≤ 20
  · rw [spN_full (by omega)]
    cases hm : mapO rdT (spl 32 s) with
    | none => rfl
    | some xs =>
      have hb := mapO_back rdT_back hm
      show (if ttS xs = bs s then some xs else none) = if vtB xs = true then some xs else none
      by_cases hv : vtB xs = true
      · rw [if_pos hv, if_pos]
        unfold ttS ttL jn
        rw [if_pos hv, hb, join_spl]
      · rw [if_neg hv, if_neg (ttS_bad hv h0)]
  · refine Eq.trans (b := none) ?_ (Eq.symm ?_)
    · cases hm : mapO rdT (spN 32 21 s) with
      | none => rfl
      | some xs =>
        have hl := mapO_len hm
        rw [spN_many (by omega) (by omega)] at hl
        show (if ttS xs = bs s then some xs else none) = none
        rw [if_neg (ttS_bad (fun hv => by have := (vt_parts hv).1; omega) h0)]
    · cases hm : mapO rdT (spl 32 s) with
      | none => rfl
      | some xs =>
        have hl := mapO_len hm
        show (if vtB xs = true then some xs else none) = none
        rw [if_neg (fun hv => by have := (vt_parts hv).1; omega)]
end Go.Proofs.YtehmghlhljocbaaGreatDoor
