/-
  markText: the letter m and a number's digits.
-/
import Derived.Test.YtehmghlhljocbaaGreatDoorNum
import Derived.Laws.IdiomStrings
namespace Go.Proofs.YtehmghlhljocbaaGreatDoor
open Go.ChangeShapes Go.WideShapes Go.RowKit

/-- the digits of a number, none of 0 -/
def mkD (n : Nat) : List UInt8 := if h : n = 0 then [] else mkD (n / 10) ++ [UInt8.ofNat (48 + n % 10)]
decreasing_by omega
theorem mkD_zero : mkD 0 = [] := by rw [mkD]; rfl
theorem mkD_pos {n : Nat} (h : 0 < n) : mkD n = mkD (n / 10) ++ [UInt8.ofNat (48 + n % 10)] := by rw [mkD, dif_neg (by omega)]
def mkT (k : Int) : ByteArray := if k ≤ 0 then { data := #[109, 48] } else ⟨(109 :: mkD k.toNat).toArray⟩

end Go.Proofs.YtehmghlhljocbaaGreatDoor
