/-
  The bit operations of the sets of loads, in numbers.
-/
import Derived.Test.YtcookepklcbfeaaPlain
import Derived.RegionTactic
namespace Go.Proofs.Ytcookepklcbfeaa
theorem and_nat (a b : Nat) (ha : a < 2 ^ 63) (hb : b < 2 ^ 63) : Go.bits .and .i64 (a : Int) (b : Int) = ((a &&& b : Nat) : Int) := by
  have hlt : a &&& b < 2 ^ 63 := Nat.lt_of_le_of_lt Nat.and_le_left ha
  have e1 : (BitVec.ofInt 64 (a : Int)).toNat = a := by
    rw [BitVec.toNat_ofInt]; omega
  have e2 : (BitVec.ofInt 64 (b : Int)).toNat = b := by
    rw [BitVec.toNat_ofInt]; omega
  unfold Go.bits
  show IntKind.i64.wrap ((BitVec.ofInt 64 (a : Int) &&& BitVec.ofInt 64 (b : Int)).toNat : Int) = _
  rw [BitVec.toNat_and, e1, e2]
  simp [IntKind.wrap, IntKind.bits, IntKind.signed]
  omega
theorem bit_at (s l : Nat) (hs : s < 2 ^ 63) : Go.bits .and .i64 ((s : Int) / 2 ^ l) 1 = if s.testBit l = true then 1 else 0 := by
  have e : ((s : Int) / 2 ^ l) = ((s / 2 ^ l : Nat) : Int) := by simp
  rw [e, show (1 : Int) = ((1 : Nat) : Int) from rfl, and_nat _ _ (Nat.lt_of_le_of_lt (Nat.div_le_self ..) hs) (by decide), Nat.and_one_is_mod, Nat.testBit_eq_decide_div_mod_eq]
  by_cases h : s / 2 ^ l % 2 = 1
  · simp [h]
  · have : s / 2 ^ l % 2 = 0 := by omega
    simp [this]
end Go.Proofs.Ytcookepklcbfeaa
