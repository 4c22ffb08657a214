/-
  markText: the letter m and a number's digits.
-/
import Derived.Test.YtofcmljnckdknaaNum
import Derived.Laws.IdiomStrings
namespace Go.Proofs.Ytofcmljnckdknaa
open Go.ChangeShapes Go.WideShapes Go.RowKit

/-- the digits of a number, none of 0 -/
def mkD (n : Nat) : List UInt8 := if h : n = 0 then [] else mkD (n / 10) ++ [UInt8.ofNat (48 + n % 10)]
decreasing_by omega
theorem mkD_zero : mkD 0 = [] := by rw [mkD]; rfl
theorem mkD_pos {n : Nat} (h : 0 < n) : mkD n = mkD (n / 10) ++ [UInt8.ofNat (48 + n % 10)] := by rw [mkD, dif_neg (by omega)]
def mkT (k : Int) : ByteArray := if k ≤ 0 then { data := #[109, 48] } else ⟨(109 :: mkD k.toNat).toArray⟩

set_option maxHeartbeats 800000 in
theorem markText_any (k : Int) (w : World) (h1 : k ≤ 4611686018427387904) :
    Calls Try.prog 49 #[.int .i64 k] w fun e w' => e = .returned (.string (mkT k)) ∧ Below w.heap.size w w' := by
  by_cases hk : k ≤ 0
  · have HV : Hid (mkT k = { data := #[109, 48] }) := Lib.hid (by unfold mkT; rw [if_pos hk])
    rw [HV.out]
    go_enter Try.func49, Try.ntmps49
    go_wp2_with fail
    go_ret
    exact ⟨rfl, Below.refl _ _⟩
  · have HV : Hid (mkT k = ⟨(109 :: mkD k.toNat).toArray⟩) := Lib.hid (by unfold mkT; rw [if_neg hk])
    rw [HV.out]
    have hk' : 0 < k := by omega
    clear hk
    obtain ⟨K, rfl⟩ : ∃ K : Nat, k = K := ⟨k.toNat, by omega⟩
    simp only [Int.toNat_natCast]
    go_enter Try.func49, Try.ntmps49
    go_wp2_with fail
    go_loopw [0, 3] (fun i s wr => ∃ (n : Nat) (l : List UInt8), i = .int .i64 n ∧ s = .string ⟨l.toArray⟩ ∧ l.length + n ≤ K ∧ Hid (mkD K = mkD n ++ l) ∧ Below w.heap.size w wr) (fun i _ _ => (intOf i).toNat)
    case atStart => exact ⟨K, [], rfl, rfl, by simp, Lib.hid (by simp), Below.refl _ _⟩
    case round =>
      obtain ⟨n, l, rfl, rfl, hl, Heq, hbel⟩ := hrel
      have hsz := hbel.size
      by_cases hn : 0 < n
      · have HD := Lib.hid (mkD_pos hn)
        have hcv : (convert 46 9 (.slice (some ⟨wr.heap.size, 0, none⟩) 1 1)).run Try.prog (wr.alloc (.cells #[.int .u8 (48 + (n : Int) % 10)] 5)) = .ok (.string ⟨#[UInt8.ofNat (48 + n % 10)]⟩) (wr.alloc (.cells #[.int .u8 (48 + (n : Int) % 10)] 5)) := by
          have e : ((UInt8.ofNat (48 + n % 10)).toNat : Int) = 48 + (n : Int) % 10 := by
            rw [UInt8.toNat_ofNat']
            omega
          have := run_convert_bytes_back (P := Try.prog) (wr.alloc (.cells #[.int .u8 (48 + (n : Int) % 10)] 5)) 46 9 5 ⟨wr.heap.size, 0, none⟩ 1 [UInt8.ofNat (48 + n % 10)] Try.underlying46 Try.underlying5 Try.underlying9 (by
            intro j hj
            obtain rfl : j = 0 := by simp at hj; omega
            simp only [List.getElem_cons_zero, e]
            rw [add_lit, World.cell?_alloc_at (hn := rfl)]
            rfl)
          exact this
        have hadd : ∀ W : World, (Op.stringOp .add ⟨#[UInt8.ofNat (48 + n % 10)]⟩ ⟨l.toArray⟩).run Try.prog W = .ok (.string ⟨(UInt8.ofNat (48 + n % 10) :: l).toArray⟩) W := fun W => by
          have h0 : (ByteArray.mk l.toArray).size = l.length := by show l.toArray.size = _; simp
          rw [run_string_add_sum _ _ _ (by rw [h0]; show 1 + _ ≤ _; omega)]
          have := ByteArray.mk_append_mk [UInt8.ofNat (48 + n % 10)] l
          rw [this]
          rfl
        go_wp2_with fail
        go_roundw
        case rel => exact ⟨n / 10, _, by go_num, rfl, by simp; omega, Lib.hid (by rw [Heq.out, HD.out]; simp), hbel.alloc hsz _⟩
        case measure => simp [intOf]; omega
      · obtain rfl : n = 0 := by omega
        have hadd : ∀ W : World, (Op.stringOp .add ⟨#[109]⟩ ⟨l.toArray⟩).run Try.prog W = .ok (.string ⟨(109 :: l).toArray⟩) W := fun W => by
          have h0 : (ByteArray.mk l.toArray).size = l.length := by show l.toArray.size = _; simp
          rw [run_string_add_sum _ _ _ (by rw [h0]; show 1 + _ ≤ _; omega)]
          have := ByteArray.mk_append_mk [109] l
          rw [this]
          rfl
        have HE : Hid (mkD K = l) := Lib.hid (by rw [Heq.out, mkD_zero]; rfl)
        go_wp2_with fail
        go_ret
        exact ⟨by rw [HE.out]; first | done | rfl, hbel⟩
end Go.Proofs.Ytofcmljnckdknaa
