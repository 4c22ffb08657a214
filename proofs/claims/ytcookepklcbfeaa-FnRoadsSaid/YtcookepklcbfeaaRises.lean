/-
  l00Rises of the reference.
-/
import Derived.Test.YtcookepklcbfeaaNum
import Derived.Test.YtcookepklcbfeaaRisPlain
namespace Go.Proofs.Ytcookepklcbfeaa
open Go.ChangeShapes Go.WideShapes Go.RowKit

set_option maxRecDepth 100000 in
set_option maxHeartbeats 1600000 in
theorem l00Rises_any (A : Option Addr) (c : Nat) (xs : List Int) (lo hi : Int) (B : Nat) (w : World) (hr : Rd LI w B A c xs) :
    Calls Try.prog 66 #[.slice A xs.length c, .int .i64 lo, .int .i64 hi] w fun e w' => e = .returned (.bool (risB lo hi xs)) ∧ Dr w w' := by
  have hlen := hr.len63
  have HN : Hid (¬ Ris lo hi xs → risB lo hi xs = false) := Lib.hid fun h => dB_no h
  go_enter Try.func66, Try.ntmps66
  go_wp2_with fail
  go_loopw [7] (fun i wr => ∃ k : Nat, k ≤ xs.length ∧ i = .int .i64 k ∧ Hid (RisK lo hi xs k) ∧ Dr w wr) (fun i _ => xs.length - (intOf i).toNat)
  case atStart => exact ⟨0, by omega, rfl, Lib.hid (fun i _ h => by omega), Dr.refl _⟩
  case round =>
    obtain ⟨k, hk, rfl, HK, hdr⟩ := hrel
    by_cases hlt : k < xs.length
    · obtain ⟨ad, rfl, hab, hcell⟩ := (hr.below hdr.below).int hlt
      have hlt0 : (k : Int) < xs.length := by omega
      cases hin : inB xs[k] lo hi
      · have hx := Lib.hid hin
        go_wp2_with fail
        go_quiet ((go_at_call 54; exact quiet_left (l00In_any _ _ _ _)))
        go_wp2_with fail
        go_ret
        refine ⟨ret_bool (HN.out fun hR => ?_).symm, hdr.step _⟩
        have := hx.out
        rw [inB_mk (hR k hlt).1] at this
        cases this
      · have HI := Lib.hid (inB_yes hin)
        by_cases hk0 : k = 0
        · have hd : decide (0 < k) = false := by simp; omega
          have HK0 := Lib.hid hk0
          clear hk0
          go_wp2_with fail
          go_quiet ((go_at_call 54; exact quiet_left (l00In_any _ _ _ _)))
          go_wp2_with fail
          go_roundw
          case rel => exact ⟨k + 1, by omega, by go_num, Lib.hid (HK.out.step hlt HI.out (fun h0 => by have := HK0.out; omega)), hdr.step _⟩
          case measure => simp [intOf]; omega
        · have hd : decide (0 < k) = true := by simp; omega
          have hd1 : (0 : Int) < (k : Int) := by omega
          obtain ⟨ad', hA, hab', hcell'⟩ := (hr.below hdr.below).int (k := k - 1) (by omega)
          cases hA
          have ht : ((k : Int) - 1).toNat = k - 1 := by omega
          have hp0 : (0 : Int) ≤ (k : Int) - 1 := by omega
          have hp1 : (k : Int) - 1 < xs.length := by omega
          obtain ⟨y, hy⟩ : ∃ y, y = xs[k - 1] := ⟨_, rfl⟩
          rw [← hy] at hcell'
          have HY := Lib.hid hy
          clear hy
          by_cases hle : xs[k] ≤ y
          · go_wp2_with fail
            go_quiet ((go_at_call 54; exact quiet_left (l00In_any _ _ _ _)))
            go_wp2_with fail
            go_ret
            refine ⟨ret_bool (HN.out fun hR => ?_).symm, hdr.step _⟩
            have h1 := (hR k hlt).2 (by omega)
            have := HY.out
            omega
          · have hgt : y < xs[k] := by omega
            go_wp2_with fail
            go_quiet ((go_at_call 54; exact quiet_left (l00In_any _ _ _ _)))
            go_wp2_with fail
            go_roundw
            case rel => exact ⟨k + 1, by omega, by go_num, Lib.hid (HK.out.step hlt HI.out (fun h0 => by have := HY.out; omega)), hdr.step _⟩
            case measure => simp [intOf]; omega
    · have hke : k = xs.length := by omega
      subst hke
      go_wp2_with fail
      go_ret
      exact ⟨ret_bool (dB_yes HK.out.all).symm, hdr⟩
end Go.Proofs.Ytcookepklcbfeaa
