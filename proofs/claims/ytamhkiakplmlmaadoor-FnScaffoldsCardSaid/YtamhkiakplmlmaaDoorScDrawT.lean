/-
  Sums that may wrap.
-/
import Derived.Test.YtamhkiakplmlmaaDoorScBent
namespace Go.Proofs.YtamhkiakplmlmaaDoor
open Go.ChangeShapes Go.WideShapes Go.RowKit

/-- a sum that wraps -/
def sumW (xs : List Int) : Int := xs.foldl (fun a x => wrap64 (a + x)) 0
theorem sumW_succ (xs : List Int) {k : Nat} (h : k < xs.length) : sumW (xs.take (k + 1)) = wrap64 (sumW (xs.take k) + xs[k]) := by
  unfold sumW
  rw [List.take_succ_eq_append_getElem h, List.foldl_append]
  rfl
theorem l22SumW_any (A : Option Addr) (c : Nat) (xs : List Int) (B : Nat) (w : World) (hr : Rd LI w B A c xs) :
    Calls Tryd.prog 38 #[.slice A xs.length c] w fun e w' => e = .returned (.int .i64 (sumW xs)) ∧ w = w' := by
  have hlen := hr.len63
  go_enter Tryd.func38, Tryd.ntmps38
  go_wp2_with fail
  go_loop [3, 4] (fun s i => ∃ k : Nat, k ≤ xs.length ∧ i = .int .i64 k ∧ s = .int .i64 (sumW (xs.take k))) (fun _ i => xs.length - (intOf i).toNat)
  case atStart => exact ⟨0, by omega, rfl, rfl⟩
  case round =>
    obtain ⟨k, hk, rfl, rfl⟩ := hrel
    by_cases hlt : k < xs.length
    · obtain ⟨ad, rfl, hab, hcell⟩ := hr.int hlt
      have HS := Lib.hid (sumW_succ xs hlt)
      generalize sumW (xs.take k) = u at *
      go_wp2_with fail
      go_round
      case rel => exact ⟨k + 1, by omega, by go_num, by rw [HS.out]⟩
      case measure => simp [intOf]; omega
    · go_wp2_with fail
      go_ret
      exact ⟨ret_int (by rw [List.take_of_length_le (by omega)]), rfl⟩
end Go.Proofs.YtamhkiakplmlmaaDoor
