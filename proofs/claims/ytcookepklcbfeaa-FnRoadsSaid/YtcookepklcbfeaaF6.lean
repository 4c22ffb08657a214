/-
  What the laws of the sixth file ask beside the functions: the size of the argument, lists of numbers that are equal, sums.
-/
import Derived.Test.YtcookepklcbfeaaNum
import Derived.Test.YtcookepklcbfeaaNumSS
import Derived.Test.YtcookepklcbfeaaSteps
namespace Go.Proofs.Ytcookepklcbfeaa
open Go.ChangeShapes Go.WideShapes Go.RowKit

theorem f6big_any (A : Option Addr) (c n : Nat) (w : World) (hn : n ≤ 9223372036854775807) : Calls Try.prog 5 #[.slice A n c] w fun e w' => e = .returned (.bool (decide (4096 < n))) ∧ w = w' := by
  by_cases h : 4096 < n
  · have hd : decide (4096 < n) = true := by simpa using h
    have h2 : (4096 : Int) < n := by omega
    rw [hd]
    go_enter Try.func5, Try.ntmps5
    go_wp2_with fail
    go_ret
    exact ⟨ret_bool (by first | (simp; done) | (simp; omega)), rfl⟩
  · have hd : decide (4096 < n) = false := by simpa using h
    have h2 : (n : Int) ≤ 4096 := by omega
    rw [hd]
    go_enter Try.func5, Try.ntmps5
    go_wp2_with fail
    go_ret
    exact ⟨ret_bool (by simp; omega), rfl⟩
/-- two slices that read as the same list -/
theorem f6ints_any (A A2 : Option Addr) (c c2 : Nat) (xs : List Int) (B : Nat) (w : World) (hr : Rd LI w B A c xs) (hr2 : Rd LI w B A2 c2 xs) :
    Calls Try.prog 21 #[.slice A xs.length c, .slice A2 xs.length c2] w fun e w' => e = .returned (.bool true) ∧ Dr w w' := by
  have h := f6ints_quiet A A2 c c2 xs xs B w hr hr2
  rw [eqB_self] at h
  exact h
/-- two slices of slices that read as the same lists -/
theorem f6lists_any (A A2 : Option Addr) (c c2 : Nat) (rs ss : List (Row Int)) (B : Nat) (w : World) (hr : RdR LI w B A c rs) (hr2 : RdR LI w B A2 c2 ss) (hd : dat rs = dat ss) :
    Calls Try.prog 33 #[.slice A rs.length c, .slice A2 ss.length c2] w fun e w' => e = .returned (.bool true) ∧ Dr w w' := by
  have hlen := hr.len63
  have hl : rs.length = ss.length := by have := congrArg List.length hd; simpa [dat] using this
  have HD := Lib.hid hd
  have HR := Lib.hid hr
  have HR2 := Lib.hid hr2
  rw [← hl]
  have HL := Lib.hid hl
  clear hr hr2 hd hl
  go_enter Try.func33, Try.ntmps33
  go_wp2_with fail
  go_loopw [5] (fun i wr => ∃ k : Nat, k ≤ rs.length ∧ i = .int .i64 k ∧ Hid (Dr w wr)) (fun i _ => rs.length - (intOf i).toNat)
  case atStart => exact ⟨0, by omega, rfl, Lib.hid (Dr.refl _)⟩
  case round =>
    obtain ⟨k, hk, rfl, HDr⟩ := hrel
    by_cases hlt : k < rs.length
    · have hki : (k : Int) < rs.length := by omega
      have hlt2 : k < ss.length := by have := HL.out; omega
      obtain ⟨ad, rfl, hab, hc1, hrk⟩ := (HR.out.below HDr.out.below).at_ hlt
      obtain ⟨ad2, rfl, hab2, hc2, hrk2⟩ := (HR2.out.below HDr.out.below).at_ hlt2
      have hx : rs[k].2.2 = ss[k].2.2 := by
        have h1 := dat_get rs k hlt
        have h2 := dat_get ss k hlt2
        rw [← h1, ← h2]
        simp only [HD.out]
      rw [← hx] at hrk2 hc2
      have hcall := fun n => f6ints_any rs[k].1 ss[k].1 rs[k].2.1 ss[k].2.1 rs[k].2.2 B (wr.drewN n) (hrk.drewN n) (hrk2.drewN n)
      clear hx
      go_wp2_with fail
      go_quiet ((go_at_call 21; exact quiet_dr (hcall _)))
      go_wp2_with fail
      go_roundw
      case rel => exact ⟨k + 1, by omega, by go_num, Lib.hid (HDr.out.step _)⟩
      case measure => simp [intOf]; omega
    · have hki : (rs.length : Int) ≤ k := by omega
      go_wp2_with fail
      go_ret
      exact ⟨rfl, HDr.out⟩
end Go.Proofs.Ytcookepklcbfeaa
