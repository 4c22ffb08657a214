/-
  slices.Max over numbers.
-/
import Derived.Test.YtcookepklcbfeaaNum
import Derived.Test.YtcookepklcbfeaaSteps
namespace Go.Proofs.Ytcookepklcbfeaa
open Go.ChangeShapes Go.WideShapes Go.RowKit

/-- the greatest of some numbers, of which there is one -/
def mxL (xs : List Int) (k : Nat) : Int := (xs.take k).foldl max (xs.getD 0 0)
theorem mxL_succ (xs : List Int) {k : Nat} (h : k < xs.length) : mxL xs (k + 1) = max (mxL xs k) xs[k] := by
  unfold mxL
  rw [List.take_succ_eq_append_getElem h, List.foldl_append]
  rfl
theorem foldl_max_le {l : List Int} {a M : Int} : l.foldl max a ≤ M ↔ a ≤ M ∧ ∀ x ∈ l, x ≤ M := by
  induction l generalizing a with
  | nil => simp
  | cons b l ih =>
    rw [List.foldl_cons, ih]
    constructor
    · rintro ⟨h1, h2⟩
      refine ⟨by omega, fun x hx => ?_⟩
      rcases List.mem_cons.1 hx with rfl | hx
      · omega
      · exact h2 x hx
    · rintro ⟨h1, h2⟩
      refine ⟨?_, fun x hx => h2 x (List.mem_cons_of_mem _ hx)⟩
      have := h2 b (List.mem_cons_self ..)
      omega
theorem mxL_le {xs : List Int} (h : 0 < xs.length) (M : Int) : mxL xs xs.length ≤ M ↔ ∀ x ∈ xs, x ≤ M := by
  unfold mxL
  rw [List.take_of_length_le (Nat.le_refl _), foldl_max_le]
  constructor
  · exact fun h => h.2
  · intro h2
    refine ⟨?_, h2⟩
    rw [getD_lt xs 0 h]
    exact h2 _ (List.getElem_mem h)
theorem mxL_one {xs : List Int} (h : 0 < xs.length) : mxL xs 1 = xs[0] := by
  rw [mxL_succ xs h]
  unfold mxL
  rw [getD_lt xs 0 h]
  simp
theorem slicesMax_any (A : Option Addr) (c : Nat) (xs : List Int) (B : Nat) (w : World) (hr : Rd LI w B A c xs) (hn : 0 < xs.length) :
    Calls Try.prog 55 #[.slice A xs.length c] w fun e w' => e = .returned (.int .i64 (mxL xs xs.length)) ∧ Dr w w' := by
  have hlen := hr.len63
  obtain ⟨ad, rfl, _, h0⟩ := hr.int hn
  have H1 := Lib.hid (mxL_one hn)
  have hn1 : (1 : Int) ≤ xs.length := by omega
  have hz : (0 : Int) < xs.length := by omega
  have h0' : w.cell? ad = some (.int .i64 xs[0]) := by
    have : ad.add 0 = ad := by unfold Addr.add; simp
    rw [this] at h0
    exact h0
  clear h0
  rw [← H1.out] at h0'
  go_enter Try.func55, Try.ntmps55
  go_wp2_with fail
  go_loopw [3, 4] (fun m i wr => ∃ k : Nat, 1 ≤ k ∧ k ≤ xs.length ∧ i = .int .i64 k ∧ m = .int .i64 (mxL xs k) ∧ Dr w wr) (fun _ i _ => xs.length - (intOf i).toNat)
  case atStart => exact ⟨1, by omega, by omega, rfl, rfl, Dr.refl _⟩
  case round =>
    obtain ⟨k, hk1, hk, rfl, rfl, hdr⟩ := hrel
    by_cases hlt : k < xs.length
    · obtain ⟨ad', e, _, hc⟩ := (hr.below hdr.below).int hlt
      cases e
      have hk0 : (k : Int) < xs.length := by omega
      have HS : Hid (mxL xs (k + 1) = if mxL xs k < xs[k] then xs[k] else mxL xs k) := Lib.hid (by rw [mxL_succ xs hlt]; split <;> omega)
      generalize xs[k] = x at *
      generalize mxL xs k = m at *
      by_cases hmx : m < x
      · have HE : Hid (mxL xs (k + 1) = x) := Lib.hid (by rw [HS.out, if_pos hmx])
        go_wp2_with fail
        go_roundw
        case rel => exact ⟨k + 1, by omega, by omega, by go_num, by rw [HE.out], hdr⟩
        case measure => simp [intOf]; omega
      · have HE : Hid (mxL xs (k + 1) = m) := Lib.hid (by rw [HS.out, if_neg hmx])
        have hmx' : x ≤ m := by omega
        go_wp2_with fail
        go_roundw
        case rel => exact ⟨k + 1, by omega, by omega, by go_num, by rw [HE.out], hdr⟩
        case measure => simp [intOf]; omega
    · have hkk : k = xs.length := by omega
      subst hkk
      go_wp2_with fail
      go_ret
      exact ⟨rfl, hdr⟩
end Go.Proofs.Ytcookepklcbfeaa
