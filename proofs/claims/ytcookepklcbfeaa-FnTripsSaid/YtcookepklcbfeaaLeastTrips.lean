/-
  LeastTrips: both functions return the same.
-/
import Derived.Test.YtcookepklcbfeaaLoads
namespace Go.Proofs.Ytcookepklcbfeaa
open Go.ChangeShapes Go.WideShapes Go.RowKit

def big (most : Int) (x : Int) : Bool := decide (most < 2 * x)
def ltZ (xs : List Int) (most : Int) : Int := max (cnt (big most) xs : Int) ((sm xs + most - 1) / most)

theorem vlB_parts {xs : List Int} {most : Int} (h : vlB xs most = true) : (1 ≤ most ∧ most ≤ 5000) ∧ xs.length ≤ 10 ∧ ∀ x ∈ xs, 1 ≤ x ∧ x ≤ most := by
  simp only [vlB, Bool.and_eq_true, decide_eq_true_eq, Bool.not_eq_true'] at h
  exact ⟨inB_yes h.1.1, h.1.2, outB_no h.2⟩
theorem vl_sum {xs : List Int} {most : Int} (h : vlB xs most = true) : 0 ≤ sm xs ∧ sm xs ≤ 50000 := by
  obtain ⟨h1, h2, h3⟩ := vlB_parts h
  refine ⟨sm_nonneg fun x hx => by have := h3 x hx; omega, ?_⟩
  have := sm_bound (M := 5000) (n := 10) (by omega) (fun x hx => by have := h3 x hx; omega) h2
  omega

def ltP (xs : List Int) (most : Int) : Int × Int := if vlB xs most = true then (ltZ xs most, 0) else (0, 1)

theorem implLeastTrips_any (A : Option Addr) (c : Nat) (xs : List Int) (most : Int) (w : World) (hr : Rd LI w w.heap.size A c xs) :
    Calls Try.prog 13 #[.slice A xs.length c, .int .i64 most] w fun e w' => e = .returned (.tuple #[.int .i64 (ltP xs most).1, .int .i64 (ltP xs most).2]) ∧ Below w.heap.size w w' := by
  have hlen := hr.len63
  have hc := implValidLoads_any A c xs most w hr
  cases hv : vlB xs most
  · have HP : Hid (ltP xs most = (0, 1)) := Lib.hid (by simp [ltP, hv])
    rw [hv] at hc
    rw [HP.out]
    clear hv HP
    go_enter Try.func13, Try.ntmps13
    go_wp2_with fail
    refine hc.mono ?_
    rintro e w1 ⟨rfl, hb1⟩
    go_wp2_with fail
    go_ret2
    exact ⟨rfl, hb1⟩
  · have HP : Hid (ltP xs most = (ltZ xs most, 0)) := Lib.hid (by simp [ltP, hv])
    rw [hv] at hc
    rw [HP.out]
    obtain ⟨⟨hm1, hm2⟩, hl, hx⟩ := vlB_parts hv
    obtain ⟨hs0, hs1⟩ := vl_sum hv
    clear hv HP
    go_enter Try.func13, Try.ntmps13
    go_wp2_with fail
    refine hc.mono ?_
    rintro e w1 ⟨rfl, hb1⟩
    go_wp2_with fail
    go_loop [6, 15] (fun s i => ∃ k : Nat, k ≤ xs.length ∧ i = .int .i64 k ∧ s = .int .i64 (cnt (big most) (xs.take k))) (fun _ i => xs.length - (intOf i).toNat)
    case atStart => exact ⟨0, by omega, rfl, rfl⟩
    case round =>
      obtain ⟨k, hk, rfl, rfl⟩ := hrel
      have hcl := cnt_le (big most) (xs.take k)
      have htl : (xs.take k).length ≤ k := by simp; omega
      by_cases hlt : k < xs.length
      · obtain ⟨ad, rfl, hab, hcell⟩ := (hr.below hb1).int hlt
        obtain ⟨hx1, hx2⟩ := hx _ (List.getElem_mem hlt)
        cases hbig : big most xs[k]
        · have HC := Lib.hid (cnt_no hlt hbig)
          have hno : ¬ most < 2 * xs[k] := by simpa [big] using hbig
          clear hbig
          go_wp2_with fail
          go_round
          case rel => exact ⟨k + 1, by omega, by go_num, by rw [HC.out]⟩
          case measure => simp [intOf]; omega
        · have HC := Lib.hid (cnt_yes hlt hbig)
          have hyes : most < 2 * xs[k] := by simpa [big] using hbig
          clear hbig
          go_wp2_with fail
          go_round
          case rel => exact ⟨k + 1, by omega, by go_num, by rw [HC.out]; go_num⟩
          case measure => simp [intOf]; omega
      · have HK : Hid (xs.take k = xs) := Lib.hid (List.take_of_length_le (by omega))
        rw [HK.out]
        go_wp2_with fail
        refine (sumOf_any A c xs _ _ (hr.below hb1) (fun x h => by have := hx x h; omega) (by omega)).mono ?_
        rintro e w2 ⟨rfl, rfl⟩
        go_wp2_with fail
        refine (roundedUp_any _ _ _ hs0 (by omega) hm1 (by omega)).mono ?_
        rintro e w2 ⟨rfl, rfl⟩
        go_wp2_with fail
        all_goals go_ret2
        all_goals refine ⟨ret_ii ?_ rfl, hb1⟩
        all_goals unfold ltZ
        all_goals omega

theorem specLeastTrips_any (A : Option Addr) (c : Nat) (xs : List Int) (most : Int) (w : World) (hr : Rd LI w w.heap.size A c xs) :
    Calls Try.prog 14 #[.slice A xs.length c, .int .i64 most] w fun e w' => e = .returned (.tuple #[.int .i64 (ltP xs most).1, .int .i64 (ltP xs most).2]) ∧ Below w.heap.size w w' := by
  have hlen := hr.len63
  have hc := l21Ok_any A c xs most w hr
  cases hv : vlB xs most
  · have HP : Hid (ltP xs most = (0, 1)) := Lib.hid (by simp [ltP, hv])
    rw [hv] at hc
    rw [HP.out]
    clear hv HP
    go_enter Try.func14, Try.ntmps14
    go_wp2_with fail
    refine hc.mono ?_
    rintro e w1 ⟨rfl, hb1⟩
    go_wp2_with fail
    go_ret2
    exact ⟨rfl, hb1⟩
  · have HP : Hid (ltP xs most = (ltZ xs most, 0)) := Lib.hid (by simp [ltP, hv])
    rw [hv] at hc
    rw [HP.out]
    obtain ⟨⟨hm1, hm2⟩, hl, hx⟩ := vlB_parts hv
    obtain ⟨hs0, hs1⟩ := vl_sum hv
    have h0 : ∀ x ∈ xs, 0 ≤ x := fun x h => by have := hx x h; omega
    clear hv HP
    go_enter Try.func14, Try.ntmps14
    go_wp2_with fail
    refine hc.mono ?_
    rintro e w1 ⟨rfl, hb1⟩
    go_wp2_with fail
    go_loop [6, 7, 8] (fun s n i => ∃ k : Nat, k ≤ xs.length ∧ i = .int .i64 k ∧ s = .int .i64 (sm (xs.take k)) ∧ n = .int .i64 (cnt (big most) (xs.take k))) (fun _ _ i => xs.length - (intOf i).toNat)
    case atStart => exact ⟨0, by omega, rfl, rfl, rfl⟩
    case round =>
      obtain ⟨k, hk, rfl, rfl, rfl⟩ := hrel
      have hcl := cnt_le (big most) (xs.take k)
      have htl : (xs.take k).length ≤ k := by simp; omega
      obtain ⟨hb1', hb2'⟩ := sm_take_bd h0 k
      by_cases hlt : k < xs.length
      · obtain ⟨ad, rfl, hab, hcell⟩ := (hr.below hb1).int hlt
        obtain ⟨hx1, hx2⟩ := hx _ (List.getElem_mem hlt)
        have HS := Lib.hid (sm_succ xs hlt)
        cases hbig : big most xs[k]
        · have HC := Lib.hid (cnt_no hlt hbig)
          have hno : ¬ most < 2 * xs[k] := by simpa [big] using hbig
          clear hbig
          go_wp2_with fail
          go_round
          case rel => exact ⟨k + 1, by omega, by go_num, by rw [HS.out], by rw [HC.out]⟩
          case measure => simp [intOf]; omega
        · have HC := Lib.hid (cnt_yes hlt hbig)
          have hyes : most < 2 * xs[k] := by simpa [big] using hbig
          clear hbig
          go_wp2_with fail
          go_round
          case rel => exact ⟨k + 1, by omega, by go_num, by rw [HS.out], by rw [HC.out]; go_num⟩
          case measure => simp [intOf]; omega
      · have HK : Hid (xs.take k = xs) := Lib.hid (List.take_of_length_le (by omega))
        rw [HK.out]
        have hmz : (most == 0) = false := by simp; omega
        go_wp2_with fail
        refine (l00Max_any _ _ _).mono ?_
        rintro e w2 ⟨rfl, rfl⟩
        go_wp2_with fail
        go_ret2
        exact ⟨ret_ii rfl rfl, hb1⟩
end Go.Proofs.Ytcookepklcbfeaa
