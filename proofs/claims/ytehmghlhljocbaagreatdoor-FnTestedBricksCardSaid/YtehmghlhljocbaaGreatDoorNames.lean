/-
  Names: IsName on both sides.
-/
import Derived.Test.YtehmghlhljocbaaGreatDoorNum
import Derived.Deep.RegionHeld3
namespace Go.Proofs.YtehmghlhljocbaaGreatDoor
open Go.ChangeShapes Go.WideShapes Go.RowKit

def isSm (c : Int) : Bool := decide (97 ≤ c ∧ c ≤ 122)
def isDg (c : Int) : Bool := decide (48 ≤ c ∧ c ≤ 57)
def chOk (c : Int) : Bool := isSm c || isDg c || decide (c = 45)
/-- the bytes of a string, as numbers -/
def byts (s : ByteArray) : List Int := s.data.toList.map fun c => (c.toNat : Int)
theorem byts_len (s : ByteArray) : (byts s).length = s.size := by simp [byts]
theorem byts_get (s : ByteArray) (k : Nat) (h : k < s.size) : (byts s)[k]'(by rw [byts_len]; exact h) = (s[k].toNat : Int) := by
  simp [byts]; rfl
def nmB (s : ByteArray) : Bool := decide (1 ≤ s.size) && decide (s.size ≤ 12) && isSm ((byts s).headD 0) && (byts s).all chOk
theorem nm_head (s : ByteArray) (h : 0 < s.size) : (byts s).headD 0 = (s[0].toNat : Int) := by
  rw [← byts_get s 0 h]
  have : ∀ (l : List Int) (h : 0 < l.length), l.headD 0 = l[0] := by
    intro l h
    cases l with
    | nil => simp at h
    | cons x xs => rfl
  exact this _ _
theorem sm_ok {c : Int} (h : isSm c = true) : chOk c = true := by simp [chOk, h]
theorem byts_take (s : ByteArray) (k : Nat) (h : k < s.size) : (byts s).take (k + 1) = (byts s).take k ++ [(s[k].toNat : Int)] := by
  rw [List.take_succ_eq_append_getElem (by rw [byts_len]; exact h), byts_get s k h]
theorem all_hit {s : ByteArray} {k : Nat} (h : k < s.size) (hc : chOk (s[k].toNat : Int) = false) : (byts s).all chOk = false := by
  rw [List.all_eq_false]
  exact ⟨_, List.getElem_mem (by rw [byts_len]; exact h), by rw [byts_get s k h, hc]; simp⟩
theorem all_snoc {s : ByteArray} {k : Nat} (h : k < s.size) (h0 : ((byts s).take k).all chOk = true) (hc : chOk (s[k].toNat : Int) = true) : ((byts s).take (k + 1)).all chOk = true := by
  rw [byts_take s k h, List.all_append, h0]
  simp [hc]

theorem l01Small_any (c : Int) (w : World) :
    Calls Tryz.prog 87 #[.int .u8 c] w fun e w' => e = .returned (.bool (isSm c)) ∧ w = w' := by
  go_enter Tryz.func87, Tryz.ntmps87
  go_wp2
  all_goals go_ret
  all_goals refine ⟨ret_bool ?_, rfl⟩
  all_goals simp [isSm]
  all_goals omega
theorem l01Digit_any (c : Int) (w : World) :
    Calls Tryz.prog 85 #[.int .u8 c] w fun e w' => e = .returned (.bool (isDg c)) ∧ w = w' := by
  go_enter Tryz.func85, Tryz.ntmps85
  go_wp2
  all_goals go_ret
  all_goals refine ⟨ret_bool ?_, rfl⟩
  all_goals simp [isDg]
  all_goals omega

theorem nm_cases (c : Int) : (97 ≤ c ∧ c ≤ 122) ∨ (48 ≤ c ∧ c ≤ 57) ∨ c = 45 ∨ chOk c = false := by
  by_cases h : chOk c = false
  · exact Or.inr (Or.inr (Or.inr h))
  · simp [chOk, isSm, isDg] at h
    omega
theorem ch_no {c : Int} (h : chOk c = false) : (c < 97 ∨ 122 < c) ∧ (c < 48 ∨ 57 < c) ∧ c ≠ 45 := by
  simp [chOk, isSm, isDg] at h
  omega
theorem ch_yes {c : Int} (h : (97 ≤ c ∧ c ≤ 122) ∨ (48 ≤ c ∧ c ≤ 57) ∨ c = 45) : chOk c = true := by
  simp [chOk, isSm, isDg]
  omega

set_option maxHeartbeats 1600000 in
theorem implIsName_any (s : ByteArray) (hs : s.size ≤ 9223372036854775807) (w : World) :
    Calls Tryz.prog 68 #[.string s] w fun e w' => e = .returned (.bool (nmB s)) ∧ w = w' := by
  by_cases h0 : s.size < 1
  · have HV : Hid (nmB s = false) := Lib.hid (by simp [nmB]; omega)
    go_enter Tryz.func68, Tryz.ntmps68
    go_wp2
    all_goals go_ret
    all_goals exact ⟨ret_bool HV.out.symm, rfl⟩
  by_cases h1 : 12 < s.size
  · have HV : Hid (nmB s = false) := Lib.hid (by simp [nmB]; omega)
    go_enter Tryz.func68, Tryz.ntmps68
    go_wp2
    all_goals go_ret
    all_goals exact ⟨ret_bool HV.out.symm, rfl⟩
  have hs0 : 0 < s.size := by omega
  have HH := Lib.hid (nm_head s hs0)
  by_cases h2 : (s[0].toNat : Int) < 97
  · have HV : Hid (nmB s = false) := Lib.hid (by
      have : isSm ((byts s).headD 0) = false := by rw [HH.out]; simp [isSm]; omega
      simp only [nmB, this]; simp)
    go_enter Tryz.func68, Tryz.ntmps68
    go_wp2
    all_goals go_ret
    all_goals exact ⟨ret_bool HV.out.symm, rfl⟩
  by_cases h3 : 122 < (s[0].toNat : Int)
  · have HV : Hid (nmB s = false) := Lib.hid (by
      have : isSm ((byts s).headD 0) = false := by rw [HH.out]; simp [isSm]; omega
      simp only [nmB, this]; simp)
    go_enter Tryz.func68, Tryz.ntmps68
    go_wp2
    all_goals go_ret
    all_goals exact ⟨ret_bool HV.out.symm, rfl⟩
  have HV : Hid (nmB s = (byts s).all chOk) := Lib.hid (by
    have : isSm ((byts s).headD 0) = true := by rw [HH.out]; simp [isSm]; omega
    have a1 : decide (1 ≤ s.size) = true := by simp; omega
    have a2 : decide (s.size ≤ 12) = true := by simp; omega
    simp only [nmB, this, a1, a2, Bool.true_and])
  have hz : chOk (s[0].toNat : Int) = true := ch_yes (by omega)
  go_enter Tryz.func68, Tryz.ntmps68
  go_wp2
  go_loop [3] (fun i => ∃ k : Nat, 1 ≤ k ∧ k ≤ s.size ∧ i = .int .i64 k ∧ ((byts s).take k).all chOk = true) (fun i => s.size - (intOf i).toNat)
  case atStart => exact ⟨1, by omega, by omega, rfl, all_snoc hs0 rfl hz⟩
  case round =>
    obtain ⟨k, hk1, hk, rfl, hno⟩ := hrel
    have Hno := Lib.hid hno
    clear hno hz h2 h3
    by_cases hlt : k < s.size
    · rcases nm_cases (s[k].toNat : Int) with hc | hc | hc | hc
      · have HC := Lib.hid (ch_yes (Or.inl hc))
        obtain ⟨hc1, hc2⟩ := hc
        go_wp2
        go_round
        case rel => exact ⟨k + 1, by omega, by omega, by go_num, all_snoc hlt Hno.out HC.out⟩
        case measure => simp [intOf]; omega
      · have HC := Lib.hid (ch_yes (Or.inr (Or.inl hc)))
        obtain ⟨hc1, hc2⟩ := hc
        go_wp2
        go_round
        case rel => exact ⟨k + 1, by omega, by omega, by go_num, all_snoc hlt Hno.out HC.out⟩
        case measure => simp [intOf]; omega
      · have HC := Lib.hid (ch_yes (Or.inr (Or.inr hc)))
        go_wp2
        go_round
        case rel => exact ⟨k + 1, by omega, by omega, by go_num, all_snoc hlt Hno.out HC.out⟩
        case measure => simp [intOf]; omega
      · have HW := Lib.hid (all_hit hlt hc)
        obtain ⟨hc1, hc2, hc3⟩ := ch_no hc
        clear hc
        rcases hc1 with hc1 | hc1 <;> rcases hc2 with hc2 | hc2
        all_goals go_wp2
        all_goals go_ret
        all_goals exact ⟨ret_bool (HV.out.trans HW.out).symm, rfl⟩
    · go_wp2
      go_ret
      refine ⟨ret_bool ?_, rfl⟩
      have := Hno.out
      rw [List.take_of_length_le (by rw [byts_len]; omega)] at this
      rw [HV.out, this]

set_option maxHeartbeats 1600000 in
theorem specIsName_any (s : ByteArray) (hs : s.size ≤ 9223372036854775807) (w : World) :
    Calls Tryz.prog 72 #[.string s] w fun e w' => e = .returned (.bool (nmB s)) ∧ w = w' := by
  by_cases h0 : s.size < 1
  · have HV : Hid (nmB s = false) := Lib.hid (by simp [nmB]; omega)
    have he : s = ByteArray.empty := by
      have : s.size = 0 := by omega
      exact ByteArray.size_eq_zero_iff.1 this
    subst he
    go_enter Tryz.func72, Tryz.ntmps72
    go_wp2
    all_goals go_ret
    all_goals exact ⟨ret_bool HV.out.symm, rfl⟩
  have hne : ¬ s.toList = [] := by
    intro h
    have h1 := congrArg List.length h
    have h2 : s.data.toList.length = s.size := by cases s; rfl
    rw [ByteArray.toList_eq, h2, List.length_nil] at h1
    omega
  have hne2 : s.toList.isEmpty = false := by simpa using hne
  by_cases h1 : 12 < s.size
  · have HV : Hid (nmB s = false) := Lib.hid (by simp [nmB]; omega)
    go_enter Tryz.func72, Tryz.ntmps72
    go_wp2
    all_goals go_ret
    all_goals exact ⟨ret_bool HV.out.symm, rfl⟩
  have hs0 : 0 < s.size := by omega
  have HH := Lib.hid (nm_head s hs0)
  cases h2 : isSm (s[0].toNat : Int)
  · have HV : Hid (nmB s = false) := Lib.hid (by
      have : isSm ((byts s).headD 0) = false := by rw [HH.out]; exact h2
      simp only [nmB, this]; simp)
    go_enter Tryz.func72, Tryz.ntmps72
    go_wp2_with fail
    refine (l01Small_any _ _).mono ?_
    rintro e w1 ⟨rfl, rfl⟩
    go_wp2_with fail
    go_ret
    exact ⟨ret_bool HV.out.symm, rfl⟩
  have HV : Hid (nmB s = (byts s).all chOk) := Lib.hid (by
    have : isSm ((byts s).headD 0) = true := by rw [HH.out]; exact h2
    have a1 : decide (1 ≤ s.size) = true := by simp; omega
    have a2 : decide (s.size ≤ 12) = true := by simp; omega
    simp only [nmB, this, a1, a2, Bool.true_and])
  go_enter Tryz.func72, Tryz.ntmps72
  go_wp2_with fail
  refine (l01Small_any _ _).mono ?_
  rintro e w1 ⟨rfl, rfl⟩
  go_wp2_with fail
  go_loop [3] (fun i => ∃ k : Nat, k ≤ s.size ∧ i = .int .i64 k ∧ ((byts s).take k).all chOk = true) (fun i => s.size - (intOf i).toNat)
  case atStart => exact ⟨0, by omega, rfl, rfl⟩
  case round =>
    obtain ⟨k, hk, rfl, hno⟩ := hrel
    have Hno := Lib.hid hno
    clear hno h2 hne hne2
    by_cases hlt : k < s.size
    · cases ha : isSm (s[k].toNat : Int)
      · cases hb : isDg (s[k].toNat : Int)
        · by_cases hc : (s[k].toNat : Int) = 45
          · have HC : Hid (chOk (s[k].toNat : Int) = true) := Lib.hid (by simp [chOk, hc])
            go_wp2_with (first | (go_at_call 87; refine (l01Small_any _ _).mono ?_; rintro e w1 ⟨rfl, rfl⟩) | (go_at_call 85; refine (l01Digit_any _ _).mono ?_; rintro e w1 ⟨rfl, rfl⟩))
            go_round
            case rel => exact ⟨k + 1, by omega, by go_num, all_snoc hlt Hno.out HC.out⟩
            case measure => simp [intOf]; omega
          · have HW : Hid ((byts s).all chOk = false) := Lib.hid (all_hit hlt (by simp [chOk, ha, hb, hc]))
            go_wp2_with (first | (go_at_call 87; refine (l01Small_any _ _).mono ?_; rintro e w1 ⟨rfl, rfl⟩) | (go_at_call 85; refine (l01Digit_any _ _).mono ?_; rintro e w1 ⟨rfl, rfl⟩))
            go_ret
            exact ⟨ret_bool (HV.out.trans HW.out).symm, rfl⟩
        · have HC : Hid (chOk (s[k].toNat : Int) = true) := Lib.hid (by simp [chOk, hb])
          go_wp2_with (first | (go_at_call 87; refine (l01Small_any _ _).mono ?_; rintro e w1 ⟨rfl, rfl⟩) | (go_at_call 85; refine (l01Digit_any _ _).mono ?_; rintro e w1 ⟨rfl, rfl⟩))
          go_round
          case rel => exact ⟨k + 1, by omega, by go_num, all_snoc hlt Hno.out HC.out⟩
          case measure => simp [intOf]; omega
      · have HC : Hid (chOk (s[k].toNat : Int) = true) := Lib.hid (by simp [chOk, ha])
        go_wp2_with (first | (go_at_call 87; refine (l01Small_any _ _).mono ?_; rintro e w1 ⟨rfl, rfl⟩) | (go_at_call 85; refine (l01Digit_any _ _).mono ?_; rintro e w1 ⟨rfl, rfl⟩))
        go_round
        case rel => exact ⟨k + 1, by omega, by go_num, all_snoc hlt Hno.out HC.out⟩
        case measure => simp [intOf]; omega
    · go_wp2_with fail
      go_ret
      refine ⟨ret_bool ?_, rfl⟩
      have := Hno.out
      rw [List.take_of_length_le (by rw [byts_len]; omega)] at this
      rw [HV.out, this]
end Go.Proofs.YtehmghlhljocbaaGreatDoor
