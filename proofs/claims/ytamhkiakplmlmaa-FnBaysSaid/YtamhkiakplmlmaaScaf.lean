/-
  Scaffolds: ValidScaffold, SameScaffold.
-/
import Derived.Test.YtamhkiakplmlmaaNum
import Derived.Deep.RegionHeld3
namespace Go.Proofs.Ytamhkiakplmlmaa
open Go.ChangeShapes Go.WideShapes Go.RowKit

/-- ValidScaffold -/
def vsB (b t : List Int) (n : Int) : Bool := inB b.length 1 20 && !outB b 500 3000 && inB t.length 1 12 && !outB t 1000 2500 && inB n 1 10000
theorem vsB_parts {b t : List Int} {n : Int} (h : vsB b t n = true) : (1 ≤ b.length ∧ b.length ≤ 20) ∧ (∀ x ∈ b, 500 ≤ x ∧ x ≤ 3000) ∧ (1 ≤ t.length ∧ t.length ≤ 12) ∧ (∀ x ∈ t, 1000 ≤ x ∧ x ≤ 2500) ∧ 1 ≤ n ∧ n ≤ 10000 := by
  simp only [vsB, Bool.and_eq_true, Bool.not_eq_true'] at h
  obtain ⟨⟨⟨⟨h1, h2⟩, h3⟩, h4⟩, h5⟩ := h
  have := inB_yes h1
  have := inB_yes h3
  exact ⟨by omega, outB_no h2, by omega, outB_no h4, inB_yes h5⟩
theorem vs_sum {b t : List Int} {n : Int} (h : vsB b t n = true) : (500 ≤ sm b ∧ sm b ≤ 60000) ∧ 1000 ≤ sm t ∧ sm t ≤ 30000 := by
  obtain ⟨h1, h2, h3, h4, _⟩ := vsB_parts h
  have hb := sm_bound (M := 3000) (n := 20) (by omega) (fun x hx => by have := h2 x hx; omega) h1.2
  have ht := sm_bound (M := 2500) (n := 12) (by omega) (fun x hx => by have := h4 x hx; omega) h3.2
  have hb0 : 500 ≤ sm b := by
    match b, h1 with
    | x :: b, _ =>
      have h5 := h2 x List.mem_cons_self
      have h6 := sm_nonneg (xs := b) fun y hy => by have := h2 y (List.mem_cons_of_mem _ hy); omega
      rw [sm_cons]; omega
  have ht0 : 1000 ≤ sm t := by
    match t, h3 with
    | x :: t, _ =>
      have h5 := h4 x List.mem_cons_self
      have h6 := sm_nonneg (xs := t) fun y hy => by have := h4 y (List.mem_cons_of_mem _ hy); omega
      rw [sm_cons]; omega
  omega

set_option maxHeartbeats 1600000 in
theorem implValidScaffold_any (A0b : Option Addr) (c0b : Nat) (x0b : List Int) (A0t : Option Addr) (c0t : Nat) (x0t : List Int) (n0 : Int) (w : World) (hb : Rd LI w w.heap.size A0b c0b x0b) (ht : Rd LI w w.heap.size A0t c0t x0t) :
    Calls Try.prog 31 #[.agg #[.slice A0b x0b.length c0b, .slice A0t x0t.length c0t, .int .i64 n0]] w fun e w' => e = .returned (.bool (vsB x0b x0t n0)) ∧ Below w.heap.size w w' := by
  have hl1 := hb.len63
  have hl2 := ht.len63
  have hb0 : Below w.heap.size w (w.alloc (.cells #[.slice A0b x0b.length c0b, .slice A0t x0t.length c0t, .int .i64 n0] 30)) := (Below.refl _ _).alloc (Nat.le_refl _) _
  cases h1 : inB x0b.length 1 20
  · have HV : Hid (vsB x0b x0t n0 = false) := Lib.hid (by simp [vsB, h1])
    rw [HV.out]
    go_enter Try.func31, Try.ntmps31
    go_wp2_with (go_at_call 24; refine (within_any _ _ _ _).mono ?_; rintro e w' ⟨rfl, rfl⟩)
    go_ret
    exact ⟨rfl, hb0⟩
  · cases h2 : outB x0b 500 3000
    case true =>
      have HV : Hid (vsB x0b x0t n0 = false) := Lib.hid (by simp [vsB, h2])
      rw [HV.out]
      have hc := outside_any A0b c0b x0b 500 3000 _ (hb.al (.cells #[.slice A0b x0b.length c0b, .slice A0t x0t.length c0t, .int .i64 n0] 30))
      rw [h2] at hc
      go_enter Try.func31, Try.ntmps31
      go_wp2_with (go_at_call 24; refine (within_any _ _ _ _).mono ?_; rintro e w' ⟨rfl, rfl⟩)
      refine hc.mono ?_
      rintro e w1 ⟨rfl, hb1⟩
      go_wp2_with fail
      go_ret
      exact ⟨rfl, bthen hb0 (Nat.le_refl _) hb1⟩
    case false =>
      have hc := outside_any A0b c0b x0b 500 3000 _ (hb.al (.cells #[.slice A0b x0b.length c0b, .slice A0t x0t.length c0t, .int .i64 n0] 30))
      rw [h2] at hc
      cases h3 : inB x0t.length 1 12
      · have HV : Hid (vsB x0b x0t n0 = false) := Lib.hid (by simp [vsB, h3])
        rw [HV.out]
        go_enter Try.func31, Try.ntmps31
        go_wp2_with (go_at_call 24; refine (within_any _ _ _ _).mono ?_; rintro e w' ⟨rfl, rfl⟩)
        refine hc.mono ?_
        rintro e w1 ⟨rfl, hb1⟩
        obtain ⟨hcc, hff⟩ := bcell hb1
        go_wp2_with (go_at_call 24; refine (within_any _ _ _ _).mono ?_; rintro e w' ⟨rfl, rfl⟩)
        go_ret
        exact ⟨rfl, bthen hb0 (Nat.le_refl _) hb1⟩
      · cases h4 : outB x0t 1000 2500
        case true =>
          have HV : Hid (vsB x0b x0t n0 = false) := Lib.hid (by simp [vsB, h4])
          rw [HV.out]
          go_enter Try.func31, Try.ntmps31
          go_wp2_with (go_at_call 24; refine (within_any _ _ _ _).mono ?_; rintro e w' ⟨rfl, rfl⟩)
          refine hc.mono ?_
          rintro e w1 ⟨rfl, hb1⟩
          obtain ⟨hcc, hff⟩ := bcell hb1
          go_wp2_with (go_at_call 24; refine (within_any _ _ _ _).mono ?_; rintro e w' ⟨rfl, rfl⟩)
          have hc2 := outside_any A0t c0t x0t 1000 2500 w1 (((ht.al _).below hb1).more hb1.size)
          rw [h4] at hc2
          refine hc2.mono ?_
          rintro e w2 ⟨rfl, hb2⟩
          go_wp2_with fail
          go_ret
          exact ⟨rfl, bthen (bthen hb0 (Nat.le_refl _) hb1) (Nat.le_refl _) hb2⟩
        case false =>
          have HV : Hid (vsB x0b x0t n0 = inB n0 1 10000) := Lib.hid (by simp [vsB, h1, h2, h3, h4])
          rw [HV.out]
          go_enter Try.func31, Try.ntmps31
          go_wp2_with (go_at_call 24; refine (within_any _ _ _ _).mono ?_; rintro e w' ⟨rfl, rfl⟩)
          refine hc.mono ?_
          rintro e w1 ⟨rfl, hb1⟩
          obtain ⟨hcc, hff⟩ := bcell hb1
          go_wp2_with (go_at_call 24; refine (within_any _ _ _ _).mono ?_; rintro e w' ⟨rfl, rfl⟩)
          have hc2 := outside_any A0t c0t x0t 1000 2500 w1 (((ht.al _).below hb1).more hb1.size)
          rw [h4] at hc2
          refine hc2.mono ?_
          rintro e w2 ⟨rfl, hb2⟩
          have hb2' : Below (w.heap.size + 1) w1 w2 := hb2.mono (by have := hb1.size; simp at this; omega)
          have hc3 : w2.cell? ⟨w.heap.size, 2, none⟩ = some (.int .i64 n0) := by
            rw [hb2'.cell (by simp), hb1.cell (by simp)]; go_simp
          clear hcc hff
          go_wp2_with (go_at_call 24; refine (within_any _ _ _ _).mono ?_; rintro e w' ⟨rfl, rfl⟩)
          go_ret
          exact ⟨rfl, bthen (bthen hb0 (Nat.le_refl _) hb1) (Nat.le_refl _) hb2⟩

theorem outB_snoc {xs : List Int} {lo hi : Int} {k : Nat} (h : k < xs.length) (hno : outB (xs.take k) lo hi = false) (hin : inB xs[k] lo hi = true) : outB (xs.take (k + 1)) lo hi = false := by
  rw [List.take_succ_eq_append_getElem h]
  simp only [outB, List.any_append] at hno ⊢
  rw [hno]
  simp [hin]
theorem outB_hit {xs : List Int} {lo hi : Int} {k : Nat} (h : k < xs.length) (hin : inB xs[k] lo hi = false) : outB xs lo hi = true :=
  List.any_eq_true.2 ⟨xs[k], List.getElem_mem _, by simp [hin]⟩

set_option maxHeartbeats 1600000 in
theorem l22Ok_any (A0b : Option Addr) (c0b : Nat) (x0b : List Int) (A0t : Option Addr) (c0t : Nat) (x0t : List Int) (n0 : Int) (g : Nat) (w : World) (hb : Rd LI w w.heap.size A0b c0b x0b) (ht : Rd LI w w.heap.size A0t c0t x0t)
    (hc0 : w.cell? ⟨g, 0, none⟩ = some (.slice A0b x0b.length c0b)) (hc1 : w.cell? ⟨g, 1, none⟩ = some (.slice A0t x0t.length c0t)) (hc2 : w.cell? ⟨g, 2, none⟩ = some (.int .i64 n0)) :
    Calls Try.prog 32 #[.pointer (some ⟨g, 0, none⟩)] w fun e w' => e = .returned (.bool (vsB x0b x0t n0)) ∧ w = w' := by
  have hl1 := hb.len63
  have hl2 := ht.len63
  go_enter Try.func32, Try.ntmps32
  go_wp2_with fail
  go_loop [3] (fun i => ∃ k : Nat, k ≤ x0b.length ∧ i = .int .i64 k ∧ outB (x0b.take k) 500 3000 = false) (fun i => x0b.length - (intOf i).toNat)
  case atStart => exact ⟨0, by omega, rfl, rfl⟩
  case round =>
    obtain ⟨k, hk, rfl, hno⟩ := hrel
    have Hno := Lib.hid hno
    clear hno
    by_cases hlt : k < x0b.length
    · obtain ⟨ad, hA, hab, hcell⟩ := hb.int hlt
      subst hA
      cases hin : inB x0b[k] 500 3000
      · have HV : Hid (vsB x0b x0t n0 = false) := Lib.hid (by simp [vsB, outB_hit hlt hin])
        go_wp2_with (go_at_call 27; refine (l00In_any _ _ _ _).mono ?_; rintro e w' ⟨rfl, rfl⟩)
        go_ret
        exact ⟨ret_bool HV.out.symm, rfl⟩
      · go_wp2_with (go_at_call 27; refine (l00In_any _ _ _ _).mono ?_; rintro e w' ⟨rfl, rfl⟩)
        go_round
        case rel => exact ⟨k + 1, by omega, by go_num, outB_snoc hlt Hno.out hin⟩
        case measure => simp [intOf]; omega
    · have HB : Hid (outB x0b 500 3000 = false) := Lib.hid (by have := Hno.out; rw [List.take_of_length_le (by omega)] at this; exact this)
      clear Hno
      go_wp2_with fail
      go_loop [4] (fun i => ∃ k : Nat, k ≤ x0t.length ∧ i = .int .i64 k ∧ outB (x0t.take k) 1000 2500 = false) (fun i => x0t.length - (intOf i).toNat)
      case atStart => exact ⟨0, by omega, rfl, rfl⟩
      case round =>
        obtain ⟨j, hj, rfl, hno⟩ := hrel
        have Hno := Lib.hid hno
        clear hno
        by_cases hlj : j < x0t.length
        · obtain ⟨ad, hA, hab, hcell⟩ := ht.int hlj
          subst hA
          cases hin : inB x0t[j] 1000 2500
          · have HV : Hid (vsB x0b x0t n0 = false) := Lib.hid (by simp [vsB, outB_hit hlj hin])
            go_wp2_with (go_at_call 27; refine (l00In_any _ _ _ _).mono ?_; rintro e w' ⟨rfl, rfl⟩)
            go_ret
            exact ⟨ret_bool HV.out.symm, rfl⟩
          · go_wp2_with (go_at_call 27; refine (l00In_any _ _ _ _).mono ?_; rintro e w' ⟨rfl, rfl⟩)
            go_round
            case rel => exact ⟨j + 1, by omega, by go_num, outB_snoc hlj Hno.out hin⟩
            case measure => simp [intOf]; omega
        · have HT : Hid (outB x0t 1000 2500 = false) := Lib.hid (by have := Hno.out; rw [List.take_of_length_le (by omega)] at this; exact this)
          clear Hno
          have HV : Hid (vsB x0b x0t n0 = (inB x0b.length 1 20 && inB x0t.length 1 12 && inB n0 1 10000)) := Lib.hid (by simp [vsB, HB.out, HT.out])
          cases h1 : inB x0b.length 1 20
          · go_wp2_with (go_at_call 27; refine (l00In_any _ _ _ _).mono ?_; rintro e w' ⟨rfl, rfl⟩)
            go_ret
            exact ⟨ret_bool (by rw [HV.out, h1]; rfl), rfl⟩
          · cases h2 : inB x0t.length 1 12
            · go_wp2_with (go_at_call 27; refine (l00In_any _ _ _ _).mono ?_; rintro e w' ⟨rfl, rfl⟩)
              go_ret
              exact ⟨ret_bool (by rw [HV.out, h1, h2]; rfl), rfl⟩
            · go_wp2_with (go_at_call 27; refine (l00In_any _ _ _ _).mono ?_; rintro e w' ⟨rfl, rfl⟩)
              go_ret
              exact ⟨ret_bool (by rw [HV.out, h1, h2]; rfl), rfl⟩


end Go.Proofs.Ytamhkiakplmlmaa
