/-
  Scaffolds: ValidScaffold, SameScaffold.
-/
import Derived.Test.YtamhkiakplmlmaaDoorNum
import Derived.Deep.RegionHeld3
namespace Go.Proofs.YtamhkiakplmlmaaDoor
open Go.ChangeShapes Go.WideShapes Go.RowKit

/-- ValidScaffold -/
def vsB (b t : List Int) (n : Int) : Bool := inB b.length 1 20 && !outB b 500 3000 && inB t.length 1 12 && !outB t 1000 2500 && inB n 1 10000
theorem vsB_parts {b t : List Int} {n : Int} (h : vsB b t n = true) : (1 ≤ b.length ∧ b.length ≤ 20) ∧ (∀ x ∈ b, 500 ≤ x ∧ x ≤ 3000) ∧ (1 ≤ t.length ∧ t.length ≤ 12) ∧ (∀ x ∈ t, 1000 ≤ x ∧ x ≤ 2500) ∧ 1 ≤ n ∧ n ≤ 10000 := by
  simp only [vsB, Bool.and_eq_true, Bool.not_eq_true'] at h
  obtain ⟨⟨⟨⟨h1, h2⟩, h3⟩, h4⟩, h5⟩ := h
  have := inB_yes h1
  have := inB_yes h3
  exact ⟨by omega, outB_no h2, by omega, outB_no h4, inB_yes h5⟩
theorem vs_sum {b t : List Int} {n : Int} (h : vsB b t n = true) : (500 ≤ sm b ∧ sm b ≤ 60000) ∧ 1000 ≤ sm t ∧ sm t ≤ 30000 := by
  obtain ⟨h1, h2, h3, h4, _⟩ := vsB_parts h
  have hb := sm_bound (M := 3000) (n := 20) (by omega) (fun x hx => by have := h2 x hx; omega) h1.2
  have ht := sm_bound (M := 2500) (n := 12) (by omega) (fun x hx => by have := h4 x hx; omega) h3.2
  have hb0 : 500 ≤ sm b := by
    match b, h1 with
    | x :: b, _ =>
      have h5 := h2 x List.mem_cons_self
      have h6 := sm_nonneg (xs := b) fun y hy => by have := h2 y (List.mem_cons_of_mem _ hy); omega
      rw [sm_cons]; omega
  have ht0 : 1000 ≤ sm t := by
    match t, h3 with
    | x :: t, _ =>
      have h5 := h4 x List.mem_cons_self
      have h6 := sm_nonneg (xs := t) fun y hy => by have := h4 y (List.mem_cons_of_mem _ hy); omega
      rw [sm_cons]; omega
  omega

set_option maxHeartbeats 1600000 in
theorem implValidScaffold_any (A0b : Option Addr) (c0b : Nat) (x0b : List Int) (A0t : Option Addr) (c0t : Nat) (x0t : List Int) (n0 : Int) (w : World) (hb : Rd LI w w.heap.size A0b c0b x0b) (ht : Rd LI w w.heap.size A0t c0t x0t) :
    Calls Tryd.prog 23 #[.agg #[.slice A0b x0b.length c0b, .slice A0t x0t.length c0t, .int .i64 n0]] w fun e w' => e = .returned (.bool (vsB x0b x0t n0)) ∧ Below w.heap.size w w' := by
  have hl1 := hb.len63
  have hl2 := ht.len63
  have hb0 : Below w.heap.size w (w.alloc (.cells #[.slice A0b x0b.length c0b, .slice A0t x0t.length c0t, .int .i64 n0] 26)) := (Below.refl _ _).alloc (Nat.le_refl _) _
  cases h1 : inB x0b.length 1 20
  · have HV : Hid (vsB x0b x0t n0 = false) := Lib.hid (by simp [vsB, h1])
    rw [HV.out]
    go_enter Tryd.func23, Tryd.ntmps23
    go_wp2_with (go_at_call 39; refine (within_any _ _ _ _).mono ?_; rintro e w' ⟨rfl, rfl⟩)
    go_ret
    exact ⟨rfl, hb0⟩
  · cases h2 : outB x0b 500 3000
    case true =>
      have HV : Hid (vsB x0b x0t n0 = false) := Lib.hid (by simp [vsB, h2])
      rw [HV.out]
      have hc := outside_any A0b c0b x0b 500 3000 _ (hb.al (.cells #[.slice A0b x0b.length c0b, .slice A0t x0t.length c0t, .int .i64 n0] 26))
      rw [h2] at hc
      go_enter Tryd.func23, Tryd.ntmps23
      go_wp2_with (go_at_call 39; refine (within_any _ _ _ _).mono ?_; rintro e w' ⟨rfl, rfl⟩)
      refine hc.mono ?_
      rintro e w1 ⟨rfl, hb1⟩
      go_wp2_with fail
      go_ret
      exact ⟨rfl, bthen hb0 (Nat.le_refl _) hb1⟩
    case false =>
      have hc := outside_any A0b c0b x0b 500 3000 _ (hb.al (.cells #[.slice A0b x0b.length c0b, .slice A0t x0t.length c0t, .int .i64 n0] 26))
      rw [h2] at hc
      cases h3 : inB x0t.length 1 12
      · have HV : Hid (vsB x0b x0t n0 = false) := Lib.hid (by simp [vsB, h3])
        rw [HV.out]
        go_enter Tryd.func23, Tryd.ntmps23
        go_wp2_with (go_at_call 39; refine (within_any _ _ _ _).mono ?_; rintro e w' ⟨rfl, rfl⟩)
        refine hc.mono ?_
        rintro e w1 ⟨rfl, hb1⟩
        obtain ⟨hcc, hff⟩ := bcell hb1
        go_wp2_with (go_at_call 39; refine (within_any _ _ _ _).mono ?_; rintro e w' ⟨rfl, rfl⟩)
        go_ret
        exact ⟨rfl, bthen hb0 (Nat.le_refl _) hb1⟩
      · cases h4 : outB x0t 1000 2500
        case true =>
          have HV : Hid (vsB x0b x0t n0 = false) := Lib.hid (by simp [vsB, h4])
          rw [HV.out]
          go_enter Tryd.func23, Tryd.ntmps23
          go_wp2_with (go_at_call 39; refine (within_any _ _ _ _).mono ?_; rintro e w' ⟨rfl, rfl⟩)
          refine hc.mono ?_
          rintro e w1 ⟨rfl, hb1⟩
          obtain ⟨hcc, hff⟩ := bcell hb1
          go_wp2_with (go_at_call 39; refine (within_any _ _ _ _).mono ?_; rintro e w' ⟨rfl, rfl⟩)
          have hc2 := outside_any A0t c0t x0t 1000 2500 w1 (((ht.al _).below hb1).more hb1.size)
          rw [h4] at hc2
          refine hc2.mono ?_
          rintro e w2 ⟨rfl, hb2⟩
          go_wp2_with fail
          go_ret
          exact ⟨rfl, bthen (bthen hb0 (Nat.le_refl _) hb1) (Nat.le_refl _) hb2⟩
        case false =>
          have HV : Hid (vsB x0b x0t n0 = inB n0 1 10000) := Lib.hid (by simp [vsB, h1, h2, h3, h4])
          rw [HV.out]
          go_enter Tryd.func23, Tryd.ntmps23
          go_wp2_with (go_at_call 39; refine (within_any _ _ _ _).mono ?_; rintro e w' ⟨rfl, rfl⟩)
          refine hc.mono ?_
          rintro e w1 ⟨rfl, hb1⟩
          obtain ⟨hcc, hff⟩ := bcell hb1
          go_wp2_with (go_at_call 39; refine (within_any _ _ _ _).mono ?_; rintro e w' ⟨rfl, rfl⟩)
          have hc2 := outside_any A0t c0t x0t 1000 2500 w1 (((ht.al _).below hb1).more hb1.size)
          rw [h4] at hc2
          refine hc2.mono ?_
          rintro e w2 ⟨rfl, hb2⟩
          have hb2' : Below (w.heap.size + 1) w1 w2 := hb2.mono (by have := hb1.size; simp at this; omega)
          have hc3 : w2.cell? ⟨w.heap.size, 2, none⟩ = some (.int .i64 n0) := by
            rw [hb2'.cell (by simp), hb1.cell (by simp)]; go_simp
          clear hcc hff
          go_wp2_with (go_at_call 39; refine (within_any _ _ _ _).mono ?_; rintro e w' ⟨rfl, rfl⟩)
          go_ret
          exact ⟨rfl, bthen (bthen hb0 (Nat.le_refl _) hb1) (Nat.le_refl _) hb2⟩

theorem outB_snoc {xs : List Int} {lo hi : Int} {k : Nat} (h : k < xs.length) (hno : outB (xs.take k) lo hi = false) (hin : inB xs[k] lo hi = true) : outB (xs.take (k + 1)) lo hi = false := by
  rw [List.take_succ_eq_append_getElem h]
  simp only [outB, List.any_append] at hno ⊢
  rw [hno]
  simp [hin]
theorem outB_hit {xs : List Int} {lo hi : Int} {k : Nat} (h : k < xs.length) (hin : inB xs[k] lo hi = false) : outB xs lo hi = true :=
  List.any_eq_true.2 ⟨xs[k], List.getElem_mem _, by simp [hin]⟩

set_option maxHeartbeats 1600000 in
theorem l22Ok_any (A0b : Option Addr) (c0b : Nat) (x0b : List Int) (A0t : Option Addr) (c0t : Nat) (x0t : List Int) (n0 : Int) (g : Nat) (w : World) (hb : Rd LI w w.heap.size A0b c0b x0b) (ht : Rd LI w w.heap.size A0t c0t x0t)
    (hc0 : w.cell? ⟨g, 0, none⟩ = some (.slice A0b x0b.length c0b)) (hc1 : w.cell? ⟨g, 1, none⟩ = some (.slice A0t x0t.length c0t)) (hc2 : w.cell? ⟨g, 2, none⟩ = some (.int .i64 n0)) :
    Calls Tryd.prog 41 #[.pointer (some ⟨g, 0, none⟩)] w fun e w' => e = .returned (.bool (vsB x0b x0t n0)) ∧ w = w' := by
  have hl1 := hb.len63
  have hl2 := ht.len63
  go_enter Tryd.func41, Tryd.ntmps41
  go_wp2_with fail
  go_loop [3] (fun i => ∃ k : Nat, k ≤ x0b.length ∧ i = .int .i64 k ∧ outB (x0b.take k) 500 3000 = false) (fun i => x0b.length - (intOf i).toNat)
  case atStart => exact ⟨0, by omega, rfl, rfl⟩
  case round =>
    obtain ⟨k, hk, rfl, hno⟩ := hrel
    have Hno := Lib.hid hno
    clear hno
    by_cases hlt : k < x0b.length
    · obtain ⟨ad, hA, hab, hcell⟩ := hb.int hlt
      subst hA
      cases hin : inB x0b[k] 500 3000
      · have HV : Hid (vsB x0b x0t n0 = false) := Lib.hid (by simp [vsB, outB_hit hlt hin])
        go_wp2_with (go_at_call 34; refine (l00In_any _ _ _ _).mono ?_; rintro e w' ⟨rfl, rfl⟩)
        go_ret
        exact ⟨ret_bool HV.out.symm, rfl⟩
      · go_wp2_with (go_at_call 34; refine (l00In_any _ _ _ _).mono ?_; rintro e w' ⟨rfl, rfl⟩)
        go_round
        case rel => exact ⟨k + 1, by omega, by go_num, outB_snoc hlt Hno.out hin⟩
        case measure => simp [intOf]; omega
    · have HB : Hid (outB x0b 500 3000 = false) := Lib.hid (by have := Hno.out; rw [List.take_of_length_le (by omega)] at this; exact this)
      clear Hno
      go_wp2_with fail
      go_loop [4] (fun i => ∃ k : Nat, k ≤ x0t.length ∧ i = .int .i64 k ∧ outB (x0t.take k) 1000 2500 = false) (fun i => x0t.length - (intOf i).toNat)
      case atStart => exact ⟨0, by omega, rfl, rfl⟩
      case round =>
        obtain ⟨j, hj, rfl, hno⟩ := hrel
        have Hno := Lib.hid hno
        clear hno
        by_cases hlj : j < x0t.length
        · obtain ⟨ad, hA, hab, hcell⟩ := ht.int hlj
          subst hA
          cases hin : inB x0t[j] 1000 2500
          · have HV : Hid (vsB x0b x0t n0 = false) := Lib.hid (by simp [vsB, outB_hit hlj hin])
            go_wp2_with (go_at_call 34; refine (l00In_any _ _ _ _).mono ?_; rintro e w' ⟨rfl, rfl⟩)
            go_ret
            exact ⟨ret_bool HV.out.symm, rfl⟩
          · go_wp2_with (go_at_call 34; refine (l00In_any _ _ _ _).mono ?_; rintro e w' ⟨rfl, rfl⟩)
            go_round
            case rel => exact ⟨j + 1, by omega, by go_num, outB_snoc hlj Hno.out hin⟩
            case measure => simp [intOf]; omega
        · have HT : Hid (outB x0t 1000 2500 = false) := Lib.hid (by have := Hno.out; rw [List.take_of_length_le (by omega)] at this; exact this)
          clear Hno
          have HV : Hid (vsB x0b x0t n0 = (inB x0b.length 1 20 && inB x0t.length 1 12 && inB n0 1 10000)) := Lib.hid (by simp [vsB, HB.out, HT.out])
          cases h1 : inB x0b.length 1 20
          · go_wp2_with (go_at_call 34; refine (l00In_any _ _ _ _).mono ?_; rintro e w' ⟨rfl, rfl⟩)
            go_ret
            exact ⟨ret_bool (by rw [HV.out, h1]; rfl), rfl⟩
          · cases h2 : inB x0t.length 1 12
            · go_wp2_with (go_at_call 34; refine (l00In_any _ _ _ _).mono ?_; rintro e w' ⟨rfl, rfl⟩)
              go_ret
              exact ⟨ret_bool (by rw [HV.out, h1, h2]; rfl), rfl⟩
            · go_wp2_with (go_at_call 34; refine (l00In_any _ _ _ _).mono ?_; rintro e w' ⟨rfl, rfl⟩)
              go_ret
              exact ⟨ret_bool (by rw [HV.out, h1, h2]; rfl), rfl⟩

theorem specValidScaffold_any (A0b : Option Addr) (c0b : Nat) (x0b : List Int) (A0t : Option Addr) (c0t : Nat) (x0t : List Int) (n0 : Int) (w : World) (hb : Rd LI w w.heap.size A0b c0b x0b) (ht : Rd LI w w.heap.size A0t c0t x0t) :
    Calls Tryd.prog 24 #[.agg #[.slice A0b x0b.length c0b, .slice A0t x0t.length c0t, .int .i64 n0]] w fun e w' => e = .returned (.bool (vsB x0b x0t n0)) ∧ Below w.heap.size w w' := by
  go_enter Tryd.func24, Tryd.ntmps24
  go_wp2_with fail
  refine (l22Ok_any A0b c0b x0b A0t c0t x0t n0 w.heap.size _ (hb.al _) (ht.al _) (by go_simp) (by go_simp) (by go_simp)).mono ?_
  rintro e w1 ⟨rfl, rfl⟩
  go_wp2_with fail
  go_ret
  exact ⟨rfl, (Below.refl _ _).alloc (Nat.le_refl _) _⟩

def ssB (b t : List Int) (n : Int) (b2 t2 : List Int) (n2 : Int) : Bool := eqB b b2 && eqB t t2 && decide (n = n2)
set_option maxHeartbeats 1600000 in
theorem specSameScaffold_any (A0b : Option Addr) (c0b : Nat) (x0b : List Int) (A0t : Option Addr) (c0t : Nat) (x0t : List Int) (n0 : Int) (A1b : Option Addr) (c1b : Nat) (x1b : List Int) (A1t : Option Addr) (c1t : Nat) (x1t : List Int) (n1 : Int) (w : World) (hb : Rd LI w w.heap.size A0b c0b x0b) (ht : Rd LI w w.heap.size A0t c0t x0t) (hb' : Rd LI w w.heap.size A1b c1b x1b) (ht' : Rd LI w w.heap.size A1t c1t x1t) :
    Calls Tryd.prog 20 #[.agg #[.slice A0b x0b.length c0b, .slice A0t x0t.length c0t, .int .i64 n0], .agg #[.slice A1b x1b.length c1b, .slice A1t x1t.length c1t, .int .i64 n1]] w fun e w' => e = .returned (.bool (ssB x0b x0t n0 x1b x1t n1)) ∧ Below w.heap.size w w' := by
  have hl1 := hb.len63
  have hl2 := ht.len63
  cases h1 : eqB x0b x1b
  · have HV : Hid (ssB x0b x0t n0 x1b x1t n1 = false) := Lib.hid (by simp [ssB, h1])
    rw [HV.out]
    go_enter Tryd.func20, Tryd.ntmps20
    go_wp2_with fail
    have hc := l00Same_quiet A0b A1b c0b c1b x0b x1b _ _ ((hb.al (.cells #[.slice A0b x0b.length c0b, .slice A0t x0t.length c0t, .int .i64 n0] 26)).al (.cells #[.slice A1b x1b.length c1b, .slice A1t x1t.length c1t, .int .i64 n1] 26)) ((hb'.al _).al _)
    rw [h1] at hc
    refine hc.mono ?_
    rintro e w1 ⟨rfl, nq, rfl⟩
    go_wp2_with fail
    go_ret
    exact ⟨rfl, below_drewN (((Below.refl _ _).alloc (Nat.le_refl _) _).alloc (by simp) _) _⟩
  · cases h2 : eqB x0t x1t
    · have HV : Hid (ssB x0b x0t n0 x1b x1t n1 = false) := Lib.hid (by simp [ssB, h2])
      rw [HV.out]
      go_enter Tryd.func20, Tryd.ntmps20
      go_wp2_with fail
      have hc := l00Same_quiet A0b A1b c0b c1b x0b x1b _ _ ((hb.al (.cells #[.slice A0b x0b.length c0b, .slice A0t x0t.length c0t, .int .i64 n0] 26)).al (.cells #[.slice A1b x1b.length c1b, .slice A1t x1t.length c1t, .int .i64 n1] 26)) ((hb'.al _).al _)
      rw [h1] at hc
      refine hc.mono ?_
      rintro e w1 ⟨rfl, nq, rfl⟩
      go_wp2_with fail
      have hc2 := l00Same_quiet A0t A1t c0t c1t x0t x1t _ _ (((ht.al (.cells #[.slice A0b x0b.length c0b, .slice A0t x0t.length c0t, .int .i64 n0] 26)).al (.cells #[.slice A1b x1b.length c1b, .slice A1t x1t.length c1t, .int .i64 n1] 26)).drewN nq) (((ht'.al _).al _).drewN nq)
      rw [h2] at hc2
      refine hc2.mono ?_
      rintro e w1 ⟨rfl, nq2, rfl⟩
      go_wp2_with fail
      go_ret
      exact ⟨rfl, below_drewN (((Below.refl _ _).alloc (Nat.le_refl _) _).alloc (by simp) _) _⟩
    · have HV : Hid (ssB x0b x0t n0 x1b x1t n1 = decide (n0 = n1)) := Lib.hid (by simp [ssB, h1, h2])
      rw [HV.out]
      go_enter Tryd.func20, Tryd.ntmps20
      go_wp2_with fail
      have hc := l00Same_quiet A0b A1b c0b c1b x0b x1b _ _ ((hb.al (.cells #[.slice A0b x0b.length c0b, .slice A0t x0t.length c0t, .int .i64 n0] 26)).al (.cells #[.slice A1b x1b.length c1b, .slice A1t x1t.length c1t, .int .i64 n1] 26)) ((hb'.al _).al _)
      rw [h1] at hc
      refine hc.mono ?_
      rintro e w1 ⟨rfl, nq, rfl⟩
      go_wp2_with fail
      have hc2 := l00Same_quiet A0t A1t c0t c1t x0t x1t _ _ (((ht.al (.cells #[.slice A0b x0b.length c0b, .slice A0t x0t.length c0t, .int .i64 n0] 26)).al (.cells #[.slice A1b x1b.length c1b, .slice A1t x1t.length c1t, .int .i64 n1] 26)).drewN nq) (((ht'.al _).al _).drewN nq)
      rw [h2] at hc2
      refine hc2.mono ?_
      rintro e w1 ⟨rfl, nq2, rfl⟩
      go_wp2_with fail
      go_ret
      exact ⟨ret_bool rfl, below_drewN (((Below.refl _ _).alloc (Nat.le_refl _) _).alloc (by simp) _) _⟩
set_option maxHeartbeats 1600000 in
theorem implSameScaffold_any (A0b : Option Addr) (c0b : Nat) (x0b : List Int) (A0t : Option Addr) (c0t : Nat) (x0t : List Int) (n0 : Int) (A1b : Option Addr) (c1b : Nat) (x1b : List Int) (A1t : Option Addr) (c1t : Nat) (x1t : List Int) (n1 : Int) (w : World) (hb : Rd LI w w.heap.size A0b c0b x0b) (ht : Rd LI w w.heap.size A0t c0t x0t) (hb' : Rd LI w w.heap.size A1b c1b x1b) (ht' : Rd LI w w.heap.size A1t c1t x1t) :
    Calls Tryd.prog 19 #[.agg #[.slice A0b x0b.length c0b, .slice A0t x0t.length c0t, .int .i64 n0], .agg #[.slice A1b x1b.length c1b, .slice A1t x1t.length c1t, .int .i64 n1]] w fun e w' => e = .returned (.bool (ssB x0b x0t n0 x1b x1t n1)) ∧ Below w.heap.size w w' := by
  have hl1 := hb.len63
  have hl2 := ht.len63
  cases h1 : eqB x0b x1b
  · have HV : Hid (ssB x0b x0t n0 x1b x1t n1 = false) := Lib.hid (by simp [ssB, h1])
    rw [HV.out]
    go_enter Tryd.func19, Tryd.ntmps19
    go_wp2_with fail
    have hc := slicesEqual_quiet A0b A1b c0b c1b x0b x1b _ _ ((hb.al (.cells #[.slice A0b x0b.length c0b, .slice A0t x0t.length c0t, .int .i64 n0] 26)).al (.cells #[.slice A1b x1b.length c1b, .slice A1t x1t.length c1t, .int .i64 n1] 26)) ((hb'.al _).al _)
    rw [h1] at hc
    refine hc.mono ?_
    rintro e w1 ⟨rfl, nq, rfl⟩
    go_wp2_with fail
    go_ret
    exact ⟨rfl, below_drewN (((Below.refl _ _).alloc (Nat.le_refl _) _).alloc (by simp) _) _⟩
  · cases h2 : eqB x0t x1t
    · have HV : Hid (ssB x0b x0t n0 x1b x1t n1 = false) := Lib.hid (by simp [ssB, h2])
      rw [HV.out]
      go_enter Tryd.func19, Tryd.ntmps19
      go_wp2_with fail
      have hc := slicesEqual_quiet A0b A1b c0b c1b x0b x1b _ _ ((hb.al (.cells #[.slice A0b x0b.length c0b, .slice A0t x0t.length c0t, .int .i64 n0] 26)).al (.cells #[.slice A1b x1b.length c1b, .slice A1t x1t.length c1t, .int .i64 n1] 26)) ((hb'.al _).al _)
      rw [h1] at hc
      refine hc.mono ?_
      rintro e w1 ⟨rfl, nq, rfl⟩
      go_wp2_with fail
      have hc2 := slicesEqual_quiet A0t A1t c0t c1t x0t x1t _ _ (((ht.al (.cells #[.slice A0b x0b.length c0b, .slice A0t x0t.length c0t, .int .i64 n0] 26)).al (.cells #[.slice A1b x1b.length c1b, .slice A1t x1t.length c1t, .int .i64 n1] 26)).drewN nq) (((ht'.al _).al _).drewN nq)
      rw [h2] at hc2
      refine hc2.mono ?_
      rintro e w1 ⟨rfl, nq2, rfl⟩
      go_wp2_with fail
      go_ret
      exact ⟨rfl, below_drewN (((Below.refl _ _).alloc (Nat.le_refl _) _).alloc (by simp) _) _⟩
    · have HV : Hid (ssB x0b x0t n0 x1b x1t n1 = decide (n0 = n1)) := Lib.hid (by simp [ssB, h1, h2])
      rw [HV.out]
      go_enter Tryd.func19, Tryd.ntmps19
      go_wp2_with fail
      have hc := slicesEqual_quiet A0b A1b c0b c1b x0b x1b _ _ ((hb.al (.cells #[.slice A0b x0b.length c0b, .slice A0t x0t.length c0t, .int .i64 n0] 26)).al (.cells #[.slice A1b x1b.length c1b, .slice A1t x1t.length c1t, .int .i64 n1] 26)) ((hb'.al _).al _)
      rw [h1] at hc
      refine hc.mono ?_
      rintro e w1 ⟨rfl, nq, rfl⟩
      go_wp2_with fail
      have hc2 := slicesEqual_quiet A0t A1t c0t c1t x0t x1t _ _ (((ht.al (.cells #[.slice A0b x0b.length c0b, .slice A0t x0t.length c0t, .int .i64 n0] 26)).al (.cells #[.slice A1b x1b.length c1b, .slice A1t x1t.length c1t, .int .i64 n1] 26)).drewN nq) (((ht'.al _).al _).drewN nq)
      rw [h2] at hc2
      refine hc2.mono ?_
      rintro e w1 ⟨rfl, nq2, rfl⟩
      go_wp2_with fail
      go_ret
      exact ⟨ret_bool rfl, below_drewN (((Below.refl _ _).alloc (Nat.le_refl _) _).alloc (by simp) _) _⟩
end Go.Proofs.YtamhkiakplmlmaaDoor
