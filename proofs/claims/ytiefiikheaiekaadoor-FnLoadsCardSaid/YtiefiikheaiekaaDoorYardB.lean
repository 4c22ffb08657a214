/-
  Yards: the small searches (l00Has, slices.Index, slices.Contains), slices.Compact's length.
-/
import Derived.Test.YtiefiikheaiekaaDoorNumSS
import Derived.Test.YtiefiikheaiekaaDoorSteps
import Derived.Test.YtiefiikheaiekaaDoorConcat
import Derived.Test.YtiefiikheaiekaaDoorYardPlain
import Derived.Deep.QuietTactic
import Derived.BigQuiet
namespace Go.Proofs.YtiefiikheaiekaaDoor
open Go.ChangeShapes Go.WideShapes Go.RowKit

theorem take_no {xs : List Int} {p : Int} {k : Nat} (h : k < xs.length) (h1 : ∀ y ∈ xs.take k, (y == p) = false) (h2 : (xs[k] == p) = false) : ∀ y ∈ xs.take (k + 1), (y == p) = false := by
  rw [List.take_succ_eq_append_getElem h]
  intro y hy
  rcases List.mem_append.1 hy with hy | hy
  · exact h1 y hy
  · simp at hy; rw [hy]; exact h2
theorem l00Has_any (A : Option Addr) (c : Nat) (xs : List Int) (p : Int) (B : Nat) (w : World) (hr : Rd LI w B A c xs) :
    Calls Tryd.prog 73 #[.slice A xs.length c, .int .i64 p] w fun e w' => e = .returned (.bool (hasB xs p)) ∧ w = w' := by
  have hlen := hr.len63
  go_enter Tryd.func73, Tryd.ntmps73
  go_wp2_with fail
  go_loop [5] (fun i => ∃ k : Nat, k ≤ xs.length ∧ i = .int .i64 k ∧ Hid (∀ y ∈ xs.take k, (y == p) = false)) (fun i => xs.length - (intOf i).toNat)
  case atStart => exact ⟨0, by omega, rfl, Lib.hid (by simp)⟩
  case round =>
    obtain ⟨k, hk, rfl, HN⟩ := hrel
    by_cases hlt : k < xs.length
    · obtain ⟨ad, rfl, _, hc⟩ := hr.int hlt
      have hki : (k : Int) < xs.length := by omega
      cases hb : (xs[k] == p)
      · have HN2 := Lib.hid (take_no hlt HN.out hb)
        go_wp2_with fail
        go_round
        case rel => exact ⟨k + 1, by omega, by go_num, HN2⟩
        case measure => simp [intOf]; omega
      · have HR : Hid (hasB xs p = true) := Lib.hid (List.any_eq_true.2 ⟨xs[k], List.getElem_mem _, hb⟩)
        go_wp2_with fail
        go_ret
        exact ⟨ret_bool HR.out.symm, rfl⟩
    · obtain rfl : k = xs.length := by omega
      have HR : Hid (hasB xs p = false) := Lib.hid (by
        have := HN.out
        rw [List.take_of_length_le (Nat.le_refl _)] at this
        unfold hasB
        rw [List.any_eq_false]
        intro y hy
        simp [this y hy])
      go_wp2_with fail
      go_ret
      exact ⟨ret_bool HR.out.symm, rfl⟩
theorem slicesIndex_any (A : Option Addr) (c : Nat) (xs : List Int) (p : Int) (B : Nat) (w : World) (hr : Rd LI w B A c xs) :
    Calls Tryd.prog 37 #[.slice A xs.length c, .int .i64 p] w fun e w' => e = .returned (.int .i64 (fIdx (fun x => x == p) xs)) ∧ Dr w w' := by
  have hlen := hr.len63
  go_enter Tryd.func37, Tryd.ntmps37
  go_wp2_with fail
  go_loopw [5, 8] (fun i j wr => ∃ k : Nat, k ≤ xs.length ∧ j = .int .i64 k ∧ Hid (∀ y ∈ xs.take k, (y == p) = false) ∧ Hid (Dr w wr)) (fun _ j _ => xs.length - (intOf j).toNat)
  case atStart => exact ⟨0, by omega, rfl, Lib.hid (by simp), Lib.hid (Dr.refl _)⟩
  case round =>
    obtain ⟨k, hk, rfl, HN, HD⟩ := hrel
    by_cases hlt : k < xs.length
    · obtain ⟨ad, rfl, _, hc⟩ := (hr.below HD.out.below).int hlt
      have hki : (k : Int) < xs.length := by omega
      cases hb : (xs[k] == p)
      · have hb2 : (p == xs[k]) = false := by rw [beq_eq_false_iff_ne] at hb ⊢; exact fun e => hb e.symm
        have HN2 := Lib.hid (take_no hlt HN.out hb)
        go_wp2_with fail
        try go_quiet (fail)
        try go_wp2_with fail
        go_roundw
        case rel => exact ⟨k + 1, by omega, by go_num, HN2, by first | exact HD | exact Lib.hid (HD.out.step _)⟩
        case measure => simp [intOf]; omega
      · have hb2 : (p == xs[k]) = true := by rw [beq_iff_eq] at hb ⊢; exact hb.symm
        have HR : Hid (fIdx (fun x => x == p) xs = k) := Lib.hid (fIdx_hit hlt HN.out hb)
        go_wp2_with fail
        try go_quiet (fail)
        try go_wp2_with fail
        go_ret
        exact ⟨ret_int HR.out.symm, by first | exact HD.out | exact HD.out.step _⟩
    · obtain rfl : k = xs.length := by omega
      have HR : Hid (fIdx (fun x => x == p) xs = -1) := Lib.hid (fIdx_none (by
        have := HN.out
        rw [List.take_of_length_le (Nat.le_refl _)] at this
        exact this))
      go_wp2_with fail
      go_ret
      exact ⟨ret_int HR.out.symm, HD.out⟩
set_option maxRecDepth 100000 in
set_option maxHeartbeats 3200000 in
theorem compact_any (A : Option Addr) (c : Nat) (xs : List Int) (base : Nat) (w : World) (ho : Own LI 2 w base A c xs) (hbase : base ≤ w.heap.size) :
    Calls Tryd.prog 67 #[.slice A xs.length c] w fun e w' => ∃ A' n' c', e = .returned (.slice A' n' c') ∧ (AdjN xs → n' = xs.length) ∧ (¬ AdjN xs → n' < xs.length) ∧ Below base w w' := by
  have hlen := ho.len63
  have HO := Lib.hid ho
  have hcap := ho.le
  have hcap2 := ho.cap
  unfold maxLen at hcap2
  clear ho
  by_cases hl2 : xs.length < 2
  · have HA : Hid (AdjN xs) := Lib.hid (fun k hk => by omega)
    have hl2i : (xs.length : Int) < 2 := by omega
    go_enter Tryd.func67, Tryd.ntmps67
    go_wp2_with fail
    go_ret
    exact ⟨A, xs.length, c, rfl, fun _ => rfl, fun h => absurd HA.out h, Below.refl _ _⟩
  · obtain ⟨g, rfl, hg1, hg2⟩ := HO.out.ptr (by omega)
    have hl3 : 2 ≤ xs.length := by omega
    have hl3i : (2 : Int) ≤ xs.length := by omega
    have HZ0 : Hid (∀ w, (zeroValue 2).run Tryd.prog w = .ok (.int .i64 0) w) := Lib.hid (fun w => by kernel_rfl)
    clear hl2
    go_enter Tryd.func67, Tryd.ntmps67
    go_wp2_with fail
    go_loopw [3] (fun i wr => ∃ k : Nat, 1 ≤ k ∧ k ≤ xs.length ∧ i = .int .i64 k ∧ Hid (∀ q (h : q + 1 < xs.length), q + 1 < k → xs[q] ≠ xs[q + 1]) ∧ Hid (Dr w wr)) (fun i _ => xs.length - (intOf i).toNat)
    case atStart => exact ⟨1, by omega, by omega, rfl, Lib.hid (fun q _ h => by omega), Lib.hid (Dr.refl _)⟩
    case round =>
      obtain ⟨k, hk1, hk, rfl, HN, HD⟩ := hrel
      have HO1 := Lib.hid (HO.out.below HD.out.below)
      by_cases hlt : k < xs.length
      · have hki : (k : Int) < xs.length := by omega
        obtain ⟨g', hg', _, _, hc1, _⟩ := HO1.out.int (k := k) hlt
        cases hg'
        obtain ⟨g', hg', _, _, hc2, _⟩ := HO1.out.int (k := k - 1) (by omega)
        cases hg'
        have ht : ((k : Int) - 1).toNat = k - 1 := by omega
        have hp0 : (0 : Int) ≤ (k : Int) - 1 := by omega
        have hp1 : (k : Int) - 1 < xs.length := by omega
        have hpw : IntKind.i64.wrap ((k : Int) - 1) = (k : Int) - 1 := wrapS (by omega) (by omega)
        by_cases he : xs[k] = xs[k - 1]
        · have hb : (xs[k] == xs[k - 1]) = true := by simpa using he
          have HA : Hid (¬ AdjN xs) := Lib.hid (fun h => h (k - 1) (by omega) (by
            rw [← he]
            congr 1
            omega))
          clear he
          generalize xs[k] = x at *
          generalize xs[k - 1] = y at *
          have hkc : (k : Int) ≤ c := by omega
          go_wp2_with fail
          go_quiet (fail)
          go_wp2_with fail
          go_loopw [3, 5] (fun a b wx => ∃ (kk k2 : Nat) (D : List Int), a = .int .i64 kk ∧ b = .int .i64 k2 ∧ 1 ≤ k2 ∧ k + k2 ≤ xs.length ∧ kk < k + k2 ∧ Hid (D.length = xs.length) ∧ Hid (Own LI 2 wx base (some ⟨g, 0, none⟩) c D) ∧ Hid (Below base w wx)) (fun _ b _ => xs.length - (intOf b).toNat)
          case atStart => exact ⟨k, 1, xs, rfl, rfl, by omega, by omega, by omega, Lib.hid rfl, Lib.hid (HO1.out.drewN _), Lib.hid (below_drewN HD.out.below _)⟩
          case round =>
            obtain ⟨kk, k2, D, rfl, rfl, h21, hkk2, hkk, HL, HOx, HBx⟩ := hrel
            by_cases hlt2 : k2 < xs.length - k
            · have hlt2i : (k2 : Int) < (xs.length - k : Nat) := by omega
              have hlt2j : (k2 : Int) < (xs.length : Int) - (k : Int) := by omega
              obtain ⟨g', hg', _, _, hcu, _⟩ := HOx.out.int (k := k + k2) (by rw [HL.out]; omega)
              cases hg'
              obtain ⟨g', hg', _, _, hcv, _⟩ := HOx.out.int (k := k + (k2 - 1)) (by rw [HL.out]; omega)
              cases hg'
              obtain ⟨g', hg', _, _, hck, hfk⟩ := HOx.out.int (k := kk) (by rw [HL.out]; omega)
              cases hg'
              have ht2 : ((k2 : Int) - 1).toNat = k2 - 1 := by omega
              have hp20 : (0 : Int) ≤ (k2 : Int) - 1 := by omega
              have hp21 : (k2 : Int) - 1 < (xs.length - k : Nat) := by omega
              have hp22 : (k2 : Int) - 1 < (xs.length : Int) - (k : Int) := by omega
              have hpw2 : IntKind.i64.wrap ((k2 : Int) - 1) = (k2 : Int) - 1 := wrapS (by omega) (by omega)
              have hkki : (kk : Int) < xs.length := by omega
              obtain ⟨u, hu⟩ : ∃ u, u = D[k + k2]'(by rw [HL.out]; omega) := ⟨_, rfl⟩
              obtain ⟨v, hv⟩ : ∃ v, v = D[k + (k2 - 1)]'(by rw [HL.out]; omega) := ⟨_, rfl⟩
              obtain ⟨z, hz⟩ : ∃ z, z = D[kk]'(by rw [HL.out]; omega) := ⟨_, rfl⟩
              rw [← hu] at hcu
              rw [← hv] at hcv
              rw [← hz] at hck
              clear hu hv hz
              by_cases huv : u = v
              · have hne : (u != v) = false := by simpa using huv
                have HUV := Lib.hid huv
                clear huv
                go_wp2_with fail
                go_quiet (fail)
                go_wp2_with fail
                go_roundw
                case rel => exact ⟨kk, k2 + 1, D, rfl, by go_num, by omega, by omega, by omega, HL, Lib.hid (HOx.out.drewN _), Lib.hid (below_drewN HBx.out _)⟩
                case measure => simp [intOf]; omega
              · have hne : (u != v) = true := by simpa using huv
                have HO9 := Lib.hid (HOx.out.setInt kk u)
                have HB9 := Lib.hid (fun m : Nat => (below_drewN HBx.out m).setCell (p := ⟨g, kk, none⟩) (by exact hg1) (.int .i64 u))
                go_wp2_with fail
                go_quiet (fail)
                go_wp2_with fail
                go_roundw
                case rel => exact ⟨kk + 1, k2 + 1, D.set kk u, by go_num, by go_num, by omega, by omega, by omega, Lib.hid (by rw [List.length_set]; exact HL.out), Lib.hid (HO9.out.drewN 1), Lib.hid (HB9.out _)⟩
                case measure => simp [intOf]; omega
            · have hke : k + k2 = xs.length := by omega
              have hkkl : kk < xs.length := by omega
              have hkki : (kk : Int) < xs.length := by omega
              have hkkc : (kk : Int) ≤ c := by omega
              have hkkj : (kk : Int) ≤ xs.length := by omega
              have hzero : ∀ ty, (Builtin.clear_ #[23] ty #[.slice (some ⟨g, kk, none⟩) (xs.length - kk) (c - kk)]).run Tryd.prog wr = .ok (.tuple #[]) (wr.setCells g kk (List.replicate (xs.length - kk) (.int .i64 0))) :=
                fun ty => Lib.run_clear_slice wr _ _ ty _ Tryd.underlying23 HZ0.out rfl rfl g kk _ _ (by omega) (fun q hq => by
                  obtain ⟨g', hg', _, _, hcq, _⟩ := HOx.out.int (k := kk + q) (by rw [HL.out]; omega)
                  cases hg'
                  rw [hcq]; rfl) (fun q hq => by
                  obtain ⟨g', hg', _, _, _, hfq⟩ := HOx.out.int (k := kk + q) (by rw [HL.out]; omega)
                  cases hg'
                  exact hfq)
              have hge : ((xs.length - k : Nat) : Int) ≤ k2 := by omega
              have hge2 : (xs.length : Int) - (k : Int) ≤ k2 := by omega
              have hge3 : xs.length - k ≤ k2 := by omega
              go_wp2_with fail
              go_ret
              exact ⟨some ⟨g, 0, none⟩, kk, c, rfl, fun h => absurd h HA.out, fun _ => hkkl, below_setCells hg1 _ _ _ HBx.out⟩
        · have hb : (xs[k] == xs[k - 1]) = false := by simpa using he
          have HE := Lib.hid he
          obtain ⟨x, hx⟩ : ∃ x, x = xs[k] := ⟨_, rfl⟩
          obtain ⟨y, hy⟩ : ∃ y, y = xs[k - 1] := ⟨_, rfl⟩
          rw [← hx] at hc1 hb
          rw [← hy] at hc2 hb
          have HX := Lib.hid hx.symm
          have HY := Lib.hid hy.symm
          clear hx hy
          go_wp2_with fail
          go_quiet (fail)
          go_wp2_with fail
          go_roundw
          case rel =>
            refine ⟨k + 1, by omega, by omega, by go_num, Lib.hid (fun q hq hqk => ?_), Lib.hid (HD.out.step _)⟩
            by_cases e : q + 1 = k
            · subst e
              intro e2
              apply HE.out
              exact e2.symm
            · exact HN.out q hq (by omega)
          case measure => simp [intOf]; omega
      · obtain rfl : k = xs.length := by omega
        have HA : Hid (AdjN xs) := Lib.hid (fun q hq => HN.out q hq hq)
        go_wp2_with fail
        go_ret
        exact ⟨_, xs.length, c, rfl, fun _ => rfl, fun h => absurd HA.out h, HD.out.below⟩
end Go.Proofs.YtiefiikheaiekaaDoor
