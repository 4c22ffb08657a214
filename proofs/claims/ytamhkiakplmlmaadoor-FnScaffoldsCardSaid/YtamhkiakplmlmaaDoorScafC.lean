/-
  Scaffolds: what stands on them, the spec's side.
-/
import Derived.Test.YtamhkiakplmlmaaDoorScafB
import Derived.Deep.QuietTactic
import Derived.BigQuiet
namespace Go.Proofs.YtamhkiakplmlmaaDoor
open Go.ChangeShapes Go.WideShapes Go.RowKit

theorem sc_hit {b t : List Int} {ss : List StandD} {k : Nat} (h : k < ss.length) (hk : stOk b t ss[k] = false) : scB b t ss = false := by
  have : ss.any (fun x => !stOk b t x) = true := List.any_eq_true.2 ⟨ss[k], List.getElem_mem h, by rw [hk]; rfl⟩
  simp [scB, this]
theorem sc_step {b t : List Int} {ss : List StandD} {k : Nat} (h : k < ss.length) (h0 : (ss.take k).any (fun x => !stOk b t x) = false) (hk : stOk b t ss[k] = true) : (ss.take (k + 1)).any (fun x => !stOk b t x) = false := by
  rw [List.take_succ_eq_append_getElem h, List.any_append, h0]
  simp [hk]

set_option maxRecDepth 100000 in
set_option maxHeartbeats 3200000 in
theorem l22Stands_any (A0b : Option Addr) (c0b : Nat) (x0b : List Int) (A0t : Option Addr) (c0t : Nat) (x0t : List Int) (n0 : Int) (As : Option Addr) (cs : Nat) (ss : List StandD) (g : Nat) (w : World) (hb : Rd LI w w.heap.size A0b c0b x0b) (ht : Rd LI w w.heap.size A0t c0t x0t) (hs : Rd LStand w w.heap.size As cs ss)
    (hc0 : w.cell? ⟨g, 0, none⟩ = some (.slice A0b x0b.length c0b)) (hc1 : w.cell? ⟨g, 1, none⟩ = some (.slice A0t x0t.length c0t)) (hc2 : w.cell? ⟨g, 2, none⟩ = some (.int .i64 n0)) :
    Calls Tryd.prog 33 #[.pointer (some ⟨g, 0, none⟩), .slice As ss.length cs] w fun e w' => e = .returned (.int .i64 (scC x0b x0t n0 ss)) ∧ Dr w w' := by
  have hl1 := hb.len63
  have hl2 := ht.len63
  have hl3 := hs.len63
  have hcc := l22Ok_any A0b c0b x0b A0t c0t x0t n0 g w hb ht hc0 hc1 hc2
  cases hv : vsB x0b x0t n0
  · have HP : Hid (scC x0b x0t n0 ss = 1) := Lib.hid (by simp [scC, hv])
    rw [hv] at hcc
    go_enter Tryd.func33, Tryd.ntmps33
    go_wp2_with fail
    refine hcc.mono ?_
    rintro e w1 ⟨rfl, rfl⟩
    go_wp2_with fail
    go_ret
    exact ⟨ret_int HP.out.symm, Dr.refl _⟩
  · rw [hv] at hcc
    have Hv := Lib.hid hv
    clear hv
    go_enter Tryd.func33, Tryd.ntmps33
    go_wp2_with fail
    refine hcc.mono ?_
    rintro e w1 ⟨rfl, rfl⟩
    clear hcc
    go_wp2_with fail
    go_loopw [5] (fun i wr => ∃ k : Nat, k ≤ ss.length ∧ i = .int .i64 k ∧ Hid ((ss.take k).any (fun x => !stOk x0b x0t x) = false) ∧ Dr w wr) (fun i _ => ss.length - (intOf i).toNat)
    case atStart => exact ⟨0, by omega, rfl, Lib.hid rfl, Dr.refl _⟩
    case round =>
      obtain ⟨k, hk, rfl, Hno, hdr⟩ := hrel
      have d0 : wr.cell? ⟨g, 0, none⟩ = some (.slice A0b x0b.length c0b) := by obtain ⟨n, rfl⟩ := hdr; simpa using hc0
      have d1 : wr.cell? ⟨g, 1, none⟩ = some (.slice A0t x0t.length c0t) := by obtain ⟨n, rfl⟩ := hdr; simpa using hc1
      by_cases hlt : k < ss.length
      · obtain ⟨ad, rfl, hab, e0, e1, e2⟩ := rdStand (hs.below hdr.below) hlt
        have hk0 : (k : Int) < ss.length := by omega
        have i1 := l00In_any ss[k].1 0 ((x0b.length : Int) - 1)
        have i2 := l00In_any ss[k].2.1 0 ((x0t.length : Int) - 1)
        have i3 := l00In_any ss[k].2.2 0 10000
        cases h1 : inB ss[k].1 0 ((x0b.length : Int) - 1)
        · have HP : Hid (scC x0b x0t n0 ss = 2) := Lib.hid (by simp only [scC, Hv.out, sc_hit hlt (show stOk x0b x0t ss[k] = false by simp [stOk, h1])]; simp)
          rw [h1] at i1
          go_wp2_with fail
          go_quiet (first | (go_at_call 34; with_reducible exact quiet_left (i1 _)))
          go_wp2_with fail
          go_ret
          exact ⟨ret_int HP.out.symm, hdr.step _⟩
        · rw [h1] at i1
          cases h2 : inB ss[k].2.1 0 ((x0t.length : Int) - 1)
          · have HP : Hid (scC x0b x0t n0 ss = 2) := Lib.hid (by simp only [scC, Hv.out, sc_hit hlt (show stOk x0b x0t ss[k] = false by simp [stOk, h1, h2])]; simp)
            rw [h2] at i2
            go_wp2_with fail
            go_quiet (first | (go_at_call 34; with_reducible exact quiet_left (i1 _)) | (go_at_call 34; with_reducible exact quiet_left (i2 _)))
            go_wp2_with fail
            go_ret
            exact ⟨ret_int HP.out.symm, hdr.step _⟩
          · rw [h2] at i2
            cases h3 : inB ss[k].2.2 0 10000
            · have HP : Hid (scC x0b x0t n0 ss = 2) := Lib.hid (by simp only [scC, Hv.out, sc_hit hlt (show stOk x0b x0t ss[k] = false by simp [stOk, h1, h2, h3])]; simp)
              rw [h3] at i3
              go_wp2_with fail
              go_quiet (first | (go_at_call 34; with_reducible exact quiet_left (i1 _)) | (go_at_call 34; with_reducible exact quiet_left (i2 _)) | (go_at_call 34; with_reducible exact quiet_left (i3 _)))
              go_wp2_with fail
              go_ret
              exact ⟨ret_int HP.out.symm, hdr.step _⟩
            · have HS := Lib.hid (sc_step hlt Hno.out (show stOk x0b x0t ss[k] = true by simp [stOk, h1, h2, h3]))
              rw [h3] at i3
              go_wp2_with fail
              go_quiet (first | (go_at_call 34; with_reducible exact quiet_left (i1 _)) | (go_at_call 34; with_reducible exact quiet_left (i2 _)) | (go_at_call 34; with_reducible exact quiet_left (i3 _)))
              go_wp2_with fail
              go_roundw
              case rel => exact ⟨k + 1, by omega, by go_num, HS, hdr.step _⟩
              case measure => simp [intOf]; omega
      · have HA : Hid (ss.any (fun x => !stOk x0b x0t x) = false) := Lib.hid (by have := Hno.out; rw [List.take_of_length_le (by omega)] at this; exact this)
        by_cases hn : ss.length ≤ 100
        · have HP : Hid (scC x0b x0t n0 ss = 0) := Lib.hid (by simp only [scC, Hv.out, scB, HA.out, hn]; simp)
          go_wp2_with fail
          go_ret
          exact ⟨ret_int HP.out.symm, hdr⟩
        · have HP : Hid (scC x0b x0t n0 ss = 2) := Lib.hid (by simp only [scC, Hv.out, scB, HA.out, hn]; simp)
          go_wp2_with fail
          go_ret
          exact ⟨ret_int HP.out.symm, hdr⟩

set_option maxHeartbeats 800000 in
theorem l22Weight_any (As : Option Addr) (cs : Nat) (ss : List StandD) (bay tier : Int) (B : Nat) (w : World) (hs : Rd LStand w B As cs ss) (h : ∀ x ∈ ss, 0 ≤ x.2.2 ∧ x.2.2 ≤ 10000) (hn : ss.length ≤ 100) :
    Calls Tryd.prog 36 #[.slice As ss.length cs, .int .i64 bay, .int .i64 tier] w fun e w' => e = .returned (.int .i64 (wt ss tier bay)) ∧ w = w' := by
  go_enter Tryd.func36, Tryd.ntmps36
  go_wp2_with fail
  go_loop [7, 8] (fun s i => ∃ k : Nat, k ≤ ss.length ∧ i = .int .i64 k ∧ s = .int .i64 (wt (ss.take k) tier bay)) (fun _ i => ss.length - (intOf i).toNat)
  case atStart => exact ⟨0, by omega, rfl, rfl⟩
  case round =>
    obtain ⟨k, hk, rfl, rfl⟩ := hrel
    obtain ⟨b0, b1⟩ := wt_bd h hn tier bay k
    by_cases hlt : k < ss.length
    · obtain ⟨ad, rfl, hab, hc0, hc1, hc2⟩ := rdStand hs hlt
      obtain ⟨hx0, hx1⟩ := h _ (List.getElem_mem hlt)
      have HS := Lib.hid (wt_succ ss tier bay hlt)
      cases h2 : (ss[k].1 == bay)
      · go_wp2_with fail
        go_round
        case rel => exact ⟨k + 1, by omega, by go_num, by rw [HS.out, h2]; simp⟩
        case measure => simp [intOf]; omega
      · cases h1 : (ss[k].2.1 == tier)
        · go_wp2_with fail
          go_round
          case rel => exact ⟨k + 1, by omega, by go_num, by rw [HS.out, h1]; simp⟩
          case measure => simp [intOf]; omega
        · go_wp2_with fail
          go_round
          case rel => exact ⟨k + 1, by omega, by go_num, by rw [HS.out, h1, h2]; simp⟩
          case measure => simp [intOf]; omega
    · go_wp2_with fail
      go_ret
      exact ⟨ret_int (by rw [List.take_of_length_le (by omega)]), rfl⟩
end Go.Proofs.YtamhkiakplmlmaaDoor
