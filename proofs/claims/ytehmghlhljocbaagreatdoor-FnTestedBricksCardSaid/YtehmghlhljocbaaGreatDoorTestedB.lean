/-
  Tested bricks: the fault, ClassFault.
-/
import Derived.Test.YtehmghlhljocbaaGreatDoorTested
import Derived.Deep.RegionHeld3
namespace Go.Proofs.YtehmghlhljocbaaGreatDoor
open Go.ChangeShapes Go.WideShapes Go.RowKit

theorem wrap_ok {n : Int} (h0 : -9223372036854775808 ≤ n) (h1 : n ≤ 9223372036854775807) : IntKind.i64.wrap n = n := by
  rw [show IntKind.i64.wrap n = (n + 9223372036854775808) % 18446744073709551616 - 9223372036854775808 by simp [IntKind.wrap, IntKind.bits, IntKind.signed]; try omega]
  omega
theorem ret_str {a b : ByteArray} (h : a = b) : Ending.returned (.string a) = .returned (.string b) := by rw [h]
theorem classFault1_any (f0 f1 c2 : Int) (g : Nat) (w : World) (hg : g < w.heap.size) (hc : w.cell? ⟨g, 2, none⟩ = some (.int .i64 c2)) :
    Calls Tryz.prog 69 #[.agg #[.int .i64 f0, .int .i64 f1], .pointer (some ⟨g, 0, none⟩)] w fun e w' => e = .returned (.bool (decide (f0 < c2))) ∧ Below w.heap.size w w' := by
  have hb0 := (Below.refl w.heap.size w).alloc (Nat.le_refl _) (.cells #[.int .i64 f0, .int .i64 f1] 54)
  go_enter Tryz.func69, Tryz.ntmps69
  go_wp2_with fail
  go_ret
  exact ⟨rfl, hb0⟩
theorem classFault2_any (f0 f1 c3 : Int) (g : Nat) (w : World) (hg : g < w.heap.size) (hc : w.cell? ⟨g, 3, none⟩ = some (.int .i64 c3)) :
    Calls Tryz.prog 70 #[.agg #[.int .i64 f0, .int .i64 f1], .pointer (some ⟨g, 0, none⟩)] w fun e w' => e = .returned (.bool (decide (c3 < f1))) ∧ Below w.heap.size w w' := by
  have hb0 := (Below.refl w.heap.size w).alloc (Nat.le_refl _) (.cells #[.int .i64 f0, .int .i64 f1] 54)
  go_enter Tryz.func70, Tryz.ntmps70
  go_wp2_with fail
  go_ret
  exact ⟨rfl, hb0⟩
theorem eg_classFault1 : ∀ args w, (callFunc 69 args).run Tryz.prog w = .ok (.enter 69 args) w := by
  intro args w
  kernel_rfl
theorem eg_classFault2 : ∀ args w, (callFunc 70 args).run Tryz.prog w = .ok (.enter 70 args) w := by
  intro args w
  kernel_rfl

set_option maxHeartbeats 1600000 in
theorem classFault_any (A : Option Addr) (c : Nat) (xs : List TestedD) (f0 : ByteArray) (f1 f2 f3 : Int) (w : World) (hr : Rd LTested w w.heap.size A c xs) (hv : vtB xs = true) (hk : clOk (f0, f1, f2, f3) = true) :
    Calls Tryz.prog 38 #[.slice A xs.length c, .agg #[.string f0, .int .i64 f1, .int .i64 f2, .int .i64 f3]] w fun e w' => e = .returned (.string (cfT xs (f0, f1, f2, f3))) ∧ Below w.heap.size w w' := by
  have hlen := hr.len63
  obtain ⟨hl20, hpt⟩ := vt_parts hv
  obtain ⟨_, ⟨hm0, hm1⟩, ⟨he0, he1⟩, hw0, hw1⟩ := clOk_parts hk
  obtain ⟨hp0, hp1⟩ := mul_bd hm0 hm1 hl20
  obtain ⟨hs0, hs1⟩ := stg_bd hv xs.length
  rw [List.take_of_length_le (Nat.le_refl _)] at hs0 hs1
  simp only at hm0 hm1 he0 he1 hw0 hw1 hp0 hp1
  have hwr : IntKind.i64.wrap (f1 * (xs.length : Int)) = f1 * (xs.length : Int) := wrap_ok (by omega) (by omega)
  clear hpt
  have hb0 := (Below.refl w.heap.size w).alloc (Nat.le_refl _) (.cells #[.string f0, .int .i64 f1, .int .i64 f2, .int .i64 f3] 37)
  have k1 : (w.alloc (.cells #[.string f0, .int .i64 f1, .int .i64 f2, .int .i64 f3] 37)).cell? ⟨w.heap.size, 1, none⟩ = some (.int .i64 f1) := by go_simp
  have k2 : (w.alloc (.cells #[.string f0, .int .i64 f1, .int .i64 f2, .int .i64 f3] 37)).cell? ⟨w.heap.size, 2, none⟩ = some (.int .i64 f2) := by go_simp
  have k3 : (w.alloc (.cells #[.string f0, .int .i64 f1, .int .i64 f2, .int .i64 f3] 37)).cell? ⟨w.heap.size, 3, none⟩ = some (.int .i64 f3) := by go_simp
  have hz : (w.alloc (.cells #[.string f0, .int .i64 f1, .int .i64 f2, .int .i64 f3] 37)).heap.size = w.heap.size + 1 := by simp
  have hrW := hr.below hb0
  have HV0 := Lib.hid hv
  have hsum := fun W hB h => strengths_any A c xs w.heap.size W hB h hv
  go_enter Tryz.func38, Tryz.ntmps38
  go_wp2_with fail
  generalize w.alloc (.cells #[.string f0, .int .i64 f1, .int .i64 f2, .int .i64 f3] 37) = W0 at *
  go_region_held3 (fun W => W.cell? ⟨w.heap.size, 1, none⟩ = some (.int .i64 f1))
    (first | go_keep | (refine (hc1.cell ?_).trans ?_; (focus (simp <;> omega)); assumption))
    ((first
      | (go_at_call 44; (with_reducible refine (hsum _ (by simp <;> omega) hrW.drew).mono ?_); rintro e w1 ⟨rfl, hc1⟩; have hb1 := bthen hb0.drew (Nat.le_refl _) hc1; have hs1 := hb1.size; have hz1 := hc1.size; (try simp at hz1))))
  have q2 : w1.cell? ⟨w.heap.size, 2, none⟩ = some (.int .i64 f2) := by rw [hc1.cell (by simp <;> omega)]; simpa using k2
  have q3 : w1.cell? ⟨w.heap.size, 3, none⟩ = some (.int .i64 f3) := by rw [hc1.cell (by simp <;> omega)]; simpa using k3
  have hr1 := (hr.below hb1).more hb1.size
  have hcA := containsTested_any A c xs 69 #[.pointer (some ⟨w.heap.size, 0, none⟩)] (fun t => decide (t.1 < f2)) w1.heap.size w1 (Nat.le_refl _) hr1
    ⟨eg_classFault1, fun x _ W hW => classFault1_any x.1 x.2 f2 w.heap.size W (by have := hW.size; omega) (by rw [hW.cell (by simp; omega)]; exact q2)⟩
  by_cases h1 : stg xs < f1 * xs.length
  · have HE : Hid (cfT xs (f0, f1, f2, f3) = { data := #[109, 101, 97, 110] }) := Lib.hid (by unfold cfT; rw [if_pos h1])
    go_wp2_with fail
    go_ret
    exact ⟨ret_str HE.out.symm, hb1⟩
  · have h1' : f1 * xs.length ≤ stg xs := by omega
    have H1 := Lib.hid h1
    clear h1
    cases h2 : xs.any (fun t => decide (t.1 < f2))
    · rw [h2] at hcA
      go_wp2_with fail
      refine hcA.mono ?_
      rintro e w2 ⟨rfl, hc2⟩
      have hb2 := bthen hb1 (Nat.le_refl _) hc2
      have hz2 := hc2.size
      have r3 : w2.cell? ⟨w.heap.size, 3, none⟩ = some (.int .i64 f3) := by rw [hc2.cell (by simp <;> omega)]; exact q3
      have hr2 := (hr.below hb2).more hb2.size
      have hcB := containsTested_any A c xs 70 #[.pointer (some ⟨w.heap.size, 0, none⟩)] (fun t => decide (f3 < t.2)) w2.heap.size w2 (Nat.le_refl _) hr2
        ⟨eg_classFault2, fun x _ W hW => classFault2_any x.1 x.2 f3 w.heap.size W (by have := hW.size; omega) (by rw [hW.cell (by simp; omega)]; exact r3)⟩
      cases h3 : xs.any (fun t => decide (f3 < t.2))
      · have HE : Hid (cfT xs (f0, f1, f2, f3) = { data := #[110, 111, 110, 101] }) := Lib.hid (by unfold cfT; rw [if_neg (by have := H1.out; simp only; omega), if_neg (by simp only [h2]; decide), if_neg (by simp only [h3]; decide)])
        rw [h3] at hcB
        go_wp2_with fail
        refine hcB.mono ?_
        rintro e w3 ⟨rfl, hc3⟩
        go_wp2_with fail
        go_ret
        exact ⟨ret_str HE.out.symm, bthen hb2 (Nat.le_refl _) hc3⟩
      · have HE : Hid (cfT xs (f0, f1, f2, f3) = { data := #[119, 97, 116, 101, 114] }) := Lib.hid (by unfold cfT; rw [if_neg (by have := H1.out; simp only; omega), if_neg (by simp only [h2]; decide), if_pos (by simp only [h3])])
        rw [h3] at hcB
        go_wp2_with fail
        refine hcB.mono ?_
        rintro e w3 ⟨rfl, hc3⟩
        go_wp2_with fail
        go_ret
        exact ⟨ret_str HE.out.symm, bthen hb2 (Nat.le_refl _) hc3⟩
    · have HE : Hid (cfT xs (f0, f1, f2, f3) = { data := #[101, 97, 99, 104] }) := Lib.hid (by unfold cfT; rw [if_neg (by have := H1.out; simp only; omega), if_pos (by simp only [h2])])
      rw [h2] at hcA
      go_wp2_with fail
      refine hcA.mono ?_
      rintro e w2 ⟨rfl, hc2⟩
      go_wp2_with fail
      go_ret
      exact ⟨ret_str HE.out.symm, bthen hb1 (Nat.le_refl _) hc2⟩

theorem any_take_step {α : Type} {p : α → Bool} {xs : List α} {k : Nat} (h : k < xs.length) (h0 : (xs.take k).any p = false) (h1 : p xs[k] = false) : (xs.take (k + 1)).any p = false := by
  rw [List.take_succ_eq_append_getElem h, List.any_append, h0]
  simp [h1]
theorem any_at {α : Type} {p : α → Bool} {xs : List α} {k : Nat} (h : k < xs.length) (h1 : p xs[k] = true) : xs.any p = true := List.any_eq_true.2 ⟨_, List.getElem_mem h, h1⟩

set_option maxHeartbeats 1600000 in
theorem l19Fault_any (A : Option Addr) (c : Nat) (xs : List TestedD) (f0 : ByteArray) (f1 f2 f3 : Int) (p : Addr) (B : Nat) (w : World) (hr : Rd LTested w B A c xs) (hv : vtB xs = true) (hk : clOk (f0, f1, f2, f3) = true)
    (hc1 : w.cell? ⟨p.block, p.off + 1, none⟩ = some (.int .i64 f1)) (hc2 : w.cell? ⟨p.block, p.off + 2, none⟩ = some (.int .i64 f2)) (hc3 : w.cell? ⟨p.block, p.off + 3, none⟩ = some (.int .i64 f3)) :
    Calls Tryz.prog 41 #[.slice A xs.length c, .pointer (some p)] w fun e w' => e = .returned (.string (cfT xs (f0, f1, f2, f3))) ∧ Dr w w' := by
  have hlen := hr.len63
  obtain ⟨hl20, hpt⟩ := vt_parts hv
  obtain ⟨_, ⟨hm0, hm1⟩, ⟨he0, he1⟩, hw0, hw1⟩ := clOk_parts hk
  obtain ⟨hp0, hp1⟩ := mul_bd hm0 hm1 hl20
  simp only at hm0 hm1 he0 he1 hw0 hw1 hp0 hp1
  have hwr : IntKind.i64.wrap (f1 * (xs.length : Int)) = f1 * (xs.length : Int) := wrap_ok (by omega) (by omega)
  clear hpt
  have hsum := fun W h => l19Sum_any A c xs B W h hv
  go_enter Tryz.func41, Tryz.ntmps41
  go_wp2_with fail
  go_quiet ((go_at_call 47; exact quiet_left (hsum _ (hr.drewN _))))
  by_cases h1 : stg xs < f1 * xs.length
  · have HE : Hid (cfT xs (f0, f1, f2, f3) = { data := #[109, 101, 97, 110] }) := Lib.hid (by unfold cfT; rw [if_pos h1])
    go_wp2_with fail
    go_ret
    exact ⟨ret_str HE.out.symm, _, rfl⟩
  have H1 := Lib.hid h1
  have h1' : f1 * xs.length ≤ stg xs := by omega
  go_wp2_with fail
  clear h1
  go_loopw [5] (fun i wr => ∃ k : Nat, k ≤ xs.length ∧ i = .int .i64 k ∧ Hid ((xs.take k).any (fun t => decide (t.1 < f2)) = false) ∧ Dr w wr) (fun i _ => xs.length - (intOf i).toNat)
  case atStart => exact ⟨0, by omega, rfl, Lib.hid rfl, _, rfl⟩
  case round =>
    obtain ⟨k, hk, rfl, Hno, hdr⟩ := hrel
    have d1 : wr.cell? ⟨p.block, p.off + 2, none⟩ = some (.int .i64 f2) := by obtain ⟨n, rfl⟩ := hdr; simpa using hc2
    by_cases hlt : k < xs.length
    · obtain ⟨ad, rfl, hab, hd0, hd1⟩ := rdTested (hr.below hdr.below) hlt
      have hk0 : (k : Int) < xs.length := by omega
      by_cases h2 : xs[k].1 < f2
      · have HE : Hid (cfT xs (f0, f1, f2, f3) = { data := #[101, 97, 99, 104] }) := Lib.hid (by unfold cfT; rw [if_neg (by have := H1.out; simp only; omega), if_pos (any_at hlt (by simp [h2]))])
        go_wp2_with fail
        go_quiet (fail)
        go_wp2_with fail
        go_ret
        exact ⟨ret_str HE.out.symm, hdr.step _⟩
      · have HS := Lib.hid (any_take_step (p := fun t : TestedD => decide (t.1 < f2)) hlt Hno.out (by simp; omega))
        go_wp2_with fail
        go_quiet (fail)
        go_wp2_with fail
        go_roundw
        case rel => exact ⟨k + 1, by omega, by go_num, HS, hdr.step _⟩
        case measure => simp [intOf]; omega
    · have H2 : Hid (xs.any (fun t => decide (t.1 < f2)) = false) := Lib.hid (by have := Hno.out; rw [List.take_of_length_le (by omega)] at this; exact this)
      go_wp2_with fail
      go_loopw [6] (fun i wr => ∃ k : Nat, k ≤ xs.length ∧ i = .int .i64 k ∧ Hid ((xs.take k).any (fun t => decide (f3 < t.2)) = false) ∧ Dr w wr) (fun i _ => xs.length - (intOf i).toNat)
      case atStart => exact ⟨0, by omega, rfl, Lib.hid rfl, hdr⟩
      case round =>
        obtain ⟨k, hk, rfl, Hno, hdr⟩ := hrel
        have d1 : wr.cell? ⟨p.block, p.off + 3, none⟩ = some (.int .i64 f3) := by obtain ⟨n, rfl⟩ := hdr; simpa using hc3
        by_cases hlt : k < xs.length
        · obtain ⟨ad, rfl, hab, hd0, hd1⟩ := rdTested (hr.below hdr.below) hlt
          have hk0 : (k : Int) < xs.length := by omega
          by_cases h2 : f3 < xs[k].2
          · have HE : Hid (cfT xs (f0, f1, f2, f3) = { data := #[119, 97, 116, 101, 114] }) := Lib.hid (by unfold cfT; rw [if_neg (by have := H1.out; simp only; omega), if_neg (by simp only [H2.out]; decide), if_pos (any_at hlt (by simp [h2]))])
            go_wp2_with fail
            go_quiet (fail)
            go_wp2_with fail
            go_ret
            exact ⟨ret_str HE.out.symm, hdr.step _⟩
          · have HS := Lib.hid (any_take_step (p := fun t : TestedD => decide (f3 < t.2)) hlt Hno.out (by simp; omega))
            go_wp2_with fail
            go_quiet (fail)
            go_wp2_with fail
            go_roundw
            case rel => exact ⟨k + 1, by omega, by go_num, HS, hdr.step _⟩
            case measure => simp [intOf]; omega
        · have H3 : Hid (xs.any (fun t => decide (f3 < t.2)) = false) := Lib.hid (by have := Hno.out; rw [List.take_of_length_le (by omega)] at this; exact this)
          have HE : Hid (cfT xs (f0, f1, f2, f3) = { data := #[110, 111, 110, 101] }) := Lib.hid (by unfold cfT; rw [if_neg (by have := H1.out; simp only; omega), if_neg (by simp only [H2.out]; decide), if_neg (by simp only [H3.out]; decide)])
          go_wp2_with fail
          go_ret
          exact ⟨ret_str HE.out.symm, hdr⟩
end Go.Proofs.YtehmghlhljocbaaGreatDoor
