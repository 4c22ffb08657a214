/-
  Tested bricks: BestClass.
-/
import Derived.Test.YtehmghlhljocbaaGreatDoorTestedC
namespace Go.Proofs.YtehmghlhljocbaaGreatDoor
open Go.ChangeShapes Go.WideShapes Go.RowKit

def noF (xs : List TestedD) (c : ClassD) : Bool := decide (0 < xs.length) && decide (cfT xs c = { data := #[110, 111, 110, 101] })
def bcF (xs : List TestedD) : List ClassD → ByteArray × Int
  | [] => ({ data := #[] }, 3)
  | c :: cs => if noF xs c = true then (c.1, 0) else bcF xs cs
def bcP (xs : List TestedD) (cs : List ClassD) : ByteArray × Int := if vtB xs = true ∧ cs.any (fun c => !clOk c) = false then bcF xs cs else ({ data := #[] }, 1)
theorem bcF_step (xs : List TestedD) {cs : List ClassD} {k : Nat} (h : k < cs.length) : bcF xs (cs.drop k) = if noF xs cs[k] = true then (cs[k].1, 0) else bcF xs (cs.drop (k + 1)) := by
  rw [List.drop_eq_getElem_cons h]; rfl
theorem bcF_nil (xs : List TestedD) (cs : List ClassD) (h : xs.length = 0) : bcF xs cs = ({ data := #[] }, 3) := by
  induction cs with
  | nil => rfl
  | cons c cs ih => rw [bcF, ih, if_neg (by simp [noF, h])]
theorem cfT_cases (xs : List TestedD) (c : ClassD) : (cfT xs c = { data := #[109, 101, 97, 110] } ∨ cfT xs c = { data := #[101, 97, 99, 104] } ∨ cfT xs c = { data := #[119, 97, 116, 101, 114] }) ∨ cfT xs c = { data := #[110, 111, 110, 101] } := by
  unfold cfT
  split
  · exact Or.inl (Or.inl rfl)
  · split
    · exact Or.inl (Or.inr (Or.inl rfl))
    · split
      · exact Or.inl (Or.inr (Or.inr rfl))
      · exact Or.inr rfl

theorem BestClass1_any (f0 : ByteArray) (f1 f2 f3 : Int) (hs : f0.size ≤ 9223372036854775807) (w : World) :
    Calls Tryz.prog 36 #[.agg #[.string f0, .int .i64 f1, .int .i64 f2, .int .i64 f3]] w fun e w' => e = .returned (.bool (!clOk (f0, f1, f2, f3))) ∧ Below w.heap.size w w' := by
  have hb0 := (Below.refl w.heap.size w).alloc (Nat.le_refl _) (.cells #[.string f0, .int .i64 f1, .int .i64 f2, .int .i64 f3] 37)
  go_enter Tryz.func36, Tryz.ntmps36
  go_wp2_with fail
  refine (validClass_any f0 f1 f2 f3 hs _).mono ?_
  rintro e w1 ⟨rfl, hc1⟩
  go_wp2_with fail
  go_ret
  exact ⟨rfl, bthen hb0 (Nat.le_refl _) hc1⟩
theorem eg_BestClass1 : ∀ args w, (callFunc 36 args).run Tryz.prog w = .ok (.enter 36 args) w := by
  intro args w
  kernel_rfl

set_option maxHeartbeats 1600000 in
theorem implBestClass_any (A : Option Addr) (c : Nat) (xs : List TestedD) (A2 : Option Addr) (c2 : Nat) (cs : List ClassD) (w : World) (hr : Rd LTested w w.heap.size A c xs) (hr2 : Rd LClass w w.heap.size A2 c2 cs) (hok : ∀ n ∈ cs, OkClass n) :
    Calls Tryz.prog 6 #[.slice A xs.length c, .slice A2 cs.length c2] w fun e w' => e = .returned (.tuple #[.string (bcP xs cs).1, .int .i64 (bcP xs cs).2]) ∧ Below w.heap.size w w' := by
  have hlen := hr.len63
  have hlen2 := hr2.len63
  have hcV := implValidTested_any A c xs w hr
  cases hv : vtB xs
  · have HP : Hid (bcP xs cs = ({ data := #[] }, 1)) := Lib.hid (by simp [bcP, hv])
    rw [HP.out]
    rw [hv] at hcV
    go_enter Tryz.func6, Tryz.ntmps6
    go_wp2_with fail
    refine hcV.mono ?_
    rintro e w1 ⟨rfl, hc1⟩
    go_wp2_with fail
    go_ret2
    exact ⟨rfl, hc1⟩
  · have Hv := Lib.hid hv
    rw [hv] at hcV
    cases ha : cs.any (fun c => !clOk c)
    · have HP : Hid (bcP xs cs = bcF xs cs) := Lib.hid (by simp only [bcP, hv, ha, true_and, if_true])
      have Hall : Hid (∀ x ∈ cs, clOk x = true) := Lib.hid (fun x hx => by have := List.any_eq_false.1 ha x hx; simpa using this)
      go_enter Tryz.func6, Tryz.ntmps6
      go_wp2_with fail
      refine hcV.mono ?_
      rintro e w1 ⟨rfl, hc1⟩
      have hcc := containsClass_any A2 c2 cs 36 #[] (fun x => !clOk x) w1.heap.size w1 (Nat.le_refl _) ((hr2.below hc1).more hc1.size)
        ⟨eg_BestClass1, fun x hx W _ => BestClass1_any x.1 x.2.1 x.2.2.1 x.2.2.2 (hok x hx).1 W⟩
      rw [ha] at hcc
      go_wp2_with fail
      refine hcc.mono ?_
      rintro e w2 ⟨rfl, hc2⟩
      have hb2 := bthen hc1 (Nat.le_refl _) hc2
      clear hcc hcV hc1 hc2 ha hv
      go_wp2_with fail
      go_loopw [17] (fun i wr => ∃ k : Nat, k ≤ cs.length ∧ i = .int .i64 k ∧ Hid (bcF xs cs = bcF xs (cs.drop k)) ∧ Below w.heap.size w wr) (fun i _ => cs.length - (intOf i).toNat)
      case atStart => exact ⟨0, by omega, rfl, Lib.hid rfl, hb2⟩
      case round =>
        obtain ⟨k, hk, rfl, Heq, hbel⟩ := hrel
        have hsz := hbel.size
        by_cases hlt : k < cs.length
        · obtain ⟨ad, rfl, hab, hd0, hd1, hd2, hd3⟩ := rdClass (hr2.below hbel) hlt
          have HS := Lib.hid (bcF_step xs hlt)
          have hb3 : Below w.heap.size w (wr.alloc (.cells #[.string cs[k].1, .int .i64 cs[k].2.1, .int .i64 cs[k].2.2.1, .int .i64 cs[k].2.2.2] 37)) := hbel.alloc hsz _
          by_cases hn : 0 < xs.length
          · have hn' : (0 : Int) < xs.length := by omega
            have hct := classFault_any A c xs cs[k].1 cs[k].2.1 cs[k].2.2.1 cs[k].2.2.2 _ ((hr.below hb3).more hb3.size) Hv.out (Hall.out _ (List.getElem_mem hlt))
            have hz : wr.heap.size < (wr.alloc (.cells #[.string cs[k].1, .int .i64 cs[k].2.1, .int .i64 cs[k].2.2.1, .int .i64 cs[k].2.2.2] 37)).heap.size := by simp
            have k0 : (wr.alloc (.cells #[.string cs[k].1, .int .i64 cs[k].2.1, .int .i64 cs[k].2.2.1, .int .i64 cs[k].2.2.2] 37)).cell? ⟨wr.heap.size, 0, none⟩ = some (.string cs[k].1) := by go_simp
            rcases cfT_cases xs (cs[k].1, cs[k].2.1, cs[k].2.2.1, cs[k].2.2.2) with h | h
            · have HN : Hid (bcF xs cs = bcF xs (cs.drop (k + 1))) := Lib.hid (by
                rw [Heq.out, HS.out, if_neg]
                have h' : cfT xs cs[k] ≠ { data := #[110, 111, 110, 101] } := by
                  show cfT xs (cs[k].1, cs[k].2.1, cs[k].2.2.1, cs[k].2.2.2) ≠ _
                  rcases h with h | h | h <;> rw [h] <;> decide
                simp [noF, h'])
              rcases h with h | h | h
              all_goals
                rw [h] at hct
                clear h
                go_wp2_with fail
                refine hct.mono ?_
                rintro e w3 ⟨rfl, hc3⟩
                go_wp2_with fail
                go_roundw
                case rel => exact ⟨k + 1, by omega, by go_num, HN, bthen hb3 (Nat.le_refl _) hc3⟩
                case measure => simp [intOf]; omega
            · have HN : Hid (bcP xs cs = (cs[k].1, 0)) := Lib.hid (by
                rw [HP.out, Heq.out, HS.out, if_pos]
                have h' : cfT xs cs[k] = { data := #[110, 111, 110, 101] } := h
                simp [noF, h', hn])
              rw [h] at hct
              clear h
              go_wp2_with fail
              refine hct.mono ?_
              rintro e w3 ⟨rfl, hc3⟩
              have k1 : w3.cell? ⟨wr.heap.size, 0, none⟩ = some (.string cs[k].1) := (hc3.cell (by simp)).trans k0
              clear k0
              go_wp2_with fail
              go_ret2
              exact ⟨ret_si (by rw [HN.out]) (by rw [HN.out]), bthen hb3 (Nat.le_refl _) hc3⟩
          · have HN : Hid (bcF xs cs = bcF xs (cs.drop (k + 1))) := Lib.hid (by
              rw [Heq.out, HS.out, if_neg]
              simp [noF]; omega)
            have hn' : (xs.length : Int) ≤ 0 := by omega
            go_wp2_with fail
            go_roundw
            case rel => exact ⟨k + 1, by omega, by go_num, HN, hb3⟩
            case measure => simp [intOf]; omega
        · have HN : Hid (bcP xs cs = ({ data := #[] }, 3)) := Lib.hid (by rw [HP.out, Heq.out, List.drop_of_length_le (by omega)]; rfl)
          go_wp2_with fail
          go_ret2
          exact ⟨ret_si (by rw [HN.out]) (by rw [HN.out]), hbel⟩
    · have HP : Hid (bcP xs cs = ({ data := #[] }, 1)) := Lib.hid (by simp only [bcP, ha]; simp)
      rw [HP.out]
      go_enter Tryz.func6, Tryz.ntmps6
      go_wp2_with fail
      refine hcV.mono ?_
      rintro e w1 ⟨rfl, hc1⟩
      have hcc := containsClass_any A2 c2 cs 36 #[] (fun x => !clOk x) w1.heap.size w1 (Nat.le_refl _) ((hr2.below hc1).more hc1.size)
        ⟨eg_BestClass1, fun x hx W _ => BestClass1_any x.1 x.2.1 x.2.2.1 x.2.2.2 (hok x hx).1 W⟩
      rw [ha] at hcc
      go_wp2_with fail
      refine hcc.mono ?_
      rintro e w2 ⟨rfl, hc2⟩
      have hb2 := bthen hc1 (Nat.le_refl _) hc2
      go_wp2_with fail
      go_ret2
      exact ⟨rfl, hb2⟩

set_option maxHeartbeats 1600000 in
theorem specBestClass_any (A : Option Addr) (c : Nat) (xs : List TestedD) (A2 : Option Addr) (c2 : Nat) (cs : List ClassD) (w : World) (hr : Rd LTested w w.heap.size A c xs) (hr2 : Rd LClass w w.heap.size A2 c2 cs) (hok : ∀ n ∈ cs, OkClass n) :
    Calls Tryz.prog 7 #[.slice A xs.length c, .slice A2 cs.length c2] w fun e w' => e = .returned (.tuple #[.string (bcP xs cs).1, .int .i64 (bcP xs cs).2]) ∧ Below w.heap.size w w' := by
  have hlen := hr.len63
  have hlen2 := hr2.len63
  have hcV := l19Ok_any A c xs _ w hr
  cases hv : vtB xs
  · have HP : Hid (bcP xs cs = ({ data := #[] }, 1)) := Lib.hid (by simp [bcP, hv])
    rw [HP.out]
    rw [hv] at hcV
    go_enter Tryz.func7, Tryz.ntmps7
    go_wp2_with fail
    refine hcV.mono ?_
    rintro e w1 ⟨rfl, rfl⟩
    go_wp2_with fail
    go_ret2
    exact ⟨rfl, Below.refl _ _⟩
  · have Hv := Lib.hid hv
    rw [hv] at hcV
    clear hv
    go_enter Tryz.func7, Tryz.ntmps7
    go_wp2_with fail
    refine hcV.mono ?_
    rintro e w1 ⟨rfl, rfl⟩
    clear hcV
    go_wp2_with fail
    go_loopw [6] (fun i wr => ∃ k : Nat, k ≤ cs.length ∧ i = .int .i64 k ∧ Hid (∀ x ∈ cs.take k, clOk x = true) ∧ Dr w wr) (fun i _ => cs.length - (intOf i).toNat)
    case atStart => exact ⟨0, by omega, rfl, Lib.hid (by simp), Dr.refl _⟩
    case round =>
      obtain ⟨k, hk, rfl, Hno, hdr⟩ := hrel
      by_cases hlt : k < cs.length
      · obtain ⟨ad, rfl, hab, hd0, hd1, hd2, hd3⟩ := rdClass (hr2.below hdr.below) hlt
        have hkc := l19Class_any cs[k].1 cs[k].2.1 cs[k].2.2.1 cs[k].2.2.2 (ad.add (k * 4)) (hok _ (List.getElem_mem hlt)).1 wr hd0 hd1 hd2 hd3
        cases h1 : clOk (cs[k].1, cs[k].2.1, cs[k].2.2.1, cs[k].2.2.2)
        · have HP : Hid (bcP xs cs = ({ data := #[] }, 1)) := Lib.hid (by
            have : cs.any (fun c => !clOk c) = true := List.any_eq_true.2 ⟨cs[k], List.getElem_mem hlt, by rw [show clOk cs[k] = false from h1]; rfl⟩
            simp only [bcP, this]; simp)
          rw [h1] at hkc
          go_wp2_with fail
          refine hkc.mono ?_
          rintro e w3 ⟨rfl, hd⟩
          go_wp2_with fail
          go_ret2
          exact ⟨ret_si (by rw [HP.out]) (by rw [HP.out]), (hdr.trans hd).below⟩
        · have HS : Hid (∀ x ∈ cs.take (k + 1), clOk x = true) := Lib.hid (by
            intro x hx
            rw [List.take_succ_eq_append_getElem hlt] at hx
            rcases List.mem_append.1 hx with h | h
            · exact Hno.out x h
            · simp at h; rw [h]; exact h1)
          rw [h1] at hkc
          go_wp2_with fail
          refine hkc.mono ?_
          rintro e w3 ⟨rfl, hd⟩
          go_wp2_with fail
          go_roundw
          case rel => exact ⟨k + 1, by omega, by go_num, HS, hdr.trans hd⟩
          case measure => simp [intOf]; omega
      · have Hall : Hid (∀ x ∈ cs, clOk x = true) := Lib.hid (by have := Hno.out; rw [List.take_of_length_le (by omega)] at this; exact this)
        have HP : Hid (bcP xs cs = bcF xs cs) := Lib.hid (by
          have : cs.any (fun c => !clOk c) = false := List.any_eq_false.2 fun x hx => by simp [Hall.out x hx]
          simp only [bcP, Hv.out, this, true_and, if_true])
        by_cases hn : xs.length = 0
        · have HN : Hid (bcP xs cs = ({ data := #[] }, 3)) := Lib.hid (by rw [HP.out, bcF_nil xs cs hn])
          have hn0 : ((xs.length : Int) == 0) = true := by rw [beq_iff_eq]; omega
          clear hn
          go_wp2_with fail
          go_ret2
          exact ⟨ret_si (by rw [HN.out]) (by rw [HN.out]), hdr.below⟩
        · have hn0 : ((xs.length : Int) == 0) = false := by rw [beq_eq_false_iff_ne]; omega
          have hpos : 0 < xs.length := by omega
          clear hn
          go_wp2_with fail
          go_loopw [7] (fun i wr => ∃ k : Nat, k ≤ cs.length ∧ i = .int .i64 k ∧ Hid (bcF xs cs = bcF xs (cs.drop k)) ∧ Dr w wr) (fun i _ => cs.length - (intOf i).toNat)
          case atStart => exact ⟨0, by omega, rfl, Lib.hid rfl, hdr⟩
          case round =>
            obtain ⟨k, hk, rfl, Heq, hdr⟩ := hrel
            by_cases hlt : k < cs.length
            · obtain ⟨ad, rfl, hab, hd0, hd1, hd2, hd3⟩ := rdClass (hr2.below hdr.below) hlt
              have HS := Lib.hid (bcF_step xs hlt)
              have hct := l19Fault_any A c xs cs[k].1 cs[k].2.1 cs[k].2.2.1 cs[k].2.2.2 (ad.add (k * 4)) _ wr (hr.below hdr.below) Hv.out (Hall.out _ (List.getElem_mem hlt)) hd1 hd2 hd3
              rcases cfT_cases xs (cs[k].1, cs[k].2.1, cs[k].2.2.1, cs[k].2.2.2) with h | h
              · have HN : Hid (bcF xs cs = bcF xs (cs.drop (k + 1))) := Lib.hid (by
                  rw [Heq.out, HS.out, if_neg]
                  have h' : cfT xs cs[k] ≠ { data := #[110, 111, 110, 101] } := by
                    show cfT xs (cs[k].1, cs[k].2.1, cs[k].2.2.1, cs[k].2.2.2) ≠ _
                    rcases h with h | h | h <;> rw [h] <;> decide
                  simp [noF, h'])
                rcases h with h | h | h
                all_goals
                  rw [h] at hct
                  clear h
                  go_wp2_with fail
                  refine hct.mono ?_
                  rintro e w3 ⟨rfl, hd⟩
                  go_wp2_with fail
                  go_roundw
                  case rel => exact ⟨k + 1, by omega, by go_num, HN, hdr.trans hd⟩
                  case measure => simp [intOf]; omega
              · have HN : Hid (bcP xs cs = (cs[k].1, 0)) := Lib.hid (by
                  rw [HP.out, Heq.out, HS.out, if_pos]
                  have h' : cfT xs cs[k] = { data := #[110, 111, 110, 101] } := h
                  simp [noF, h', hpos])
                rw [h] at hct
                clear h
                go_wp2_with fail
                refine hct.mono ?_
                rintro e w3 ⟨rfl, hd⟩
                have k1 : w3.cell? (ad.add (k * 4)) = some (.string cs[k].1) := by obtain ⟨n, rfl⟩ := hd; simpa using hd0
                clear hd0
                go_wp2_with fail
                go_ret2
                exact ⟨ret_si (by rw [HN.out]) (by rw [HN.out]), (hdr.trans hd).below⟩
            · have HN : Hid (bcP xs cs = ({ data := #[] }, 3)) := Lib.hid (by rw [HP.out, Heq.out, List.drop_of_length_le (by omega)]; rfl)
              go_wp2_with fail
              go_ret2
              exact ⟨ret_si (by rw [HN.out]) (by rw [HN.out]), hdr.below⟩
end Go.Proofs.YtehmghlhljocbaaGreatDoor
