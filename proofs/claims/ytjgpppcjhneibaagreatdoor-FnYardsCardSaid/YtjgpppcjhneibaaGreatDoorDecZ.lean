/-
  Numbers in decimal: the program's by the library, the reference's by its loop.
-/
import Derived.Test.YtjgpppcjhneibaaGreatDoorRows
import Derived.Test.YtjgpppcjhneibaaGreatDoorShelfZ
import Derived.Test.YtjgpppcjhneibaaGreatDoorClone
import Derived.Test.YtjgpppcjhneibaaGreatDoorBytes8
import Derived.Test.YtjgpppcjhneibaaGreatDoorNum
import Derived.Laws.BytesArg
import Derived.Lib.ItoaLen
namespace Go.Proofs.YtjgpppcjhneibaaGreatDoor
open Go.ChangeShapes Go.WideShapes Go.RowKit

theorem rowU : TyRow Tryz.prog 28 5 (.int .u8 0) LU.sz 1 := ⟨Tryz.underlying28, by kernel_rfl⟩
/-- a number in decimal -/
def decS (n : Int) : ByteArray := ⟨(Lib.itoa n).toArray⟩
def dcN (u : Nat) : List Int := (Lib.decDigits u).map fun b => (b.toNat : Int)
theorem dcN_small {u : Nat} (h : u < 10) : dcN u = [48 + (u : Int)] := by
  unfold dcN
  rw [Lib.decDigits_one h]
  simp
  omega
theorem dcN_big {u : Nat} (h : ¬ u < 10) : dcN u = dcN (u / 10) ++ [48 + ((u % 10 : Nat) : Int)] := by
  unfold dcN
  rw [Lib.decDigits, dif_neg h, List.map_append]
  congr 1
  simp
  omega
theorem dcN_len (u : Nat) (h : u < 18446744073709551616) : (dcN u).length ≤ 20 := by
  unfold dcN
  rw [List.length_map, Lib.decDigits_length]
  exact Lib.nDigits_le20 u h
theorem dcN_str {u : Nat} : strOfNums (dcN u) = decS (u : Int) := by
  unfold strOfNums decS dcN Lib.itoa
  rw [if_neg (by omega), Int.toNat_natCast, List.map_map]
  congr 2
  conv => rhs; rw [← List.map_id (Lib.decDigits u)]
  apply List.map_congr_left
  intro b _
  simp
/-- what is left of the digits -/
def dcK (k : Nat) : List Int := if k = 0 then [] else dcN k
theorem dcK_step {k : Nat} (h : k ≠ 0) : dcK k = dcK (k / 10) ++ [48 + ((k % 10 : Nat) : Int)] := by
  unfold dcK
  rw [if_neg h]
  by_cases h1 : k < 10
  · rw [if_pos (by omega), dcN_small h1, List.nil_append]
    congr 2
    omega
  · rw [if_neg (by omega), dcN_big h1]
theorem below_growL {B : Nat} {w0 w : World} (h : Below B w0 w) (hB : B ≤ w.heap.size) (os : Array Obj) : Below B w0 (Sort.grow w os) := by
  refine ⟨h.os, h.tape, h.output, ?_, fun k hk => ?_⟩
  · have := h.size
    simp [Sort.grow]
    omega
  · rw [← h.block k hk]
    simp only [Sort.grow]
    rw [Array.getElem?_append_left (by omega)]

/-- a small number: nothing turns -/
theorem decSmall_any (n : Int) (h0 : 0 ≤ n) (h1 : n < 100) (w : World) : Calls Tryz.prog 58 #[.int .i64 n] w fun e w' => e = .returned (.string (decS n)) ∧ w = w' := by
  obtain ⟨i, rfl⟩ : ∃ i : Nat, n = (i : Int) := ⟨n.toNat, by omega⟩
  have hc := fun W : World => Any.strconv_FormatInt_10_small Tryz.lays173 i (by omega) W
  have HE : Hid (decS (i : Int) = ⟨(Lib.decDigits i).toArray⟩) := Lib.hid (by unfold decS Lib.itoa; rw [if_neg (by omega), Int.toNat_natCast])
  change ∀ W : World, Calls Tryz.prog 73 #[.int .i64 i, .int .i64 10] W _ at hc
  rw [HE.out]
  generalize (⟨(Lib.decDigits i).toArray⟩ : ByteArray) = s at *
  have HC := Lib.hid hc
  clear hc
  go_enter Tryz.func58, Tryz.ntmps58
  go_wp2_with fail
  refine (HC.out _).mono ?_
  rintro e w1 ⟨rfl, rfl⟩
  go_wp2_with fail
  go_ret
  exact ⟨rfl, rfl⟩
/-- the table of the library lies there -/
def powN : String := Rows.fnExactReadYardRow.named.getD 5 default
def TabW (w : World) : Prop := Lib.TabIs Tryz.prog w powN .u64 Lib.pow10Tab
theorem dec_any (n : Int) (h0 : 0 ≤ n) (h1 : n ≤ 9223372036854775807) (w : World) (ht : TabW w) : Calls Tryz.prog 58 #[.int .i64 n] w fun e w' => e = .returned (.string (decS n)) ∧ Below w.heap.size w w' := by
  have hc := Any.strconv_FormatInt_10 Tryz.laysM173 n (by omega) (by omega) w ht
  change Calls Tryz.prog 73 #[.int .i64 n, .int .i64 10] w (fun e w' => e = .returned (.string (decS n)) ∧ ∃ k os, w' = Sort.grow (w.drewN k) os) at hc
  generalize decS n = s at *
  go_enter Tryz.func58, Tryz.ntmps58
  go_wp2_with fail
  refine hc.mono ?_
  rintro e w1 ⟨rfl, k, os, rfl⟩
  have HB : Hid (Below w.heap.size w (Sort.grow (w.drewN k) os)) := Lib.hid (below_growL (below_drewN (Below.refl _ w) k) (Nat.le_refl _) os)
  generalize Sort.grow (w.drewN k) os = w2 at *
  go_wp2_with fail
  go_ret
  exact ⟨rfl, HB.out⟩

set_option maxRecDepth 100000 in
set_option maxHeartbeats 1600000 in
theorem l01Dec_any (n : Int) (h0 : 0 ≤ n) (h1 : n ≤ 9223372036854775807) (w : World) : Calls Tryz.prog 37 #[.int .i64 n] w fun e w' => e = .returned (.string (decS n)) ∧ Below w.heap.size w w' := by
  obtain ⟨u, rfl⟩ : ∃ u : Nat, n = (u : Int) := ⟨n.toNat, by omega⟩
  have hl20 : (dcK u).length ≤ 20 := by
    unfold dcK
    split
    · simp
    · exact dcN_len u (by omega)
  obtain ⟨FIN, hF⟩ : ∃ F, F = decS (u : Int) := ⟨_, rfl⟩
  rw [← hF]
  have HF := Lib.hid hF
  have H20 := Lib.hid hl20
  clear hF hl20
  go_enter Tryz.func37, Tryz.ntmps37
  go_wp2_with fail
  go_loopw [3, 4, 5] (fun o k _ wr => ∃ (j : Nat) (A1 : Option Addr) (c1 : Nat) (xs : List Int), j ≤ u ∧ k = .int .i64 j ∧ o = .slice A1 xs.length c1 ∧ Hid (dcK u = dcK j ++ xs) ∧ Hid (Own LU 5 wr w.heap.size A1 c1 xs) ∧ Hid (Below w.heap.size w wr)) (fun _ k _ _ => (intOf k).toNat)
  case atStart => exact ⟨u, _, _, [], by omega, rfl, rfl, Lib.hid (by simp), Lib.hid (Own.lit0 w (Nat.le_refl _) rfl), Lib.hid ((Below.refl _ _).alloc (Nat.le_refl _) _)⟩
  case round =>
    obtain ⟨j, A1, c1, xs, hj, rfl, rfl, HX, HO, HB⟩ := hrel
    have hsz := HB.out.size
    have hx20 : xs.length ≤ 20 := by
      have h := H20.out
      rw [HX.out, List.length_append] at h
      omega
    by_cases hz : j = 0
    · subst hz
      have HX2 : Hid (dcK u = xs) := Lib.hid (by rw [HX.out]; rfl)
      by_cases hu : xs.length = 0
      · have hn : xs = [] := List.length_eq_zero_iff.1 hu
        have HR : Hid (FIN = ⟨#[48]⟩) := Lib.hid (by
          rw [HF.out]
          have : u = 0 := by
            have h := HX2.out
            rw [hn] at h
            by_cases e : u = 0
            · exact e
            · exfalso
              rw [dcK_step e] at h
              simp at h
          subst this
          unfold decS Lib.itoa
          rw [if_neg (by omega)]
          show (⟨(Lib.decDigits 0).toArray⟩ : ByteArray) = _
          rw [Lib.decDigits_one (by omega)]
          rfl)
        have z1 : ((xs.length : Int) == 0) = true := by rw [beq_iff_eq]; omega
        have z2 : (xs.length == 0) = true := by rw [beq_iff_eq]; exact hu
        clear hu hn
        go_wp2_with fail
        go_ret
        exact ⟨by rw [HR.out]; rfl, HB.out⟩
      · have z1 : ((xs.length : Int) == 0) = false := by rw [beq_eq_false_iff_ne]; omega
        have z2 : (xs.length == 0) = false := by rw [beq_eq_false_iff_ne]; exact hu
        have HR : Hid (FIN = strOfNums xs) := Lib.hid (by
          rw [HF.out, ← dcN_str, ← HX2.out]
          have : u ≠ 0 := by
            intro e
            subst e
            have h := HX2.out
            unfold dcK at h
            rw [if_pos rfl] at h
            rw [← h] at hu
            exact hu rfl
          unfold dcK
          rw [if_neg this])
        obtain ⟨g, rfl, _, _⟩ := HO.out.ptr (by omega)
        have hcv := run_convert_bytes_arg (P := Tryz.prog) wr 28 5 Tryz.underlying28 Tryz.underlying5 g 0 xs.length c1 xs rfl (fun i hi => by
          obtain ⟨ad, e, _, hc⟩ := HO.out.rd.u8 hi
          cases e
          rw [add_lit] at hc
          rw [Nat.zero_add, hc]
          simp [List.getD, hi]) 9 Tryz.underlying9
        clear hu
        go_wp2_with fail
        go_ret
        exact ⟨by rw [HR.out]; rfl, HB.out⟩
    · obtain ⟨q, hq⟩ : ∃ q : Nat, q = j / 10 := ⟨_, rfl⟩
      obtain ⟨d, hd⟩ : ∃ d : Nat, d = j % 10 := ⟨_, rfl⟩
      have e1 : (j : Int) / 10 = (q : Int) := by omega
      have e2 : (j : Int) % 10 = (d : Int) := by omega
      have hd9 : d ≤ 9 := by omega
      have hqj : q < j := by omega
      have z1 : ((j : Int) != 0) = true := by rw [bne_iff_ne]; omega
      have z2 : (j != 0) = true := by rw [bne_iff_ne]; exact hz
      have HS : Hid (dcK u = dcK q ++ ((48 + (d : Int)) :: xs)) := Lib.hid (by rw [HX.out, dcK_step hz, ← hq, ← hd, List.append_assoc]; rfl)
      have e3 : IntKind.u8.wrap (48 + (d : Int)) = 48 + (d : Int) := by
        simp [IntKind.wrap, IntKind.bits, IntKind.signed]; omega
      have hj0 : 1 ≤ j := by omega
      have hna : A1 = none → xs.length = 0 ∧ c1 = 0 := by
        intro e
        rcases HO.out.parts with ⟨_, e2, e3⟩ | ⟨_, _, e2, _⟩
        · exact ⟨by rw [e2]; rfl, e3⟩
        · rw [e2] at e; cases e
      have HNA := Lib.hid hna
      have hfl := Lib.hid ((HO.out.rd.alloc (Nat.le_refl _) (.cells #[.int .u8 (48 + (d : Int))] 5)).flat)
      clear hq hd hz hna
      go_wp2_with (at_builtin; go_loud (refine wpL_app (L := LU) rowU rfl rfl _ _ rfl rfl (Own.lit (base := wr.heap.size) wr (Nat.le_refl _) rfl [48 + (d : Int)] #[.int .u8 (48 + (d : Int))] 1 rfl (by unfold maxLen; omega) rfl) A1 xs.length c1 xs rfl rfl (fun h => HNA.out h) (fun ad' e => hfl.out ad' e) (by unfold maxLen; simp; omega) (by simp; omega) (by simp) ?_); intro A4 c4 w4 ho4 hg4)
      clear e1 e2 e3
      go_roundw
      case rel => exact ⟨q, A4, c4, (48 + (d : Int)) :: xs, by omega, by go_num, by simp, HS, Lib.hid (by simpa using ho4.lower hsz), Lib.hid (Grew.below (HB.out.alloc hsz _) hg4 (by simp; omega) (fun g hg => by simp [blk] at hg; omega))⟩
      case measure => simp [intOf]; omega
end Go.Proofs.YtjgpppcjhneibaaGreatDoor
