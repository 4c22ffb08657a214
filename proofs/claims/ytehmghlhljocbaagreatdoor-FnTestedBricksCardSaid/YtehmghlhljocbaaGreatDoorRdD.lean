/-
  Numbers in decimal: the reference's reader.
-/
import Derived.Test.YtehmghlhljocbaaGreatDoorRdA
import Derived.Deep.RegionHeld3
namespace Go.Proofs.YtehmghlhljocbaaGreatDoor
open Go.ChangeShapes Go.WideShapes Go.RowKit

def isDgt (c : Int) : Bool := decide (48 ≤ c ∧ c ≤ 57)
theorem rdDigit_any (c : Int) (w : World) :
    Calls Tryz.prog 85 #[.int .u8 c] w fun e w' => e = .returned (.bool (isDgt c)) ∧ w = w' := by
  go_enter Tryz.func85, Tryz.ntmps85
  go_wp2
  all_goals go_ret
  all_goals refine ⟨ret_bool ?_, rfl⟩
  all_goals simp [isDgt]
  all_goals omega
theorem decS_neg (u : Nat) (h : 1 ≤ u) : decS (-(u : Int)) = { data := #[45] } ++ decS (u : Int) := by
  unfold decS
  rw [show Lib.itoa (-(u : Int)) = 45 :: Lib.decDigits u by unfold Lib.itoa; rw [if_pos (by omega)]; simp, show Lib.itoa (u : Int) = Lib.decDigits u by unfold Lib.itoa; rw [if_neg (by omega)]; simp]
  show bs _ = bs [45] ++ bs _
  rw [bs_app]
  rfl
set_option maxRecDepth 100000 in
set_option maxHeartbeats 1600000 in
theorem l01DecNeg_any (u : Nat) (h0 : 1 ≤ u) (h1 : u ≤ 1000000000000000000) (w : World) : Calls Tryz.prog 84 #[.int .i64 (-(u : Int))] w fun e w' => e = .returned (.string (decS (-(u : Int)))) ∧ Below w.heap.size w w' := by
  have hl20 : (dcK u).length ≤ 20 := by
    unfold dcK
    split
    · simp
    · exact dcN_len u (by omega)
  obtain ⟨FIN, hF⟩ : ∃ F, F = decS (-(u : Int)) := ⟨_, rfl⟩
  rw [← hF]
  have HF : Hid (FIN = { data := #[45] } ++ strOfNums (dcK u)) := Lib.hid (by
    rw [hF, decS_neg u h0, ← dcN_str]
    unfold dcK
    rw [if_neg (by omega)])
  have H20 := Lib.hid hl20
  have hneg : -(u : Int) < 0 := by omega
  clear hF hl20
  go_enter Tryz.func84, Tryz.ntmps84
  go_wp2_with fail
  go_loopw [3, 4, 5] (fun o k _ wr => ∃ (j : Nat) (A1 : Option Addr) (c1 : Nat) (xs : List Int), j ≤ u ∧ k = .int .i64 (-(j : Int)) ∧ o = .slice A1 xs.length c1 ∧ Hid (dcK u = dcK j ++ xs) ∧ Hid (Own LU 5 wr w.heap.size A1 c1 xs) ∧ Hid (Below w.heap.size w wr)) (fun _ k _ _ => (-(intOf k)).toNat)
  case atStart => exact ⟨u, _, _, [], by omega, rfl, rfl, Lib.hid (by simp), Lib.hid (Own.lit0 w (Nat.le_refl _) rfl), Lib.hid ((Below.refl _ _).alloc (Nat.le_refl _) _)⟩
  case round =>
    obtain ⟨j, A1, c1, xs, hj, rfl, rfl, HX, HO, HB⟩ := hrel
    have hsz := HB.out.size
    have hx20 : xs.length ≤ 20 := by
      have h := H20.out
      rw [HX.out, List.length_append] at h
      omega
    by_cases hz : j = 0
    · subst hz
      have HX2 : Hid (dcK u = xs) := Lib.hid (by rw [HX.out]; rfl)
      have hu : 0 < xs.length := by
        have h := HX2.out
        rw [dcK_step (by omega)] at h
        rw [← h]
        simp
      have z1 : ((xs.length : Int) == 0) = false := by rw [beq_eq_false_iff_ne]; omega
      have z2 : (xs.length == 0) = false := by rw [beq_eq_false_iff_ne]; omega
      have HR : Hid (FIN = { data := #[45] } ++ strOfNums xs) := Lib.hid (by rw [HF.out, HX2.out])
      obtain ⟨g, rfl, _, _⟩ := HO.out.ptr (by omega)
      have hcv := run_convert_bytes_arg (P := Tryz.prog) wr 22 5 Tryz.underlying22 Tryz.underlying5 g 0 xs.length c1 xs rfl (fun i hi => by
        obtain ⟨ad, e, _, hc⟩ := HO.out.rd.u8 hi
        cases e
        rw [add_lit] at hc
        rw [Nat.zero_add, hc]
        simp [List.getD, hi]) 9 Tryz.underlying9
      have hsl : (strOfNums xs).size ≤ 20 := by
        unfold strOfNums
        simp [ByteArray.size]
        exact hx20
      have a1 := fun W : World => run_string_add_sum (P := Tryz.prog) W { data := #[45] } (strOfNums xs) (by rw [show ByteArray.size { data := #[45] } = 1 from rfl]; omega)
      clear hu
      go_wp2_with fail
      go_ret
      exact ⟨by rw [HR.out]; rfl, HB.out⟩
    · obtain ⟨q, hq⟩ : ∃ q : Nat, q = j / 10 := ⟨_, rfl⟩
      obtain ⟨d, hd⟩ : ∃ d : Nat, d = j % 10 := ⟨_, rfl⟩
      have e1 : Int.tdiv (-(j : Int)) 10 = -(q : Int) := by rw [Int.neg_tdiv, Int.tdiv_eq_ediv_of_nonneg (by omega)]; omega
      have e2 : Int.tmod (-(j : Int)) 10 = -(d : Int) := by rw [Int.neg_tmod, Int.tmod_eq_emod_of_nonneg (by omega)]; omega
      have hd9 : d ≤ 9 := by omega
      have hqj : q < j := by omega
      have z1 : (-(j : Int) != 0) = true := by rw [bne_iff_ne]; omega
      have HS : Hid (dcK u = dcK q ++ ((48 + (d : Int)) :: xs)) := Lib.hid (by rw [HX.out, dcK_step hz, ← hq, ← hd, List.append_assoc]; rfl)
      have e3 : IntKind.u8.wrap (48 + (d : Int)) = 48 + (d : Int) := by
        simp [IntKind.wrap, IntKind.bits, IntKind.signed]; omega
      have hj0 : 1 ≤ j := by omega
      have hna : A1 = none → xs.length = 0 ∧ c1 = 0 := by
        intro e
        rcases HO.out.parts with ⟨_, e2, e3⟩ | ⟨_, _, e2, _⟩
        · exact ⟨by rw [e2]; rfl, e3⟩
        · rw [e2] at e; cases e
      have HNA := Lib.hid hna
      have hfl := Lib.hid ((HO.out.rd.alloc (Nat.le_refl _) (.cells #[.int .u8 (48 + (d : Int))] 5)).flat)
      clear hq hd hz hna
      by_cases hd0 : d = 0
      · subst hd0
        go_wp2_with (at_builtin; go_loud (refine wpL_app (L := LU) rowU rfl rfl _ _ rfl rfl (Own.lit (base := wr.heap.size) wr (Nat.le_refl _) rfl [48 + ((0 : Nat) : Int)] #[.int .u8 (48 + ((0 : Nat) : Int))] 1 rfl (by unfold maxLen; omega) rfl) A1 xs.length c1 xs rfl rfl (fun h => HNA.out h) (fun ad' e => hfl.out ad' e) (by unfold maxLen; simp; omega) (by simp; omega) (by simp) ?_); intro A4 c4 w4 ho4 hg4)
        clear e1 e2 e3
        go_roundw
        case rel => exact ⟨q, A4, c4, (48 + ((0 : Nat) : Int)) :: xs, by omega, by go_num, by simp, HS, Lib.hid (by simpa using ho4.lower hsz), Lib.hid (Grew.below (HB.out.alloc hsz _) hg4 (by simp; omega) (fun g hg => by simp [blk] at hg; omega))⟩
        case measure => simp [intOf]; omega
      · have hdn : -(d : Int) < 0 := by omega
        have e4 : IntKind.i64.wrap (-(-(d : Int))) = (d : Int) := by rw [Int.neg_neg]; exact wrapS (by omega) (by omega)
        go_wp2_with (at_builtin; go_loud (refine wpL_app (L := LU) rowU rfl rfl _ _ rfl rfl (Own.lit (base := wr.heap.size) wr (Nat.le_refl _) rfl [48 + (d : Int)] #[.int .u8 (48 + (d : Int))] 1 rfl (by unfold maxLen; omega) rfl) A1 xs.length c1 xs rfl rfl (fun h => HNA.out h) (fun ad' e => hfl.out ad' e) (by unfold maxLen; simp; omega) (by simp; omega) (by simp) ?_); intro A4 c4 w4 ho4 hg4)
        clear e1 e2 e3
        go_roundw
        case rel => exact ⟨q, A4, c4, (48 + (d : Int)) :: xs, by omega, by go_num, by simp, HS, Lib.hid (by simpa using ho4.lower hsz), Lib.hid (Grew.below (HB.out.alloc hsz _) hg4 (by simp; omega) (fun g hg => by simp [blk] at hg; omega))⟩
        case measure => simp [intOf]; omega
theorem l01DecAll_any (n : Int) (h0 : -1000000000000000000 ≤ n) (h1 : n ≤ 1000000000000000000) (w : World) : Calls Tryz.prog 84 #[.int .i64 n] w fun e w' => e = .returned (.string (decS n)) ∧ Below w.heap.size w w' := by
  by_cases h : 0 ≤ n
  · exact l01Dec_any n h (by omega) w
  · obtain ⟨u, rfl⟩ : ∃ u : Nat, n = -(u : Int) := ⟨n.natAbs, by omega⟩
    exact l01DecNeg_any u (by omega) (by omega) w
theorem dv_step {l : List UInt8} {k : Nat} (hk : k < l.length) {acc : Nat} (hc : 48 ≤ l[k].toNat ∧ l[k].toNat ≤ 57) : dv acc (l.drop k) = dv (acc * 10 + (l[k].toNat - 48)) (l.drop (k + 1)) := by
  rw [List.drop_eq_getElem_cons hk, dv, if_pos hc]
theorem dv_stop {l : List UInt8} {k : Nat} (hk : k < l.length) {acc : Nat} (hc : ¬ (48 ≤ l[k].toNat ∧ l[k].toNat ≤ 57)) : dv acc (l.drop k) = none := by
  rw [List.drop_eq_getElem_cons hk, dv, if_neg hc]
def sgN (u : Nat) : Int := -(u : Int)
def sgP (u : Nat) : Int := (u : Int)
set_option maxRecDepth 100000 in
set_option maxHeartbeats 3200000 in
theorem l01Number_any (s : ByteArray) (w : World) (hs : s.size ≤ 1048576) :
    Calls Tryz.prog 61 #[.string s] w fun e w' => e = .returned (.tuple #[.int .i64 ((rdN s.data.toList).getD 0), .bool (rdN s.data.toList).isSome]) ∧ Below w.heap.size w w' := by
  obtain ⟨FIN, hF⟩ : ∃ F, F = rdN s.data.toList := ⟨_, rfl⟩
  rw [← hF]
  rw [← rdS_eq] at hF
  have hsz := size_data s
  cases hl0 : s.data.toList with
  | nil =>
    have HR : Hid (FIN = none) := Lib.hid (by rw [hF, hl0]; rfl)
    obtain rfl : s = { data := #[] } := bs_eq hl0
    clear hF hl0 hsz hs
    go_enter Tryz.func61, Tryz.ntmps61
    go_wp2_with fail
    go_ret2
    exact ⟨by rw [HR.out]; rfl, Below.refl _ _⟩
  | cons c0 r0 =>
  have hpos : 0 < s.size := by rw [← hsz, hl0]; simp
  have hposi : (0 : Int) < s.size := by omega
  have h0c : s[0] = c0 := by
    have : s[0] = s.data.toList[0]'(by rw [hsz]; exact hpos) := rfl
    rw [this]
    simp only [hl0]
    rfl
  have hne : s ≠ { data := #[] } := by intro e; rw [e] at hl0; cases hl0
  have y1 : s.toList.isEmpty = false := by
    rw [Lib.toList_data, hl0]
    rfl
  have y2 : (!s.toList.isEmpty) = true := by rw [y1]; rfl
  by_cases hc : c0 = 45
  · obtain ⟨T, hT⟩ : ∃ T, T = s.extract 1 s.size := ⟨_, rfl⟩
    have htr : trm s.data.toList = r0 := by rw [hl0, trm_cons, if_pos hc]
    have hTd : T.data.toList = trm s.data.toList := by
      rw [htr, hT, extract_bs s 1 s.size (by omega) (Nat.le_refl _), bs_data, hl0, ← hsz, hl0]
      simp
    have hTs : T.size = (trm s.data.toList).length := by rw [← size_data, hTd]
    have hlt0 : (trm s.data.toList).length < s.data.toList.length := by rw [htr, hl0]; simp
    have hlt1 : T.size < s.size := by rw [hTs, ← hsz]; exact hlt0
    have hlt2 : (T.size : Int) < s.size := by omega
    replace hF : FIN = if 1 ≤ (trm s.data.toList).length ∧ (trm s.data.toList).length ≤ 18 then (match dv 0 (trm s.data.toList) with | some u => if Lib.itoa (sgN u) = s.data.toList then some (sgN u) else none | none => none) else none := by
      rw [hF]
      unfold rdS sgd sgN
      split
      · cases dv 0 (trm s.data.toList) with
        | none => rfl
        | some u => simp only [if_pos hlt0]
      · rfl
    have z1 : ((s[0].toNat : Int) == 45) = true := by rw [h0c, hc]; rfl
    have z2 : (s[0].toNat == 45) = true := by rw [h0c, hc]; rfl
    have z3 : (s[0].toNat : Int) = 45 := by rw [h0c, hc]; rfl
    clear h0c hne htr hl0 hc
    go_enter Tryz.func61, Tryz.ntmps61
    go_upto_region 4 with fail
    rw [← hT]
    clear hT z1 z2 z3 y1 y2
    have hT : True := trivial
    obtain ⟨tl, htl⟩ : ∃ tl, tl = T.data.toList := ⟨_, rfl⟩
    rw [hTd] at htl
    have hTl : T.size = tl.length := by rw [hTs, htl]
    rw [← htl] at hF hlt0
    have hidx : ∀ (k : Nat) (h : k < T.size) (h' : k < tl.length), T[k] = tl[k] := by
      intro k h _
      have : T.data.toList = tl := by rw [hTd, htl]
      subst this
      rfl
    by_cases hl : 1 ≤ tl.length ∧ tl.length ≤ 18
    rotate_left
    · have HR : Hid (FIN = none) := Lib.hid (by rw [hF, if_neg hl])
      clear hF hidx htl hTd hTs hT hlt0
      by_cases h1 : T.size < 1
      · first
        | (exfalso; omega; done)
        | (have h2 : (T.size : Int) < 1 := by omega
           go_wp2_with fail
           go_ret2
           exact ⟨by rw [HR.out]; rfl, Below.refl _ _⟩)
      · have h2 : (1 : Int) ≤ T.size := by omega
        have h3 : 18 < T.size := by omega
        have h4 : (18 : Int) < T.size := by omega
        go_wp2_with fail
        go_ret2
        exact ⟨by rw [HR.out]; rfl, Below.refl _ _⟩
    have HV : Hid (FIN = match dv 0 tl with | some u => if Lib.itoa (sgN u) = s.data.toList then some (sgN u) else none | none => none) := Lib.hid (by rw [hF, if_pos hl])
    obtain ⟨hl1, hl2⟩ := hl
    have h1 : 1 ≤ T.size := by omega
    have h2 : (1 : Int) ≤ T.size := by omega
    have h3 : T.size ≤ 18 := by omega
    have h4 : (T.size : Int) ≤ 18 := by omega
    have HI := Lib.hid hidx
    have HTL := Lib.hid hTl
    clear hF hidx htl hTd hTs hT
    go_wp2_with fail
    go_loopw [5, 6] (fun n i wr => ∃ (k u : Nat), k ≤ T.size ∧ i = .int .i64 k ∧ n = .int .i64 u ∧ Hid (dv 0 tl = dv u (tl.drop k)) ∧ Hid (u < 10 ^ k) ∧ Hid (Below w.heap.size w wr)) (fun _ i _ => T.size - (intOf i).toNat)
    case atStart => exact ⟨0, 0, by omega, rfl, rfl, Lib.hid rfl, Lib.hid (by omega), Lib.hid (Below.refl _ _)⟩
    case round =>
      obtain ⟨k, u, hk, rfl, rfl, HD, HU, HB⟩ := hrel
      by_cases hlt : k < T.size
      · have hki : (k : Int) < T.size := by omega
        have hkl : k < tl.length := by have := HTL.out; omega
        have hcc := HI.out k hlt hkl
        have hu17 : u < 100000000000000000 := by
          have := HU.out
          have h2 : 10 ^ k ≤ 10 ^ 17 := Nat.pow_le_pow_right (by omega) (by omega)
          exact Nat.lt_of_lt_of_le this (Nat.le_trans h2 (by decide))
        by_cases hdg : 48 ≤ T[k].toNat ∧ T[k].toNat ≤ 57
        · have hd2 : isDgt (T[k].toNat : Int) = true := by simp [isDgt]; omega
          obtain ⟨v, hv⟩ : ∃ v : Nat, v = u * 10 + (T[k].toNat - 48) := ⟨_, rfl⟩
          have HD2 : Hid (dv 0 tl = dv v (tl.drop (k + 1))) := Lib.hid (by rw [HD.out, dv_step hkl (by rw [← hcc]; exact hdg), ← hcc, hv])
          have HU2 : Hid (v < 10 ^ (k + 1)) := Lib.hid (by have := HU.out; rw [Nat.pow_succ]; omega)
          have hc0 := rdDigit_any (T[k].toNat : Int) wr
          rw [hd2] at hc0
          obtain ⟨c, hc⟩ : ∃ c : Nat, c = T[k].toNat := ⟨_, rfl⟩
          have ec : ((T[k].toNat : Nat) : Int) = (c : Int) := by rw [hc]
          rw [← hc] at hdg hv
          have e1 : IntKind.i64.wrap (10 * (u : Int)) = 10 * (u : Int) := wrapS (by omega) (by omega)
          have e2 : IntKind.u8.wrap ((c : Int) - 48) = (c : Int) - 48 := by simp [IntKind.wrap, IntKind.bits, IntKind.signed]; omega
          have e3 : IntKind.i64.wrap ((c : Int) - 48) = (c : Int) - 48 := wrapS (by omega) (by omega)
          have e4 : IntKind.i64.wrap (10 * (u : Int) + ((c : Int) - 48)) = (v : Int) := by rw [wrapS (by omega) (by omega)]; omega
          rw [ec] at hc0
          clear hd2 hcc hkl
          go_wp2_with fail
          refine hc0.mono ?_
          rintro e w1 ⟨rfl, rfl⟩
          go_wp2_with fail
          go_roundw
          case rel => exact ⟨k + 1, v, by omega, by go_num, by first | rfl | (congr 1; done) | (congr 1; omega), HD2, HU2, HB⟩
          case measure => simp [intOf]; omega
        · have hd2 : isDgt (T[k].toNat : Int) = false := by simp [isDgt]; omega
          have HR : Hid (FIN = none) := Lib.hid (by rw [HV.out, HD.out, dv_stop hkl (by rw [← hcc]; exact hdg)])
          have hc0 := rdDigit_any (T[k].toNat : Int) wr
          rw [hd2] at hc0
          clear hd2 hcc hkl hdg
          go_wp2_with fail
          refine hc0.mono ?_
          rintro e w1 ⟨rfl, rfl⟩
          go_wp2_with fail
          go_ret2
          exact ⟨by rw [HR.out]; rfl, HB.out⟩
      · obtain rfl : k = T.size := by omega
        have hu18 : u < 1000000000000000000 := by
          have := HU.out
          have h2 : 10 ^ T.size ≤ 10 ^ 18 := Nat.pow_le_pow_right (by omega) (by omega)
          exact Nat.lt_of_lt_of_le this (Nat.le_trans h2 (by decide))
        have hd0 : dv 0 tl = some u := by
          rw [HD.out, HTL.out, List.drop_of_length_le (Nat.le_refl _)]
          rfl
        have HV2 : Hid (FIN = if Lib.itoa (sgN u) = s.data.toList then some (sgN u) else none) := Lib.hid (by rw [HV.out, hd0])
        have eg : IntKind.i64.wrap (-(u : Int)) = -(u : Int) := wrapS (by omega) (by omega)
        obtain ⟨g, hg⟩ : ∃ g, g = sgN u := ⟨_, rfl⟩
        have hgb : -1000000000000000000 ≤ g ∧ g ≤ 1000000000000000000 := by rw [hg]; unfold sgN; omega
        have hdc := l01DecAll_any g hgb.1 hgb.2 wr
        rw [← hg] at HV2
        unfold sgN at hg
        clear hd0 HD HU HV
        by_cases he : Lib.itoa g = s.data.toList
        · have HR : Hid (FIN = some g) := Lib.hid (by rw [HV2.out, if_pos he])
          have hde : decS g = s := by rw [decS_bs, he, bs_self]
          rw [hde] at hdc
          clear he hde HV2
          subst hg
          go_wp2_with fail
          refine hdc.mono ?_
          rintro e w2 ⟨rfl, hb2⟩
          have HB2 := Lib.hid (bthen HB.out (Nat.le_refl _) hb2)
          clear hb2 hdc
          go_wp2_with fail
          go_ret2
          exact ⟨by rw [HR.out]; rfl, HB2.out⟩
        · have HR : Hid (FIN = none) := Lib.hid (by rw [HV2.out, if_neg he])
          have hde : decS g ≠ s := by
            intro e
            rw [← e, decS_bs, bs_data] at he
            exact he rfl
          have z1 := str_ne hde
          have z2 : ((decS g).toList != s.toList) = true := by rw [bne, z1]; rfl
          generalize decS g = ds at *
          clear he hde HV2
          subst hg
          go_wp2_with fail
          refine hdc.mono ?_
          rintro e w2 ⟨rfl, hb2⟩
          have HB2 := Lib.hid (bthen HB.out (Nat.le_refl _) hb2)
          clear hb2 hdc
          go_wp2_with fail
          go_ret2
          exact ⟨by rw [HR.out]; rfl, HB2.out⟩
  · have htr : trm s.data.toList = s.data.toList := by rw [hl0, trm_cons, if_neg hc]
    have hTd : s.data.toList = trm s.data.toList := htr.symm
    have hTs : s.size = (trm s.data.toList).length := by rw [htr, size_data]
    have hlt0 : ¬ (trm s.data.toList).length < s.data.toList.length := by rw [htr]; omega
    replace hF : FIN = if 1 ≤ (trm s.data.toList).length ∧ (trm s.data.toList).length ≤ 18 then (match dv 0 (trm s.data.toList) with | some u => if Lib.itoa (sgP u) = s.data.toList then some (sgP u) else none | none => none) else none := by
      rw [hF]
      unfold rdS sgd sgP
      split
      · cases dv 0 (trm s.data.toList) with
        | none => rfl
        | some u => simp only [if_neg hlt0]
      · rfl
    have hn45 : s[0].toNat ≠ 45 := by
      rw [h0c]
      intro e
      exact hc (UInt8.toNat_inj.1 e)
    have z1 : ((s[0].toNat : Int) == 45) = false := by rw [beq_eq_false_iff_ne]; omega
    have z2 : (s[0].toNat == 45) = false := by rw [beq_eq_false_iff_ne]; exact hn45
    have HTd := Lib.hid hTd
    have HTs := Lib.hid hTs
    clear h0c hne htr hl0 hc hTd hTs
    go_enter Tryz.func61, Tryz.ntmps61
    go_upto_region 4 with fail
    clear z1 z2 y1 y2 hn45
    have hT : True := trivial
    have hTd := HTd.out
    have hTs := HTs.out
    clear HTd HTs
    obtain ⟨tl, htl⟩ : ∃ tl, tl = s.data.toList := ⟨_, rfl⟩
    rw [hTd] at htl
    have hTl : s.size = tl.length := by rw [hTs, htl]
    rw [← htl] at hF hlt0
    have hidx : ∀ (k : Nat) (h : k < s.size) (h' : k < tl.length), s[k] = tl[k] := by
      intro k h _
      have : s.data.toList = tl := by rw [hTd, htl]
      subst this
      rfl
    by_cases hl : 1 ≤ tl.length ∧ tl.length ≤ 18
    rotate_left
    · have HR : Hid (FIN = none) := Lib.hid (by rw [hF, if_neg hl])
      clear hF hidx htl hTd hTs hT hlt0
      by_cases h1 : s.size < 1
      · first
        | (exfalso; omega; done)
        | (have h2 : (s.size : Int) < 1 := by omega
           go_wp2_with fail
           go_ret2
           exact ⟨by rw [HR.out]; rfl, Below.refl _ _⟩)
      · have h2 : (1 : Int) ≤ s.size := by omega
        have h3 : 18 < s.size := by omega
        have h4 : (18 : Int) < s.size := by omega
        go_wp2_with fail
        go_ret2
        exact ⟨by rw [HR.out]; rfl, Below.refl _ _⟩
    have HV : Hid (FIN = match dv 0 tl with | some u => if Lib.itoa (sgP u) = s.data.toList then some (sgP u) else none | none => none) := Lib.hid (by rw [hF, if_pos hl])
    obtain ⟨hl1, hl2⟩ := hl
    have h1 : 1 ≤ s.size := by omega
    have h2 : (1 : Int) ≤ s.size := by omega
    have h3 : s.size ≤ 18 := by omega
    have h4 : (s.size : Int) ≤ 18 := by omega
    have HI := Lib.hid hidx
    have HTL := Lib.hid hTl
    clear hF hidx htl hTd hTs hT
    go_wp2_with fail
    go_loopw [5, 6] (fun n i wr => ∃ (k u : Nat), k ≤ s.size ∧ i = .int .i64 k ∧ n = .int .i64 u ∧ Hid (dv 0 tl = dv u (tl.drop k)) ∧ Hid (u < 10 ^ k) ∧ Hid (Below w.heap.size w wr)) (fun _ i _ => s.size - (intOf i).toNat)
    case atStart => exact ⟨0, 0, by omega, rfl, rfl, Lib.hid rfl, Lib.hid (by omega), Lib.hid (Below.refl _ _)⟩
    case round =>
      obtain ⟨k, u, hk, rfl, rfl, HD, HU, HB⟩ := hrel
      by_cases hlt : k < s.size
      · have hki : (k : Int) < s.size := by omega
        have hkl : k < tl.length := by have := HTL.out; omega
        have hcc := HI.out k hlt hkl
        have hu17 : u < 100000000000000000 := by
          have := HU.out
          have h2 : 10 ^ k ≤ 10 ^ 17 := Nat.pow_le_pow_right (by omega) (by omega)
          exact Nat.lt_of_lt_of_le this (Nat.le_trans h2 (by decide))
        by_cases hdg : 48 ≤ s[k].toNat ∧ s[k].toNat ≤ 57
        · have hd2 : isDgt (s[k].toNat : Int) = true := by simp [isDgt]; omega
          obtain ⟨v, hv⟩ : ∃ v : Nat, v = u * 10 + (s[k].toNat - 48) := ⟨_, rfl⟩
          have HD2 : Hid (dv 0 tl = dv v (tl.drop (k + 1))) := Lib.hid (by rw [HD.out, dv_step hkl (by rw [← hcc]; exact hdg), ← hcc, hv])
          have HU2 : Hid (v < 10 ^ (k + 1)) := Lib.hid (by have := HU.out; rw [Nat.pow_succ]; omega)
          have hc0 := rdDigit_any (s[k].toNat : Int) wr
          rw [hd2] at hc0
          obtain ⟨c, hc⟩ : ∃ c : Nat, c = s[k].toNat := ⟨_, rfl⟩
          have ec : ((s[k].toNat : Nat) : Int) = (c : Int) := by rw [hc]
          rw [← hc] at hdg hv
          have e1 : IntKind.i64.wrap (10 * (u : Int)) = 10 * (u : Int) := wrapS (by omega) (by omega)
          have e2 : IntKind.u8.wrap ((c : Int) - 48) = (c : Int) - 48 := by simp [IntKind.wrap, IntKind.bits, IntKind.signed]; omega
          have e3 : IntKind.i64.wrap ((c : Int) - 48) = (c : Int) - 48 := wrapS (by omega) (by omega)
          have e4 : IntKind.i64.wrap (10 * (u : Int) + ((c : Int) - 48)) = (v : Int) := by rw [wrapS (by omega) (by omega)]; omega
          rw [ec] at hc0
          clear hd2 hcc hkl
          go_wp2_with fail
          refine hc0.mono ?_
          rintro e w1 ⟨rfl, rfl⟩
          go_wp2_with fail
          go_roundw
          case rel => exact ⟨k + 1, v, by omega, by go_num, by first | rfl | (congr 1; done) | (congr 1; omega), HD2, HU2, HB⟩
          case measure => simp [intOf]; omega
        · have hd2 : isDgt (s[k].toNat : Int) = false := by simp [isDgt]; omega
          have HR : Hid (FIN = none) := Lib.hid (by rw [HV.out, HD.out, dv_stop hkl (by rw [← hcc]; exact hdg)])
          have hc0 := rdDigit_any (s[k].toNat : Int) wr
          rw [hd2] at hc0
          clear hd2 hcc hkl hdg
          go_wp2_with fail
          refine hc0.mono ?_
          rintro e w1 ⟨rfl, rfl⟩
          go_wp2_with fail
          go_ret2
          exact ⟨by rw [HR.out]; rfl, HB.out⟩
      · obtain rfl : k = s.size := by omega
        have hu18 : u < 1000000000000000000 := by
          have := HU.out
          have h2 : 10 ^ s.size ≤ 10 ^ 18 := Nat.pow_le_pow_right (by omega) (by omega)
          exact Nat.lt_of_lt_of_le this (Nat.le_trans h2 (by decide))
        have hd0 : dv 0 tl = some u := by
          rw [HD.out, HTL.out, List.drop_of_length_le (Nat.le_refl _)]
          rfl
        have HV2 : Hid (FIN = if Lib.itoa (sgP u) = s.data.toList then some (sgP u) else none) := Lib.hid (by rw [HV.out, hd0])
        have eg : IntKind.i64.wrap (-(u : Int)) = -(u : Int) := wrapS (by omega) (by omega)
        obtain ⟨g, hg⟩ : ∃ g, g = sgP u := ⟨_, rfl⟩
        have hgb : -1000000000000000000 ≤ g ∧ g ≤ 1000000000000000000 := by rw [hg]; unfold sgP; omega
        have hdc := l01DecAll_any g hgb.1 hgb.2 wr
        rw [← hg] at HV2
        unfold sgP at hg
        clear hd0 HD HU HV
        by_cases he : Lib.itoa g = s.data.toList
        · have HR : Hid (FIN = some g) := Lib.hid (by rw [HV2.out, if_pos he])
          have hde : decS g = s := by rw [decS_bs, he, bs_self]
          rw [hde] at hdc
          clear he hde HV2
          subst hg
          go_wp2_with fail
          refine hdc.mono ?_
          rintro e w2 ⟨rfl, hb2⟩
          have HB2 := Lib.hid (bthen HB.out (Nat.le_refl _) hb2)
          clear hb2 hdc
          go_wp2_with fail
          go_ret2
          exact ⟨by rw [HR.out]; rfl, HB2.out⟩
        · have HR : Hid (FIN = none) := Lib.hid (by rw [HV2.out, if_neg he])
          have hde : decS g ≠ s := by
            intro e
            rw [← e, decS_bs, bs_data] at he
            exact he rfl
          have z1 := str_ne hde
          have z2 : ((decS g).toList != s.toList) = true := by rw [bne, z1]; rfl
          generalize decS g = ds at *
          clear he hde HV2
          subst hg
          go_wp2_with fail
          refine hdc.mono ?_
          rintro e w2 ⟨rfl, hb2⟩
          have HB2 := Lib.hid (bthen HB.out (Nat.le_refl _) hb2)
          clear hb2 hdc
          go_wp2_with fail
          go_ret2
          exact ⟨by rw [HR.out]; rfl, HB2.out⟩
end Go.Proofs.YtehmghlhljocbaaGreatDoor
