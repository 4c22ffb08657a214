/-
  Yards: LoadPacks of the reference.
-/
import Derived.Test.YtiefiikheaiekaaDoorYardK
import Derived.Test.YtiefiikheaiekaaDoorYardL
namespace Go.Proofs.YtiefiikheaiekaaDoor
open Go.ChangeShapes Go.WideShapes Go.RowKit

theorem ldR_step {o : List Int} {ms : List (Int × Int)} {k : Nat} (h : k < ms.length) (X : List (List Int)) (d : Nat) : ldR o (ms.drop k) X d = if mvOk X ms[k].1 ms[k].2 = true then (if ms[k].2 < 0 then (if d < o.length ∧ topL (X.getD ms[k].1.toNat []) = o.getD d 0 then ldR o (ms.drop (k + 1)) (mvX X ms[k].1 ms[k].2) (d + 1) else none) else ldR o (ms.drop (k + 1)) (mvX X ms[k].1 ms[k].2) d) else none := by
  rw [List.drop_eq_getElem_cons h]
  rfl

set_option maxRecDepth 100000 in
set_option maxHeartbeats 6400000 in
theorem specLoadPacks_any (A : Option Addr) (c : Nat) (rs : List (Row Int)) (A1 : Option Addr) (c1 : Nat) (o : List Int) (A2 : Option Addr) (c2 : Nat) (ms : List MoveD) (w : World) (hr : RdR LI w w.heap.size A c rs) (hro : Rd LI w w.heap.size A1 c1 o) (hrm : Rd LMove w w.heap.size A2 c2 ms) (hn : tlL (dat rs) ≤ 1048576) (hnil : ∀ r ∈ rs, r.1 = none → r.2.1 = 0) (hm64 : ∀ m ∈ ms, OkMove m) :
    Calls Tryd.prog 24 #[.slice A rs.length c, .slice A1 o.length c1, .slice A2 ms.length c2] w fun e w' => ∃ A3 c3 os, e = .returned (.tuple #[.slice A3 os.length c3, .int .i64 (ldP (dat rs) o ms).2]) ∧ OwnR LI 23 2 w' w.heap.size A3 c3 os ∧ dat os = (ldP (dat rs) o ms).1 ∧ Below w.heap.size w w' := by
  have hlen := hr.len63
  have hleno := hro.len63
  have hlenm := hrm.len63
  have hc := l20Code_any A c rs A1 c1 o w hr hn hro
  obtain ⟨FIN, hF⟩ : ∃ F, F = ldP (dat rs) o ms := ⟨_, rfl⟩
  rw [← hF]
  by_cases h0 : ocP (dat rs) o = 0
  rotate_left
  · have HR : Hid (FIN = ([], ocP (dat rs) o)) := Lib.hid (by rw [hF]; unfold ldP; rw [if_neg h0])
    have hne : (ocP (dat rs) o != 0) = true := by rw [bne_iff_ne]; exact h0
    have hne2 : (ocP (dat rs) o == 0) = false := by rw [beq_eq_false_iff_ne]; exact h0
    clear h0 hF
    generalize ocP (dat rs) o = oc at *
    go_enter Tryd.func24, Tryd.ntmps24
    go_wp2_with fail
    refine hc.mono ?_
    rintro e w1 ⟨rfl, hb1⟩
    go_wp2_with fail
    go_ret2
    exact ⟨none, 0, [], by rw [HR.out]; rfl, OwnR.none_, by rw [HR.out]; rfl, hb1⟩
  have hv : vyB (dat rs) = true := by
    unfold ocP at h0
    split at h0
    · assumption
    · omega
  obtain ⟨hv1, hv2⟩ := vy_rows hv
  rw [dat_len] at hv1
  by_cases h100 : ms.length ≤ 100
  rotate_left
  · have HR : Hid (FIN = ([], 2)) := Lib.hid (by rw [hF]; unfold ldP; rw [if_pos h0, if_neg h100])
    rw [h0] at hc
    have h1 : 100 < ms.length := by omega
    have h2 : (100 : Int) < ms.length := by omega
    clear h0 hF h100 hv hv2
    go_enter Tryd.func24, Tryd.ntmps24
    go_wp2_with fail
    refine hc.mono ?_
    rintro e w1 ⟨rfl, hb1⟩
    go_wp2_with fail
    go_ret2
    exact ⟨none, 0, [], by rw [HR.out]; rfl, OwnR.none_, by rw [HR.out]; rfl, hb1⟩
  have HV : Hid (FIN = (match finR o (ldR o ms (dat rs) 0) with | none => ([], 6) | some Y => (Y, 0))) := Lib.hid (by
    have e := ld_same o ms (dat rs) 0 (Nat.zero_le _)
    rw [List.take_zero] at e
    rw [hF, e]; unfold ldP; rw [if_pos h0, if_pos h100]; cases finI o (ldI ms (dat rs) []) <;> rfl)
  rw [h0] at hc
  have h100i : (ms.length : Int) ≤ 100 := by omega
  have HV2 := Lib.hid hv2
  have HM64 := Lib.hid hm64
  have HDL := Lib.hid (dat_len rs)
  have HRB : Hid (∀ r ∈ rs, r.2.2.length ≤ 1048576) := Lib.hid (row_bd hn)
  have HNIL := Lib.hid hnil
  clear h0 hF hv hv2 hm64 hn hnil
  go_enter Tryd.func24, Tryd.ntmps24
  go_wp2_with fail
  refine hc.mono ?_
  rintro e w1 ⟨rfl, hb1⟩
  have HB1 := Lib.hid hb1
  have hz1 := hb1.size
  have hcp := l20Copy_any A c rs w.heap.size w1 (hr.below hb1) hz1 HNIL.out (by omega) HRB.out
  clear hc hb1
  go_wp2_with fail
  refine hcp.mono ?_
  rintro e w2 ⟨A0, c0, os0, he0, ho0, hd0, hb0⟩
  have hl0 : os0.length = rs.length := by rw [← dat_len, hd0, dat_len]
  rw [hl0] at he0
  subst he0
  have HO0 := Lib.hid ho0
  have HD0 := Lib.hid hd0
  have HL0 := Lib.hid hl0
  have HB0 := Lib.hid hb0
  have hz0 := hb0.size
  clear hcp ho0 hd0 hl0 hb0
  go_wp2_with fail
  go_loopw [9, 10, 11] (fun ou dn i wr => ∃ (k : Nat) (A3 : Option Addr) (c3 : Nat) (os : List (Row Int)) (d : Nat), k ≤ ms.length ∧ i = .int .i64 k ∧ ou = .slice A3 rs.length c3 ∧ dn = .int .i64 d ∧ d ≤ o.length ∧ d ≤ k ∧ Hid (os.length = rs.length) ∧ Hid (ldR o ms (dat rs) 0 = ldR o (ms.drop k) (dat os) d) ∧ Hid (∀ r ∈ dat os, r.length ≤ 6 + k) ∧ Hid (OwnR LI 23 2 wr w1.heap.size A3 c3 os) ∧ w1.heap.size ≤ wr.heap.size ∧ Hid (Below w1.heap.size w1 wr)) (fun _ _ i _ => ms.length - (intOf i).toNat)
  case atStart => exact ⟨0, A0, c0, os0, 0, by omega, rfl, rfl, rfl, by omega, by omega, HL0, Lib.hid (by rw [HD0.out]; rfl), Lib.hid (by rw [HD0.out]; exact HV2.out), HO0, hz0, HB0⟩
  case round =>
    obtain ⟨k, A3, c3, os, d, hk, rfl, rfl, rfl, hdo, hdk, HOL, HI, HRL, HO, hsz, HBW⟩ := hrel
    have HBw := Lib.hid (HB1.out.trans (HBW.out.mono hz1))
    by_cases hlt : k < ms.length
    · have hli : (k : Int) < ms.length := by omega
      obtain ⟨f, hf⟩ : ∃ f, f = ms[k].1 := ⟨_, rfl⟩
      obtain ⟨t, ht⟩ : ∃ t, t = ms[k].2 := ⟨_, rfl⟩
      have HSTEP := Lib.hid (ldR_step (o := o) hlt (dat os) d)
      obtain ⟨ad', rfl, hadb, hc0, hc1⟩ := rdMove (hrm.below HBw.out) hlt
      rw [← hf] at HSTEP hc0
      rw [← ht] at HSTEP hc1
      clear hf ht
      have hrb : ∀ r ∈ os, r.2.2.length ≤ 1048576 := fun r hr => by
        have := HRL.out r.2.2 (List.mem_map.2 ⟨r, hr, rfl⟩)
        omega
      have HRX := Lib.hid hrb
      have hmay := l20May_any A3 c3 os f t wr.heap.size wr HO.out.rd (Nat.le_refl _) (by rw [HOL.out]; omega)
      rw [HOL.out] at hmay
      clear hrb
      cases hok : mvOk (dat os) f t
      · have HR : Hid (FIN = ([], 6)) := Lib.hid (by rw [HV.out, HI.out, HSTEP.out, if_neg (by simp [hok])]; rfl)
        rw [hok] at hmay
        clear hok
        go_wp2_with fail
        refine hmay.mono ?_
        rintro e wq ⟨rfl, hb2⟩
        have HB2 := Lib.hid (HBw.out.trans (hb2.mono (by omega)))
        clear hmay hb2
        go_wp2_with fail
        go_ret2
        exact ⟨none, 0, [], by rw [HR.out]; rfl, OwnR.none_, by rw [HR.out]; rfl, HB2.out⟩
      · have HST := Lib.hid (HI.out.trans (HSTEP.out.trans (if_pos hok)))
        have HOK := Lib.hid hok
        obtain ⟨m1, m2, m3, m4, m5, m6⟩ := mvOk_iff.1 hok
        rw [dat_len, HOL.out] at m2 m6
        obtain ⟨fN, rfl⟩ : ∃ fN : Nat, f = (fN : Int) := ⟨f.toNat, by omega⟩
        have hfl : fN < rs.length := by omega
        have hfli : (fN : Int) < rs.length := by omega
        have hfo : fN < os.length := by rw [HOL.out]; exact hfl
        rw [hok] at hmay
        clear hok m3 m4 m5 m6
        go_wp2_with fail
        refine hmay.mono ?_
        rintro e wq ⟨rfl, hb2⟩
        have q0 := (hb2.cell (p := ad'.add (k * 2)) (by rw [block_of_add]; omega)).trans hc0
        have q1 := (hb2.cell (p := ⟨(ad'.add (k * 2)).block, (ad'.add (k * 2)).off + 1, none⟩) (by show (ad'.add _).block < _; rw [block_of_add]; omega)).trans hc1
        have hsq := hb2.size
        have HOQ := Lib.hid (HO.out.below hb2)
        have HBQ := Lib.hid (HBW.out.trans (hb2.mono hsz))
        have HBq := Lib.hid (HBw.out.trans (hb2.mono (by omega)))
        have hmv := fun n => l20Move_any A3 c3 os fN t (wq.drewN n) (HOQ.out.drewN n).rd (nil_of HOQ.out) (by rw [HOL.out]; omega) HRX.out HOK.out
        rw [HOL.out] at hmv
        clear hmay hb2 hc0 hc1
        by_cases ht0 : t < 0
        · have HT0 := Lib.hid ht0
          by_cases hdd : d = o.length
          · have HR : Hid (FIN = ([], 6)) := Lib.hid (by rw [HV.out, HST.out, if_pos HT0.out, if_neg (by omega)]; rfl)
            have z1 : ((d : Int) == (o.length : Int)) = true := by rw [beq_iff_eq]; omega
            have z2 : (d == o.length) = true := by rw [beq_iff_eq]; exact hdd
            clear hmv hdd
            go_wp2_with fail
            go_quiet (fail)
            go_wp2_with fail
            go_ret2
            exact ⟨none, 0, [], by rw [HR.out]; rfl, OwnR.none_, by rw [HR.out]; rfl, below_drewN HBq.out _⟩
          · have hdl : d < o.length := by omega
            have hdli : (d : Int) < o.length := by omega
            have z1 : ((d : Int) == (o.length : Int)) = false := by rw [beq_eq_false_iff_ne]; omega
            have z2 : (d == o.length) = false := by rw [beq_eq_false_iff_ne]; exact hdd
            obtain ⟨gA, rfl, _, _, hcF, _, hrowF⟩ := HOQ.out.at_ hfo
            obtain ⟨ao, rfl, _, hco⟩ := (hro.below HBq.out).int hdl
            obtain ⟨od, hod⟩ : ∃ p, p = o[d] := ⟨_, rfl⟩
            rw [← hod] at hco
            have HOD : Hid (o.getD d 0 = od) := Lib.hid (by rw [getD_lt o 0 hdl, hod])
            have htp := fun n => l20TopY_any os[fN].1 os[fN].2.1 os[fN].2.2 wq.heap.size (wq.drewN n) (hrowF.rd.drewN n)
            have HG := Lib.hid (getD_datY os fN hfo)
            generalize os[fN].2.2 = zs at *
            generalize os[fN].1 = Az at *
            generalize os[fN].2.1 = cz at *
            obtain ⟨tz, htz⟩ : ∃ tz, tz = topL zs := ⟨_, rfl⟩
            have HTZ : Hid (topL ((dat os).getD ((fN : Int)).toNat []) = tz) := Lib.hid (by rw [Int.toNat_natCast, HG.out, htz])
            rw [← htz] at htp
            clear htz hrowF hod hdd
            by_cases hto : tz = od
            · have y1 : (tz != od) = false := by rw [bne_eq_false_iff_eq]; exact hto
              have HST2 := Lib.hid (HST.out.trans ((if_pos HT0.out).trans (if_pos (show _ ∧ _ from ⟨hdl, by rw [HTZ.out, HOD.out]; exact hto⟩))))
              clear hto
              go_wp2_with fail
              go_quiet ((go_at_call 43; exact quiet_left (htp _)))
              go_wp2_with fail
              refine (hmv _).mono ?_
              rintro e w3 ⟨A4, c4, os4, he4, ho4, hd4, hb3⟩
              have hl4 : os4.length = rs.length := by rw [← dat_len, hd4, mvX_len, dat_len, HOL.out]
              rw [hl4] at he4
              subst he4
              have hs3 : wq.heap.size ≤ w3.heap.size := hb3.size
              have HB3 := Lib.hid ((below_drewN HBQ.out _).trans (hb3.mono (show w1.heap.size ≤ wq.heap.size by omega)))
              have HO4 := Lib.hid (ho4.lower (show w1.heap.size ≤ wq.heap.size by omega))
              have HL4 := Lib.hid hl4
              have HD4 := Lib.hid hd4
              have HRL4 : Hid (∀ r ∈ dat os4, r.length ≤ 6 + (k + 1)) := Lib.hid (by rw [hd4]; exact mv_rows HRL.out)
              clear hb3 ho4 hd4 hl4 hmv htp
              go_wp2_with fail
              go_roundw
              case rel => exact ⟨k + 1, A4, c4, os4, d + 1, by omega, by go_num, rfl, by go_num, by omega, by omega, HL4, Lib.hid (by rw [HST2.out]; rw [HD4.out]), HRL4, HO4, by omega, HB3⟩
              case measure => simp [intOf]; omega
            · have y1 : (tz != od) = true := by rw [bne_iff_ne]; exact hto
              have HR : Hid (FIN = ([], 6)) := Lib.hid (by rw [HV.out, HST.out, if_pos HT0.out, if_neg (fun h => hto (by rw [← HTZ.out, h.2, HOD.out]))]; rfl)
              clear hto hmv
              go_wp2_with fail
              go_quiet ((go_at_call 43; exact quiet_left (htp _)))
              go_wp2_with fail
              go_ret2
              exact ⟨none, 0, [], by rw [HR.out]; rfl, OwnR.none_, by rw [HR.out]; rfl, below_drewN HBq.out _⟩
        · have HT0 := Lib.hid ht0
          have HST2 := Lib.hid (HST.out.trans (if_neg ht0))
          go_wp2_with fail
          refine (hmv 0).mono ?_
          rintro e w3 ⟨A4, c4, os4, he4, ho4, hd4, hb3⟩
          have hl4 : os4.length = rs.length := by rw [← dat_len, hd4, mvX_len, dat_len, HOL.out]
          rw [hl4] at he4
          subst he4
          have hs3 : wq.heap.size ≤ w3.heap.size := hb3.size
          have HB3 := Lib.hid ((below_drewN HBQ.out _).trans (hb3.mono (show w1.heap.size ≤ wq.heap.size by omega)))
          have HO4 := Lib.hid (ho4.lower (show w1.heap.size ≤ wq.heap.size by omega))
          have HL4 := Lib.hid hl4
          have HD4 := Lib.hid hd4
          have HRL4 : Hid (∀ r ∈ dat os4, r.length ≤ 6 + (k + 1)) := Lib.hid (by rw [hd4]; exact mv_rows HRL.out)
          clear hb3 ho4 hd4 hl4 hmv
          go_wp2_with fail
          go_roundw
          case rel => exact ⟨k + 1, A4, c4, os4, d, by omega, by go_num, rfl, by go_num, by omega, by omega, HL4, Lib.hid (by rw [HST2.out]; rw [HD4.out]), HRL4, HO4, by omega, HB3⟩
          case measure => simp [intOf]; omega
    · obtain rfl : k = ms.length := by omega
      have HE : Hid (FIN = if d < o.length then ([], 6) else (dat os, 0)) := Lib.hid (by
        rw [HV.out, HI.out, List.drop_length]
        simp only [ldR, finR]
        by_cases e : d < o.length
        · rw [if_pos e, if_pos e]
        · rw [if_neg e, if_neg e])
      by_cases e : d < o.length
      · have HR : Hid (FIN = ([], 6)) := Lib.hid (by rw [HE.out, if_pos e])
        have ei : (d : Int) < o.length := by omega
        go_wp2_with fail
        go_ret2
        exact ⟨none, 0, [], by rw [HR.out]; rfl, OwnR.none_, by rw [HR.out]; rfl, HBw.out⟩
      · have HR : Hid (FIN = (dat os, 0)) := Lib.hid (by rw [HE.out, if_neg e])
        have ei : (o.length : Int) ≤ d := by omega
        go_wp2_with fail
        go_ret2
        exact ⟨A3, c3, os, by rw [HR.out, HOL.out]; rfl, HO.out.lower hz1, by rw [HR.out], HBw.out⟩
end Go.Proofs.YtiefiikheaiekaaDoor
