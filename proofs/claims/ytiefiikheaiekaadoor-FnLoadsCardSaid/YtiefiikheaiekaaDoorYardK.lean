/-
  Yards: LoadPacks of the program.
-/
import Derived.Test.YtiefiikheaiekaaDoorYardH
import Derived.Test.YtiefiikheaiekaaDoorYardPlain3
import Derived.Test.YtiefiikheaiekaaDoorFlatMove
namespace Go.Proofs.YtiefiikheaiekaaDoor
open Go.ChangeShapes Go.WideShapes Go.RowKit

/-- another row has grown -/
theorem OwnR.grew {α : Type} {Li : Lay α} {T1 T2 : TypeId} {w w' : World} {base c : Nat} {A Al Al' : Option Addr} {rs : List (Row α)} (h : OwnR Li T1 T2 w base A c rs) (hg : Grew w w' Al Al') (h0 : ∀ g, blk A = some g → blk Al ≠ some g) (h1 : ∀ r ∈ rs, Ap r.1 Al) :
    OwnR Li T1 T2 w' base A c rs ∧ (∀ g, blk A = some g → blk Al' ≠ some g) ∧ ∀ r ∈ rs, Ap r.1 Al' := by
  have ho := Grew.own hg h.out h0
  have hi := fun r (hr : r ∈ rs) => Grew.own hg (h.inn r hr) (h1 r hr)
  exact ⟨⟨ho.1, fun r hr => (hi r hr).1, h.ap⟩, ho.2, fun r hr => (hi r hr).2⟩
theorem ldI_step {ms : List (Int × Int)} {k : Nat} (h : k < ms.length) (X : List (List Int)) (L : List Int) : ldI (ms.drop k) X L = if mvOk X ms[k].1 ms[k].2 = true then ldI (ms.drop (k + 1)) (mvX X ms[k].1 ms[k].2) (if ms[k].2 < 0 then L ++ [topL (X.getD ms[k].1.toNat [])] else L) else none := by
  rw [List.drop_eq_getElem_cons h]
  rfl

set_option maxRecDepth 100000 in
set_option maxHeartbeats 6400000 in
theorem implLoadPacks_any (A : Option Addr) (c : Nat) (rs : List (Row Int)) (A1 : Option Addr) (c1 : Nat) (o : List Int) (A2 : Option Addr) (c2 : Nat) (ms : List MoveD) (w : World) (hr : RdR LI w w.heap.size A c rs) (hro : Rd LI w w.heap.size A1 c1 o) (hrm : Rd LMove w w.heap.size A2 c2 ms) (hn : tlL (dat rs) ≤ 1048576) (_hnil : ∀ r ∈ rs, r.1 = none → r.2.1 = 0) (hm64 : ∀ m ∈ ms, OkMove m) :
    Calls Tryd.prog 26 #[.slice A rs.length c, .slice A1 o.length c1, .slice A2 ms.length c2] w fun e w' => ∃ A3 c3 os, e = .returned (.tuple #[.slice A3 os.length c3, .int .i64 (ldP (dat rs) o ms).2]) ∧ OwnR LI 23 2 w' w.heap.size A3 c3 os ∧ dat os = (ldP (dat rs) o ms).1 ∧ Below w.heap.size w w' := by
  have hlen := hr.len63
  have hleno := hro.len63
  have hlenm := hrm.len63
  have hc := orderCode_any A c rs A1 c1 o w hr hn hro
  obtain ⟨FIN, hF⟩ : ∃ F, F = ldP (dat rs) o ms := ⟨_, rfl⟩
  rw [← hF]
  by_cases h0 : ocP (dat rs) o = 0
  rotate_left
  · have HR : Hid (FIN = ([], ocP (dat rs) o)) := Lib.hid (by rw [hF]; unfold ldP; rw [if_neg h0])
    have hne : (ocP (dat rs) o != 0) = true := by rw [bne_iff_ne]; exact h0
    have hne2 : (ocP (dat rs) o == 0) = false := by rw [beq_eq_false_iff_ne]; exact h0
    clear h0 hF
    generalize ocP (dat rs) o = oc at *
    go_enter Tryd.func26, Tryd.ntmps26
    go_wp2_with fail
    refine hc.mono ?_
    rintro e w1 ⟨rfl, hb1⟩
    go_wp2_with fail
    go_ret2
    exact ⟨none, 0, [], by rw [HR.out]; rfl, OwnR.none_, by rw [HR.out]; rfl, hb1⟩
  have hv : vyB (dat rs) = true := by
    unfold ocP at h0
    split at h0
    · assumption
    · omega
  obtain ⟨hv1, hv2⟩ := vy_rows hv
  rw [dat_len] at hv1
  by_cases h100 : ms.length ≤ 100
  rotate_left
  · have HR : Hid (FIN = ([], 2)) := Lib.hid (by rw [hF]; unfold ldP; rw [if_pos h0, if_neg h100])
    rw [h0] at hc
    have h1 : 100 < ms.length := by omega
    have h2 : (100 : Int) < ms.length := by omega
    clear h0 hF h100 hv hv2
    go_enter Tryd.func26, Tryd.ntmps26
    go_wp2_with fail
    refine hc.mono ?_
    rintro e w1 ⟨rfl, hb1⟩
    go_wp2_with fail
    go_ret2
    exact ⟨none, 0, [], by rw [HR.out]; rfl, OwnR.none_, by rw [HR.out]; rfl, hb1⟩
  have HV : Hid (FIN = (match finI o (ldI ms (dat rs) []) with | none => ([], 6) | some Y => (Y, 0))) := Lib.hid (by rw [hF]; unfold ldP; rw [if_pos h0, if_pos h100]; cases finI o (ldI ms (dat rs) []) <;> rfl)
  rw [h0] at hc
  have h100i : (ms.length : Int) ≤ 100 := by omega
  have HV2 := Lib.hid hv2
  have HM64 := Lib.hid hm64
  have HDL := Lib.hid (dat_len rs)
  have HRB : Hid (∀ r ∈ rs, r.2.2.length ≤ 1048576) := Lib.hid (row_bd hn)
  clear h0 hF hv hv2 hm64 hn
  go_enter Tryd.func26, Tryd.ntmps26
  go_wp2_with fail
  refine hc.mono ?_
  rintro e w1 ⟨rfl, hb1⟩
  have HB1 := Lib.hid hb1
  have hz1 := hb1.size
  clear hc hb1
  have hws : w1.heap.size < (w1.alloc (.cells #[] 23)).heap.size := by simp
  go_wp2_with fail
  go_loopw [9, 34] (fun o i wr => ∃ (k : Nat) (A3 : Option Addr) (c3 : Nat) (os : List (Row Int)) (L1 : List (Option Addr × Nat × Nat)), k ≤ rs.length ∧ i = .int .i64 k ∧ o = .slice A3 L1.length c3 ∧ L1.length = k ∧ Hid (L1 = os.map hd) ∧ Hid (dat os = (dat rs).take k) ∧ Hid (OwnR LI 23 2 wr w1.heap.size A3 c3 os) ∧ Hid (Own LI 2 wr w1.heap.size (some ⟨w1.heap.size + 1, 0, none⟩) 0 []) ∧ Hid (∀ r ∈ os, ∀ g, blk r.1 = some g → w1.heap.size + 2 ≤ g) ∧ w1.heap.size + 2 ≤ wr.heap.size ∧ Hid (Below w1.heap.size w1 wr)) (fun _ i _ => rs.length - (intOf i).toNat)
  case atStart => exact ⟨0, _, _, [], [], by omega, rfl, rfl, by simp, Lib.hid rfl, Lib.hid (by simp [dat]), Lib.hid ⟨(Own.lit0 w1 (Nat.le_refl _) rfl).alloc _, (fun r hr => by cases hr), List.Pairwise.nil⟩, Lib.hid (Own.lit0 (w1.alloc _) (by simp) (by simp)), Lib.hid (fun r hr => by cases hr), by simp, Lib.hid (((Below.refl _ _).alloc (Nat.le_refl _) _).alloc (by simp) _)⟩
  case round =>
    obtain ⟨i, A3, c3, os, L1, hi, rfl, rfl, hLk0, HL, HD, HO, HLD, HRW, hsz, HBW⟩ := hrel
    have hLk : L1.length ≤ i := by omega
    have hLk2 : i ≤ L1.length := by omega
    have HLK := Lib.hid hLk0
    clear hLk0
    have HBw := Lib.hid (HB1.out.trans (HBW.out.mono hz1))
    by_cases hlt : i < rs.length
    · have hli : (i : Int) < rs.length := by omega
      have hyl := HRB.out _ (List.getElem_mem hlt)
      obtain ⟨ad', rfl, _, hcell, hrk⟩ := (hr.below HBw.out).at_ hlt
      have hcl := clone_any rs[i].1 rs[i].2.1 rs[i].2.2 w.heap.size wr hrk (by omega) (by omega)
      have HDG := Lib.hid (dat_get rs i hlt)
      clear hrk
      generalize rs[i].2.2 = ys at *
      generalize rs[i].1 = Ay at *
      generalize rs[i].2.1 = cy at *
      go_wp2_with fail
      refine hcl.mono ?_
      rintro e w2 ⟨A5, c5, rfl, ho2, hb2⟩
      have hs2 := hb2.size
      have HB2 := Lib.hid hb2
      have HO2 := Lib.hid ho2
      have HO3 := Lib.hid (HO.out.below hb2)
      have HLD3 := Lib.hid (HLD.out.below hb2)
      have HlO := Lib.hid HO.out.blk_lt
      have HB3 := Lib.hid (HBW.out.trans (hb2.mono (by omega)))
      have hout : Own LV 23 w2 w1.heap.size A3 c3 L1 := by rw [HL.out]; exact HO3.out.out
      clear hcl hb2 ho2 hcell
      go_wp2_with (at_builtin; go_loud (refine wpL_app1 (L := LV) rowV rfl rfl _ _ rfl rfl hout (A5, ys.length, c5) _ rfl rfl (by simp) (by unfold maxLen; omega) (by omega) (by omega) ?_); intro A6 c6 w6 ho6 hg6)
      go_roundw
      case rel =>
        have hs6 := hg6.size
        have hsn := OwnR.snoc (r := (A5, c5, ys)) HO3.out (by decide) (HO2.out.lower (by omega)) (fun s hs g h1 h2 => by have := HlO.out.2 s hs g h1; have := HO2.out.blk_lt g h2; omega) (by
          rw [HL.out] at ho6
          exact ho6) hg6
        refine ⟨i + 1, A6, c6, _, L1 ++ [(A5, ys.length, c5)], by omega, by go_num, by simp, by simp; exact HLK.out, Lib.hid ?_, Lib.hid ?_, Lib.hid hsn, Lib.hid (Grew.own hg6 HLD3.out fun g e1 e2 => own_types hout HLD3.out (by decide) g e2 e1).1, Lib.hid ?_, by omega, Lib.hid ?_⟩
        · rw [HL.out, List.map_append]
          simp [hd]
        · rw [dat_append, HD.out, List.take_succ_eq_append_getElem (by rw [dat_len]; exact hlt), HDG.out]
          rfl
        · intro r hr g hg
          rcases List.mem_append.1 hr with h | h
          · exact HRW.out r h g hg
          · rw [List.mem_singleton] at h
            subst h
            have := HO2.out.blk_lt g hg
            omega
        · exact Grew.below HB3.out hg6 (by omega) fun g' hg' => (HlO.out.1 g' hg').1
      case measure => simp [intOf]; omega
    · obtain rfl : i = rs.length := by omega
      have HD0 : Hid (dat os = dat rs) := Lib.hid (by rw [HD.out, List.take_of_length_le (by rw [dat_len]; exact Nat.le_refl _)])
      have HOL : Hid (os.length = rs.length) := Lib.hid (by rw [← dat_len, HD0.out, dat_len])
      obtain ⟨wp, rfl⟩ : ∃ wp : World, wp = wr := ⟨_, rfl⟩
      go_wp2_with fail
      go_loopw [9, 10, 46] (fun o l i wr => ∃ (k : Nat) (A3 : Option Addr) (c3 : Nat) (os : List (Row Int)) (Al : Option Addr) (cl : Nat) (Ld : List Int), k ≤ ms.length ∧ i = .int .i64 k ∧ o = .slice A3 rs.length c3 ∧ l = .slice Al Ld.length cl ∧ Ld.length ≤ k ∧ Hid (os.length = rs.length) ∧ Hid (ldI ms (dat rs) [] = ldI (ms.drop k) (dat os) Ld) ∧ Hid (∀ r ∈ dat os, r.length ≤ 6 + k) ∧ Hid (OwnR LI 23 2 wr w1.heap.size A3 c3 os) ∧ Hid (Own LI 2 wr w1.heap.size Al cl Ld) ∧ Hid (∀ r ∈ os, Ap r.1 Al) ∧ w1.heap.size + 2 ≤ wr.heap.size ∧ Hid (Below w1.heap.size w1 wr)) (fun _ _ i _ => ms.length - (intOf i).toNat)
      case atStart => exact ⟨0, A3, c3, os, _, _, [], by omega, rfl, by rw [HLK.out], rfl, by simp, HOL, Lib.hid (by rw [HD0.out]; rfl), Lib.hid (by rw [HD0.out]; exact HV2.out), HO, HLD, Lib.hid (fun r hr g h1 h2 => by have := HRW.out r hr g h1; simp [blk] at h2; omega), hsz, HBW⟩
      case round =>
        clear HL HD HO HLD HRW HBW HBw hsz HLK hLk hLk2 HD0 HOL hlt hi
        obtain ⟨k, A3, c3, os, Al, cl, Ld, hk, rfl, rfl, rfl, hLdk, HOL, HI, HRL, HO, HLD, HAP, hsz, HBW⟩ := hrel
        have HBw := Lib.hid (HB1.out.trans (HBW.out.mono hz1))
        by_cases hlt : k < ms.length
        · have hli : (k : Int) < ms.length := by omega
          obtain ⟨f, hf⟩ : ∃ f, f = ms[k].1 := ⟨_, rfl⟩
          obtain ⟨t, ht⟩ : ∃ t, t = ms[k].2 := ⟨_, rfl⟩
          have HSTEP := Lib.hid (ldI_step hlt (dat os) Ld)
          have hok := HM64.out _ (List.getElem_mem hlt)
          have hf64 : I64 f := by rw [hf]; exact hok.1
          have ht64 : I64 t := by rw [ht]; exact hok.2
          obtain ⟨ad', rfl, hadb, hc0, hc1⟩ := rdMove (hrm.below HBw.out) hlt
          rw [← hf] at HSTEP hc0
          rw [← ht] at HSTEP hc1
          clear hok hf ht
          have HBa : Hid (Below w1.heap.size w1 (wr.alloc (.cells #[.int .i64 f, .int .i64 t] 45))) := Lib.hid (HBW.out.alloc (by omega) _)
          have K0 : Hid ((wr.alloc (.cells #[.int .i64 f, .int .i64 t] 45)).cell? ⟨wr.heap.size, 0, none⟩ = some (.int .i64 f)) := Lib.hid (by go_simp)
          have K1 : Hid ((wr.alloc (.cells #[.int .i64 f, .int .i64 t] 45)).cell? ⟨wr.heap.size, 1, none⟩ = some (.int .i64 t)) := Lib.hid (by go_simp)
          have HOa := Lib.hid (HO.out.al (.cells #[.int .i64 f, .int .i64 t] 45))
          have HLDa := Lib.hid (HLD.out.alloc (.cells #[.int .i64 f, .int .i64 t] 45))
          have hwa : (wr.alloc (.cells #[.int .i64 f, .int .i64 t] 45)).heap.size = wr.heap.size + 1 := by simp
          go_wp2_with fail
          generalize wr.alloc (.cells #[.int .i64 f, .int .i64 t] 45) = wa at *
          have hmv := movePack_any A3 c3 os f t wa HOa.out.rd (by rw [HOL.out]; omega) (fun r hr => by
            have := HRL.out r.2.2 (List.mem_map.2 ⟨r, hr, rfl⟩)
            omega) ht64 hf64
          rw [HOL.out] at hmv
          refine hmv.mono ?_
          intro e w2 hm
          clear hmv hc0 hc1
          unfold MvR at hm
          cases hok : mvOk (dat os) f t
          · rw [if_neg (by simp [hok])] at hm
            obtain ⟨rfl, hb2⟩ := hm
            have HR : Hid (FIN = ([], 6)) := Lib.hid (by rw [HV.out, HI.out, HSTEP.out, if_neg (by simp [hok])]; rfl)
            have HB2 := Lib.hid ((HB1.out.trans (HBa.out.mono hz1)).trans (hb2.mono (by omega)))
            clear hb2 hok
            go_wp2_with fail
            go_ret2
            exact ⟨none, 0, [], by rw [HR.out]; rfl, OwnR.none_, by rw [HR.out]; rfl, HB2.out⟩
          · rw [if_pos hok] at hm
            obtain ⟨A4, c4, os4, he4, ho4, hd4, hb2⟩ := hm
            have hl4 : os4.length = rs.length := by rw [← dat_len, hd4, mvX_len, dat_len, HOL.out]
            rw [hl4] at he4
            subst he4
            have HST := Lib.hid (HI.out.trans (HSTEP.out.trans (if_pos hok)))
            have k0 := (hb2.cell (p := ⟨wr.heap.size, 0, none⟩) (by simp; omega)).trans K0.out
            have k1 := (hb2.cell (p := ⟨wr.heap.size, 1, none⟩) (by simp; omega)).trans K1.out
            have hs2 := hb2.size
            obtain ⟨m1, m2, m3, m4, m5, m6⟩ := mvOk_iff.1 hok
            rw [dat_len, HOL.out] at m2 m6
            obtain ⟨fN, rfl⟩ : ∃ fN : Nat, f = (fN : Int) := ⟨f.toNat, by omega⟩
            have hfl : fN < rs.length := by omega
            have hfli : (fN : Int) < rs.length := by omega
            have hfo : fN < os.length := by rw [HOL.out]; exact hfl
            have HO4 := Lib.hid ho4
            have HL4 := Lib.hid hl4
            have HD4 := Lib.hid hd4
            have HLDb := Lib.hid (HLDa.out.below hb2)
            have HOb := HOa.out.below hb2
            have hlAl := HLDa.out.blk_lt
            have HlAl := Lib.hid hlAl
            have HAL0 : Hid (∀ g, blk A4 = some g → blk Al ≠ some g) := Lib.hid fun g e1 e2 => by
              have := hlAl g e2; have := (ho4.blk_lt).1 g e1; omega
            have HAL1 : Hid (∀ r ∈ os4, Ap r.1 Al) := Lib.hid fun r hr g e1 e2 => by
              have := hlAl g e2; have := (ho4.inn r hr).blk_lt g e1; omega
            have HRL4 : Hid (∀ r ∈ dat os4, r.length ≤ 6 + (k + 1)) := Lib.hid (by rw [hd4]; exact mv_rows HRL.out)
            have HB2 := Lib.hid (HBa.out.trans (hb2.mono (by omega)))
            clear m3 m4 m5 m6 hb2 hok ho4 hl4 hd4 hlAl
            by_cases ht0 : t < 0
            · obtain ⟨gA, rfl, _, _, hcF, _, hrowF⟩ := HOb.at_ hfo
              have htp := topY_any os[fN].1 os[fN].2.1 os[fN].2.2 w2.heap.size w2 hrowF.rd
              have HG := Lib.hid (getD_datY os fN hfo)
              have HT0 := Lib.hid ht0
              generalize os[fN].2.2 = zs at *
              generalize os[fN].1 = Az at *
              generalize os[fN].2.1 = cz at *
              obtain ⟨tz, htz⟩ : ∃ tz, tz = topL zs := ⟨_, rfl⟩
              have HTZ : Hid (topL ((dat os).getD ((fN : Int)).toNat []) = tz) := Lib.hid (by rw [Int.toNat_natCast, HG.out, htz])
              rw [← htz] at htp
              clear htz hrowF
              go_wp2_with fail
              refine htp.mono ?_
              rintro e w9 ⟨rfl, rfl⟩
              clear htp
              go_wp2_with (at_builtin; go_loud (refine wpL_app1 (L := LI) rowI rfl rfl _ _ rfl rfl HLDb.out tz _ rfl rfl rfl (by unfold maxLen; omega) (by omega) (by omega) ?_); intro A6 c6 w6 ho6 hg6)
              have HX := Lib.hid (HO4.out.lower (show w1.heap.size ≤ wa.heap.size by omega))
              have HY := Lib.hid (HX.out.grew hg6 HAL0.out HAL1.out)
              have hs6 := hg6.size
              have hbf := Grew.below HB2.out hg6 (by omega) fun g e => (HlAl.out g e).1
              have HBF := Lib.hid hbf
              have HO6 := Lib.hid ho6
              clear hg6 hbf ho6
              go_roundw
              case rel => exact ⟨k + 1, A4, c4, os4, A6, c6, Ld ++ [tz], by omega, by go_num, rfl, by simp, by simp; omega, HL4, Lib.hid (by rw [HST.out, if_pos HT0.out, HTZ.out, HD4.out]), HRL4, Lib.hid HY.out.1, HO6, Lib.hid HY.out.2.2, by omega, HBF⟩
              case measure => simp [intOf]; omega
            · have HT0 := Lib.hid ht0
              go_wp2_with fail
              go_roundw
              case rel => exact ⟨k + 1, A4, c4, os4, Al, cl, Ld, by omega, by go_num, rfl, rfl, by omega, HL4, Lib.hid (by rw [HST.out, if_neg (show ¬ t < 0 from by have := HT0.out; omega), HD4.out]), HRL4, Lib.hid (HO4.out.lower (by omega)), HLDb, HAL1, by omega, HB2⟩
              case measure => simp [intOf]; omega
        · obtain rfl : k = ms.length := by omega
          have HE : Hid (FIN = if Ld = o then (dat os, 0) else ([], 6)) := Lib.hid (by
            rw [HV.out, HI.out, List.drop_length]
            simp only [ldI, finI]
            by_cases e : Ld = o
            · rw [if_pos e, if_pos e]
            · rw [if_neg e, if_neg e])
          have heq := slicesEqual_quiet Al A1 cl c1 Ld o wr.heap.size wr HLD.out.rd ((hro.below HBw.out).more (by have := HBw.out.size; omega))
          by_cases e : Ld = o
          · have HR : Hid (FIN = (dat os, 0)) := Lib.hid (by rw [HE.out, if_pos e])
            rw [show eqB Ld o = true from decide_eq_true e] at heq
            clear e
            go_wp2_with fail
            refine heq.mono ?_
            rintro e w9 ⟨rfl, n9, rfl⟩
            clear heq
            go_wp2_with fail
            go_ret2
            exact ⟨A3, c3, os, by rw [HR.out, HOL.out]; rfl, (HO.out.lower hz1).drewN _, by rw [HR.out], below_drewN HBw.out _⟩
          · have HR : Hid (FIN = ([], 6)) := Lib.hid (by rw [HE.out, if_neg e])
            rw [show eqB Ld o = false from decide_eq_false e] at heq
            clear e
            go_wp2_with fail
            refine heq.mono ?_
            rintro e w9 ⟨rfl, n9, rfl⟩
            clear heq
            go_wp2_with fail
            go_ret2
            exact ⟨none, 0, [], by rw [HR.out]; rfl, OwnR.none_, by rw [HR.out]; rfl, below_drewN HBw.out _⟩
end Go.Proofs.YtiefiikheaiekaaDoor
