/-
  Yards: a move (impl.movePack).
-/
import Derived.Test.YtiefiikheaiekaaDoorYardD
namespace Go.Proofs.YtiefiikheaiekaaDoor
open Go.ChangeShapes Go.WideShapes Go.RowKit

/-- is a move possible? -/
def mvOk (X : List (List Int)) (f t : Int) : Bool := decide (0 ≤ f ∧ f ≤ (X.length : Int) - 1 ∧ 0 < (X.getD f.toNat []).length ∧ t ≠ f ∧ -1 ≤ t ∧ t ≤ (X.length : Int) - 1)
def mvRow (X : List (List Int)) (f t : Int) (i : Nat) : List Int := if (i : Int) = f then (X.getD i []).take ((X.getD i []).length - 1) else if (i : Int) = t then X.getD i [] ++ [topL (X.getD f.toNat [])] else X.getD i []
def mvX (X : List (List Int)) (f t : Int) : List (List Int) := (List.range X.length).map (mvRow X f t)
theorem mvX_len (X : List (List Int)) (f t : Int) : (mvX X f t).length = X.length := by simp [mvX]
theorem mvX_succ (X : List (List Int)) (f t : Int) {i : Nat} (h : i < X.length) : (mvX X f t).take (i + 1) = (mvX X f t).take i ++ [mvRow X f t i] := by
  rw [List.take_succ_eq_append_getElem (by rw [mvX_len]; exact h)]
  simp [mvX]

/-- what both return -/
def MvR (w : World) (X : List (List Int)) (f t : Int) (e : Ending) (w' : World) : Prop :=
  if mvOk X f t = true then ∃ A1 c1 os, e = .returned (.tuple #[.slice A1 os.length c1, .bool true]) ∧ OwnR LI 23 2 w' w.heap.size A1 c1 os ∧ dat os = mvX X f t ∧ Below w.heap.size w w'
  else e = .returned (.tuple #[.slice none 0 0, .bool false]) ∧ Below w.heap.size w w'
theorem MvR.no {w : World} {X : List (List Int)} {f t : Int} {e : Ending} {w' : World} (h : mvOk X f t = false) (he : e = .returned (.tuple #[.slice none 0 0, .bool false])) (hb : Below w.heap.size w w') : MvR w X f t e w' := by
  unfold MvR
  rw [if_neg (by simp [h])]
  exact ⟨he, hb⟩
theorem MvR.yes {w : World} {X : List (List Int)} {f t : Int} {e : Ending} {w' : World} (h : mvOk X f t = true) (he : ∃ A1 c1 os, e = .returned (.tuple #[.slice A1 os.length c1, .bool true]) ∧ OwnR LI 23 2 w' w.heap.size A1 c1 os ∧ dat os = mvX X f t ∧ Below w.heap.size w w') : MvR w X f t e w' := by
  unfold MvR
  rw [if_pos h]
  exact he

set_option maxRecDepth 100000 in
set_option maxHeartbeats 6400000 in
theorem movePack_any (A : Option Addr) (c : Nat) (rs : List (Row Int)) (f t : Int) (w : World) (hr : RdR LI w w.heap.size A c rs) (hl : rs.length ≤ 1048576) (hrl : ∀ r ∈ rs, r.2.2.length ≤ 1048576) (ht64 : I64 t) (hf64 : I64 f) :
    Calls Tryd.prog 47 #[.slice A rs.length c, .agg #[.int .i64 f, .int .i64 t]] w (MvR w (dat rs) f t) := by
  have hlen := hr.len63
  have HX := Lib.hid (dat_len rs)
  obtain ⟨ht1, ht2⟩ := ht64
  obtain ⟨hf1, hf2⟩ := hf64
  have HB0 : Hid (∀ o : Obj, Below w.heap.size w (w.alloc o)) := Lib.hid fun o => (Below.refl _ w).alloc (Nat.le_refl _) o
  have hwf := fun W => within_any f 0 ((rs.length : Int) - 1) W
  cases hi : inB f 0 ((rs.length : Int) - 1)
  · have HN : Hid (mvOk (dat rs) f t = false) := Lib.hid (by
      refine decide_eq_false fun h => ?_
      rw [HX.out] at h
      rw [inB_mk ⟨h.1, h.2.1⟩] at hi
      cases hi)
    rw [hi] at hwf
    clear hi
    go_enter Tryd.func47, Tryd.ntmps47
    go_wp2_with fail
    refine (hwf _).mono ?_
    rintro e w1 ⟨rfl, rfl⟩
    go_wp2_with fail
    go_ret2
    exact MvR.no HN.out rfl (HB0.out _)
  have hfi := inB_yes hi
  obtain ⟨fN, rfl⟩ : ∃ fN : Nat, f = (fN : Int) := ⟨f.toNat, by omega⟩
  rw [hi] at hwf
  have hfl : fN < rs.length := by omega
  have hfli : (fN : Int) < rs.length := by omega
  have HGf := Lib.hid (getD_datY rs fN hfl)
  obtain ⟨ad, rfl, had, hcf, hrf⟩ := hr.at_ hfl
  have hfrl := hrl _ (List.getElem_mem hfl)
  have HRF := Lib.hid hrf
  clear hrf hi
  obtain ⟨zs, hzs⟩ : ∃ zs, zs = rs[fN].2.2 := ⟨_, rfl⟩
  obtain ⟨Az, hAz⟩ : ∃ Az, Az = rs[fN].1 := ⟨_, rfl⟩
  obtain ⟨cz, hcz⟩ : ∃ cz, cz = rs[fN].2.1 := ⟨_, rfl⟩
  rw [← hzs] at HGf hcf hfrl
  rw [← hAz, ← hcz] at hcf
  have HRZ : Hid (Rd LI w w.heap.size Az cz zs) := Lib.hid (by rw [hzs, hAz, hcz]; exact HRF.out)
  clear hzs hAz hcz
  have hcf2 : ∀ o : Obj, (w.alloc o).cell? (ad.add fN) = some (.slice Az zs.length cz) := fun o => ((HB0.out o).cell (p := ad.add fN) (by rw [block_of_add]; exact had)).trans hcf
  by_cases hz : zs.length = 0
  · have HN : Hid (mvOk (dat rs) fN t = false) := Lib.hid (by
      refine decide_eq_false fun h => ?_
      rw [Int.toNat_natCast, HGf.out] at h
      omega)
    have hz1 : ((zs.length : Int) == 0) = true := by rw [beq_iff_eq]; omega
    have hz2 : (zs.length == 0) = true := by rw [beq_iff_eq]; omega
    have HZ := Lib.hid hz
    clear hz hfi
    go_enter Tryd.func47, Tryd.ntmps47
    go_wp2_with fail
    refine (hwf _).mono ?_
    rintro e w1 ⟨rfl, rfl⟩
    go_wp2_with fail
    go_ret2
    exact MvR.no HN.out rfl (HB0.out _)
  have hz1 : ((zs.length : Int) == 0) = false := by rw [beq_eq_false_iff_ne]; omega
  have hz2 : (zs.length == 0) = false := by rw [beq_eq_false_iff_ne]; omega
  by_cases htf : t = fN
  · have HN : Hid (mvOk (dat rs) fN t = false) := Lib.hid (by
      refine decide_eq_false fun h => ?_
      exact h.2.2.2.1 htf)
    have ht3 : (t == (fN : Int)) = true := by rw [beq_iff_eq]; exact htf
    have HTF := Lib.hid htf
    clear htf hfi
    go_enter Tryd.func47, Tryd.ntmps47
    go_wp2_with fail
    refine (hwf _).mono ?_
    rintro e w1 ⟨rfl, rfl⟩
    go_wp2_with fail
    go_ret2
    exact MvR.no HN.out rfl (HB0.out _)
  have ht3 : (t == (fN : Int)) = false := by rw [beq_eq_false_iff_ne]; exact htf
  have hwt := fun W => within_any t (-1) ((rs.length : Int) - 1) W
  cases hti : inB t (-1) ((rs.length : Int) - 1)
  · have HN : Hid (mvOk (dat rs) fN t = false) := Lib.hid (by
      refine decide_eq_false fun h => ?_
      rw [HX.out] at h
      rw [inB_mk ⟨h.2.2.2.2.1, h.2.2.2.2.2⟩] at hti
      cases hti)
    rw [hti] at hwt
    have HTF := Lib.hid htf
    clear htf hfi hti
    go_enter Tryd.func47, Tryd.ntmps47
    go_wp2_with fail
    refine (hwf _).mono ?_
    rintro e w1 ⟨rfl, rfl⟩
    go_wp2_with fail
    refine (hwt _).mono ?_
    rintro e w1 ⟨rfl, rfl⟩
    go_wp2_with fail
    go_ret2
    exact MvR.no HN.out rfl (HB0.out _)
  rw [hti] at hwt
  obtain ⟨hti1, hti2⟩ := inB_yes hti
  have HY : Hid (mvOk (dat rs) fN t = true) := Lib.hid (by
    refine decide_eq_true ?_
    rw [HX.out, Int.toNat_natCast, HGf.out]
    exact ⟨by omega, by omega, by omega, htf, hti1, hti2⟩)
  obtain ⟨X, hX⟩ : ∃ X, X = dat rs := ⟨_, rfl⟩
  have HG : Hid (∀ i (h : i < rs.length), X.getD i [] = rs[i].2.2) := Lib.hid fun i h => by rw [hX]; exact getD_datY rs i h
  rw [← hX] at HX HGf HY ⊢
  have HRL := Lib.hid hrl
  have HCF := Lib.hid hcf
  clear htf hfi hti hX hrl hcf
  have hbx : ∀ o : Obj, Below w.heap.size w (w.alloc o) := HB0.out
  go_enter Tryd.func47, Tryd.ntmps47
  go_wp2_with fail
  refine (hwf _).mono ?_
  rintro e w1 ⟨rfl, rfl⟩
  go_wp2_with fail
  refine (hwt _).mono ?_
  rintro e w1 ⟨rfl, rfl⟩
  go_wp2_with fail
  have HW0 := Lib.hid (hbx (.cells #[.int .i64 fN, .int .i64 t] 45))
  have hWs : (w.alloc (.cells #[.int .i64 fN, .int .i64 t] 45)).heap.size = w.heap.size + 1 := by simp
  have HK0 : Hid ((w.alloc (.cells #[.int .i64 fN, .int .i64 t] 45)).cell? ⟨w.heap.size, 0, none⟩ = some (.int .i64 fN)) := Lib.hid (by go_simp)
  have HK1 : Hid ((w.alloc (.cells #[.int .i64 fN, .int .i64 t] 45)).cell? ⟨w.heap.size, 1, none⟩ = some (.int .i64 t)) := Lib.hid (by go_simp)
  clear hbx hcf2 hwf hwt
  generalize w.alloc (.cells #[.int .i64 fN, .int .i64 t] 45) = W at *
  go_loopw [7, 45] (fun o i wr => ∃ (k : Nat) (A1 : Option Addr) (c1 : Nat) (os : List (Row Int)) (L1 : List (Option Addr × Nat × Nat)), k ≤ rs.length ∧ i = .int .i64 k ∧ o = .slice A1 L1.length c1 ∧ L1.length ≤ k ∧ Hid (L1 = os.map hd) ∧ Hid (dat os = (mvX X fN t).take k) ∧ Hid (OwnR LI 23 2 wr (w.heap.size + 1) A1 c1 os) ∧ Hid (Below (w.heap.size + 1) W wr)) (fun _ i _ => rs.length - (intOf i).toNat)
  case atStart => exact ⟨0, _, _, [], [], by omega, rfl, rfl, by simp, Lib.hid rfl, Lib.hid (by simp [dat]), Lib.hid ⟨Own.lit0 W (by omega) (by omega), (fun r hr => by cases hr), List.Pairwise.nil⟩, Lib.hid ((Below.refl _ _).alloc (by omega) _)⟩
  case round =>
    obtain ⟨i, A1, c1, os, L1, hi, rfl, rfl, hLk, HL, HD, HO, HBW⟩ := hrel
    have hsz := HBW.out.size
    have HBw := Lib.hid (HW0.out.trans (HBW.out.mono (by omega)))
    have k0 := (HBW.out.cell (p := ⟨w.heap.size, 0, none⟩) (by simp)).trans HK0.out
    have k1 := (HBW.out.cell (p := ⟨w.heap.size, 1, none⟩) (by simp)).trans HK1.out
    by_cases hlt : i < rs.length
    · have hli : (i : Int) < rs.length := by omega
      have HGi := Lib.hid (HG.out i hlt)
      have hyl := HRL.out _ (List.getElem_mem hlt)
      obtain ⟨ad', hA', _, hcell, hrk⟩ := (hr.below HBw.out).at_ hlt
      cases hA'
      have hcl := clone_any rs[i].1 rs[i].2.1 rs[i].2.2 w.heap.size wr hrk (by omega) (by omega)
      clear hrk
      generalize rs[i].2.2 = ys at *
      generalize rs[i].1 = Ay at *
      generalize rs[i].2.1 = cy at *
      go_wp2_with fail
      refine hcl.mono ?_
      rintro e w2 ⟨A2, c2, rfl, ho2, hb2⟩
      have hs2 := hb2.size
      have q0 := (hb2.cell (p := ⟨w.heap.size, 0, none⟩) (by simp; omega)).trans k0
      have q1 := (hb2.cell (p := ⟨w.heap.size, 1, none⟩) (by simp; omega)).trans k1
      have HB2 := Lib.hid hb2
      have HO2 := Lib.hid ho2
      have hcap2 := ho2.le
      have HOS := Lib.hid (HO.out.below hb2)
      have HlO := Lib.hid HO.out.blk_lt
      have HB3 := Lib.hid (HBW.out.trans (hb2.mono (by omega)))
      clear hcl hb2 ho2 k0 k1 hcell
      by_cases e1 : i = fN
      · have d1 : ((i : Int) == (fN : Int)) = true := by rw [beq_iff_eq]; omega
        have d2 : (i == fN) = true := by rw [beq_iff_eq]; omega
        have hyz : ys = zs := by rw [← HGi.out, ← HGf.out, e1]
        have hy0 : 1 ≤ ys.length := by rw [hyz]; omega
        have hy1 : (1 : Int) ≤ ys.length := by omega
        have hy2 : ((ys.length : Int) - 1).toNat = ys.length - 1 := by omega
        have hy3 : (ys.length : Int) - 1 ≤ c2 := by omega
        have hy4 : ys.length - 1 ≤ c2 := by omega
        have hy5 : (0 : Int) ≤ (ys.length : Int) - 1 := by omega
        have HROW : Hid (mvRow X fN t i = ys.take (ys.length - 1)) := Lib.hid (by unfold mvRow; rw [if_pos (by omega), HGi.out])
        have HT := Lib.hid (HO2.out.take (ys.length - 1))
        have hlt2 : (ys.take (ys.length - 1)).length = ys.length - 1 := by simp
        have hout : Own LV 23 w2 (w.heap.size + 1) A1 c1 L1 := by rw [HL.out]; exact HOS.out.out
        have HO3 := HOS
        clear e1 hyz hlt2
        go_wp2_with (at_builtin; go_loud (refine wpL_app1 (L := LV) rowV rfl rfl _ _ rfl rfl hout (A2, ys.length - 1, c2) _ rfl rfl (by simp) (by unfold maxLen; omega) (by omega) (by omega) ?_); intro A6 c6 w6 ho6 hg6)
        go_roundw
        case rel =>
          have e : hd ((A2, c2, (ys.take (ys.length - 1))) : Row Int) = (A2, (ys.length - 1), c2) := by unfold hd; simp
          have hsn := OwnR.snoc (r := (A2, c2, (ys.take (ys.length - 1)))) HO3.out (by decide) (HT.out.lower (by omega)) (fun s hs g h1 h2 => by have := HlO.out.2 s hs g h1; have := HT.out.blk_lt g h2; omega) (by
            rw [HL.out] at ho6
            rw [e]
            exact ho6) hg6
          refine ⟨i + 1, A6, c6, _, L1 ++ [(A2, (ys.length - 1), c2)], by omega, by go_num, by simp, by simp; omega, Lib.hid ?_, Lib.hid ?_, Lib.hid hsn, Lib.hid ?_⟩
          · rw [HL.out, List.map_append]
            simp [e]
          · rw [dat_append, HD.out, mvX_succ X _ _ (by rw [HX.out]; exact hlt), HROW.out]
            rfl
          · exact Grew.below HB3.out hg6 (by omega) fun g' hg' => (HlO.out.1 g' hg').1
        case measure => simp [intOf]; omega
      · have d1 : ((i : Int) == (fN : Int)) = false := by rw [beq_eq_false_iff_ne]; omega
        have d2 : (i == fN) = false := by rw [beq_eq_false_iff_ne]; exact e1
        by_cases e2 : (i : Int) = t
        · have d3 : ((i : Int) == t) = true := by rw [beq_iff_eq]; exact e2
          have HROW : Hid (mvRow X fN t i = ys ++ [topL zs]) := Lib.hid (by unfold mvRow; rw [if_neg (by omega), if_pos e2, HGi.out, Int.toNat_natCast, HGf.out])
          have HBx := Lib.hid (HBw.out.trans (HB2.out.mono (by omega)))
          have hcf3 := (HBx.out.cell (p := ad.add fN) (by rw [block_of_add]; exact had)).trans HCF.out
          have htp := topY_any Az cz zs w.heap.size w2 (HRZ.out.below HBx.out)
          generalize topL zs = tz at *
          go_wp2_with fail
          refine htp.mono ?_
          rintro e w9 ⟨rfl, rfl⟩
          clear htp
          go_wp2_with (first | (at_builtin; go_loud (refine wpL_app1 (o := ⟨some 74, _, _, _, _, _⟩) (L := LI) rowI rfl rfl _ _ rfl rfl HO2.out tz _ rfl rfl rfl (by unfold maxLen; omega) (by omega) (by exact hs2) ?_); intro A4 c4 w4 ho4 hg4; have HO4 := Lib.hid ho4; have HB24 := Lib.hid (Grew.below HB2.out hg4 hs2 (fun g hg => (HO2.out.blk_lt g hg).1)); have hs4 := HB24.out.size; have HO3 := Lib.hid (HO.out.below HB24.out); have HB3 := Lib.hid (HBW.out.trans (HB24.out.mono (by omega))); have hout : Own LV 23 w4 (w.heap.size + 1) A1 c1 L1 := (by rw [HL.out]; exact HO3.out.out); clear ho4 hg4) | (at_builtin; go_loud (refine wpL_app1 (o := ⟨some 78, _, _, _, _, _⟩) (L := LV) rowV rfl rfl _ _ rfl rfl hout (A4, ys.length + 1, c4) _ rfl rfl (by simp) (by unfold maxLen; omega) (by omega) (by omega) ?_); intro A6 c6 w6 ho6 hg6))
          go_roundw
          case rel =>
            have e : hd ((A4, c4, (ys ++ [tz])) : Row Int) = (A4, (ys.length + 1), c4) := by unfold hd; simp
            have hsn := OwnR.snoc (r := (A4, c4, (ys ++ [tz]))) HO3.out (by decide) (HO4.out.lower (by omega)) (fun s hs g h1 h2 => by have := HlO.out.2 s hs g h1; have := HO4.out.blk_lt g h2; omega) (by
              rw [HL.out] at ho6
              rw [e]
              exact ho6) hg6
            refine ⟨i + 1, A6, c6, _, L1 ++ [(A4, (ys.length + 1), c4)], by omega, by go_num, by simp, by simp; omega, Lib.hid ?_, Lib.hid ?_, Lib.hid hsn, Lib.hid ?_⟩
            · rw [HL.out, List.map_append]
              simp [e]
            · rw [dat_append, HD.out, mvX_succ X _ _ (by rw [HX.out]; exact hlt), HROW.out]
              rfl
            · exact Grew.below HB3.out hg6 (by omega) fun g' hg' => (HlO.out.1 g' hg').1
          case measure => simp [intOf]; omega
        · have d3 : ((i : Int) == t) = false := by rw [beq_eq_false_iff_ne]; exact e2
          have HROW : Hid (mvRow X fN t i = ys) := Lib.hid (by unfold mvRow; rw [if_neg (by omega), if_neg e2, HGi.out])
          have hout : Own LV 23 w2 (w.heap.size + 1) A1 c1 L1 := by rw [HL.out]; exact HOS.out.out
          have HO3 := HOS
          go_wp2_with (at_builtin; go_loud (refine wpL_app1 (L := LV) rowV rfl rfl _ _ rfl rfl hout (A2, ys.length, c2) _ rfl rfl (by simp) (by unfold maxLen; omega) (by omega) (by omega) ?_); intro A6 c6 w6 ho6 hg6)
          go_roundw
          case rel =>
            have e : hd ((A2, c2, ys) : Row Int) = (A2, ys.length, c2) := by unfold hd; simp
            have hsn := OwnR.snoc (r := (A2, c2, ys)) HO3.out (by decide) (HO2.out.lower (by omega)) (fun s hs g h1 h2 => by have := HlO.out.2 s hs g h1; have := HO2.out.blk_lt g h2; omega) (by
              rw [HL.out] at ho6
              rw [e]
              exact ho6) hg6
            refine ⟨i + 1, A6, c6, _, L1 ++ [(A2, ys.length, c2)], by omega, by go_num, by simp, by simp; omega, Lib.hid ?_, Lib.hid ?_, Lib.hid hsn, Lib.hid ?_⟩
            · rw [HL.out, List.map_append]
              simp [e]
            · rw [dat_append, HD.out, mvX_succ X _ _ (by rw [HX.out]; exact hlt), HROW.out]
              rfl
            · exact Grew.below HB3.out hg6 (by omega) fun g' hg' => (HlO.out.1 g' hg').1
          case measure => simp [intOf]; omega
    · obtain rfl : i = rs.length := by omega
      have HDD : Hid (dat os = mvX X fN t) := Lib.hid (by rw [HD.out, List.take_of_length_le (by rw [mvX_len, HX.out]; exact Nat.le_refl _)])
      have HLE : Hid (L1.length = os.length) := Lib.hid (by rw [HL.out, List.length_map])
      go_wp2_with fail
      go_ret2
      exact MvR.yes HY.out ⟨A1, c1, os, by rw [← HLE.out]; rfl, HO.out.lower (by omega), HDD.out, HBw.out⟩
end Go.Proofs.YtiefiikheaiekaaDoor
