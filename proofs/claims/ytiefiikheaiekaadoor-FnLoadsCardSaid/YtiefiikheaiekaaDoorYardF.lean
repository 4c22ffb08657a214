/-
  Yards: MovePack of both.
-/
import Derived.Test.YtiefiikheaiekaaDoorYardE
import Derived.RegionTactic
import Derived.BigRegion
namespace Go.Proofs.YtiefiikheaiekaaDoor
open Go.ChangeShapes Go.WideShapes Go.RowKit

theorem mvOk_iff {X : List (List Int)} {f t : Int} : mvOk X f t = true ↔ 0 ≤ f ∧ f ≤ (X.length : Int) - 1 ∧ 0 < (X.getD f.toNat []).length ∧ t ≠ f ∧ -1 ≤ t ∧ t ≤ (X.length : Int) - 1 := by unfold mvOk; exact decide_eq_true_iff
set_option maxRecDepth 100000 in
set_option maxHeartbeats 3200000 in
theorem l20May_any (A : Option Addr) (c : Nat) (rs : List (Row Int)) (f t : Int) (B : Nat) (w : World) (hr : RdR LI w B A c rs) (hB : B ≤ w.heap.size) (hl : rs.length ≤ 1048576) :
    Calls Tryd.prog 42 #[.slice A rs.length c, .agg #[.int .i64 f, .int .i64 t]] w fun e w' => e = .returned (.bool (mvOk (dat rs) f t)) ∧ Below w.heap.size w w' := by
  have hlen := hr.len63
  have HX := Lib.hid (dat_len rs)
  have HB0 : Hid (∀ o : Obj, Below w.heap.size w (w.alloc o)) := Lib.hid fun o => (Below.refl _ w).alloc (Nat.le_refl _) o
  have hwf := fun W => l00In_any f 0 ((rs.length : Int) - 1) W
  obtain ⟨b, hb⟩ : ∃ b, b = mvOk (dat rs) f t := ⟨_, rfl⟩
  rw [← hb]
  cases hi : inB f 0 ((rs.length : Int) - 1)
  · have HN : Hid (b = false) := Lib.hid (by
      rw [hb]
      refine decide_eq_false fun h => ?_
      rw [HX.out] at h
      rw [inB_mk ⟨h.1, h.2.1⟩] at hi
      cases hi)
    rw [hi] at hwf
    clear hi hb
    go_enter Tryd.func42, Tryd.ntmps42
    go_wp2_with fail
    refine (hwf _).mono ?_
    rintro e w1 ⟨rfl, rfl⟩
    go_wp2_with fail
    go_ret
    exact ⟨ret_bool HN.out.symm, HB0.out _⟩
  have hfi := inB_yes hi
  obtain ⟨fN, rfl⟩ : ∃ fN : Nat, f = (fN : Int) := ⟨f.toNat, by omega⟩
  rw [hi] at hwf
  have hfl : fN < rs.length := by omega
  have hfli : (fN : Int) < rs.length := by omega
  have HGf := Lib.hid (getD_datY rs fN hfl)
  obtain ⟨ad, rfl, had, hcf, _⟩ := hr.at_ hfl
  clear hi
  obtain ⟨zs, hzs⟩ : ∃ zs, zs = rs[fN].2.2 := ⟨_, rfl⟩
  obtain ⟨Az, hAz⟩ : ∃ Az, Az = rs[fN].1 := ⟨_, rfl⟩
  obtain ⟨cz, hcz⟩ : ∃ cz, cz = rs[fN].2.1 := ⟨_, rfl⟩
  have hzl := (hr.inn _ (List.getElem_mem hfl)).len63
  rw [← hzs] at HGf hcf hzl
  rw [← hAz, ← hcz] at hcf
  clear hzs hAz hcz
  have hcf2 : ∀ o : Obj, (w.alloc o).cell? (ad.add fN) = some (.slice Az zs.length cz) := fun o => ((HB0.out o).cell (p := ad.add fN) (by rw [block_of_add]; omega)).trans hcf
  have hwt := fun W => l00In_any t (-1) ((rs.length : Int) - 1) W
  by_cases hz : zs.length = 0
  · have HN : Hid (b = false) := Lib.hid (by
      rw [hb]
      refine decide_eq_false fun h => ?_
      rw [Int.toNat_natCast, HGf.out] at h
      omega)
    have hz1 : decide ((0 : Int) < (zs.length : Int)) = false := decide_eq_false (by omega)
    have hz2 : decide (0 < zs.length) = false := decide_eq_false (by omega)
    have HZ := Lib.hid hz
    clear hz hfi hb
    go_enter Tryd.func42, Tryd.ntmps42
    go_wp2_with fail
    refine (hwf _).mono ?_
    rintro e w1 ⟨rfl, rfl⟩
    go_wp2_with fail
    go_ret
    exact ⟨ret_bool HN.out.symm, HB0.out _⟩
  have hz1 : (0 : Int) < (zs.length : Int) := by omega
  have hz2 : 0 < zs.length := by omega
  by_cases htf : t = fN
  · have HN : Hid (b = false) := Lib.hid (by
      rw [hb]
      refine decide_eq_false fun h => ?_
      exact h.2.2.2.1 htf)
    have ht3 : (t != (fN : Int)) = false := by rw [bne_eq_false_iff_eq]; exact htf
    have HTF := Lib.hid htf
    clear htf hfi hb
    go_enter Tryd.func42, Tryd.ntmps42
    go_wp2_with fail
    refine (hwf _).mono ?_
    rintro e w1 ⟨rfl, rfl⟩
    go_wp2_with fail
    go_ret
    exact ⟨ret_bool HN.out.symm, HB0.out _⟩
  have ht3 : (t != (fN : Int)) = true := by rw [bne_iff_ne]; exact htf
  have HT : Hid (b = inB t (-1) ((rs.length : Int) - 1)) := Lib.hid (by
    rw [hb]
    cases hti : inB t (-1) ((rs.length : Int) - 1)
    · refine decide_eq_false fun h => ?_
      rw [HX.out] at h
      rw [inB_mk ⟨h.2.2.2.2.1, h.2.2.2.2.2⟩] at hti
      cases hti
    · refine decide_eq_true ?_
      obtain ⟨h1, h2⟩ := inB_yes hti
      rw [HX.out, Int.toNat_natCast, HGf.out]
      exact ⟨by omega, by omega, by omega, htf, h1, h2⟩)
  have HTF := Lib.hid htf
  clear htf hfi hb
  go_enter Tryd.func42, Tryd.ntmps42
  go_wp2_with fail
  refine (hwf _).mono ?_
  rintro e w1 ⟨rfl, rfl⟩
  go_wp2_with fail
  refine (hwt _).mono ?_
  rintro e w1 ⟨rfl, rfl⟩
  go_wp2_with fail
  go_ret
  exact ⟨ret_bool HT.out.symm, HB0.out _⟩

theorem OwnR.appRow {α : Type} {Li : Lay α} {T1 T2 : TypeId} {w w' : World} {base c g : Nat} {rs : List (Row α)} (h : OwnR Li T1 T2 w base (some ⟨g, 0, none⟩) c rs) (hT : T1 ≠ T2) {i : Nat} (hi : i < rs.length) (r : Row α) (hr : Own Li T2 w' base r.1 r.2.1 r.2.2) (hg : Grew w w' rs[i].1 r.1) :
    OwnR Li T1 T2 (w'.setCell ⟨g, i, none⟩ (.slice r.1 r.2.2.length r.2.1)) base (some ⟨g, 0, none⟩) c (rs.set i r) := by
  have hout := Grew.own hg h.out (fun g' e1 e2 => own_types h.out (h.inn _ (List.getElem_mem hi)) hT g' e1 e2)
  have hne : ∀ {s : Row α}, Own Li T2 w' base s.1 s.2.1 s.2.2 → blk s.1 ≠ some g := fun hs e => own_types hout.1 hs hT g rfl e
  have hoth : ∀ j (hj : j < rs.length), j ≠ i → Own Li T2 w' base rs[j].1 rs[j].2.1 rs[j].2.2 ∧ Ap rs[j].1 r.1 := fun j hj e => by
    have := Grew.own hg (h.inn _ (List.getElem_mem hj)) (fun g' e1 e2 => h.apart hj hi e g' e1 e2)
    exact ⟨this.1, this.2⟩
  refine ⟨?_, ?_, pair_set h.ap i r fun j hj e => (hoth j hj e).2⟩
  · rw [List.map_set]
    exact hout.1.setVal i (hd r)
  · intro s hs
    obtain ⟨j, hj, rfl⟩ := List.mem_iff_getElem.1 hs
    simp only [List.length_set] at hj
    rw [List.getElem_set]
    by_cases e : i = j
    · subst e
      rw [if_pos rfl]
      exact hr.setFar (hne hr) _
    · rw [if_neg e]
      have h1 := (hoth j hj (fun h => e h.symm)).1
      exact h1.setFar (hne h1) _
theorem OwnR.dr {α : Type} {Li : Lay α} {T1 T2 : TypeId} {w : World} {base c : Nat} {A : Option Addr} {rs : List (Row α)} (h : OwnR Li T1 T2 w base A c rs) : OwnR Li T1 T2 w.drew base A c rs := ⟨h.out, h.inn, h.ap⟩
theorem OwnR.al {α : Type} {Li : Lay α} {T1 T2 : TypeId} {w : World} {base c : Nat} {A : Option Addr} {rs : List (Row α)} (h : OwnR Li T1 T2 w base A c rs) (o : Obj) : OwnR Li T1 T2 (w.alloc o) base A c rs := h.below ((Below.refl _ _).alloc (Nat.le_refl _) o)
theorem mvX_drop (X : List (List Int)) {f : Nat} (hf : f < X.length) : mvX X f (-1) = X.set f ((X.getD f []).take ((X.getD f []).length - 1)) := by
  apply List.ext_getElem
  · simp [mvX]
  · intro i h1 h2
    simp only [mvX, List.getElem_map, List.getElem_range]
    rw [List.getElem_set]
    have hi : i < X.length := by simpa [mvX] using h1
    unfold mvRow
    by_cases e : f = i
    · subst e; rw [if_pos rfl, if_pos rfl]
    · rw [if_neg (by omega), if_neg (by omega), if_neg e, getD_lt X [] hi]
theorem mvX_both (X : List (List Int)) {f t : Nat} (hf : f < X.length) (ht : t < X.length) (hne : t ≠ f) : mvX X f t = (X.set f ((X.getD f []).take ((X.getD f []).length - 1))).set t (X.getD t [] ++ [topL (X.getD f [])]) := by
  apply List.ext_getElem
  · simp [mvX]
  · intro i h1 h2
    simp only [mvX, List.getElem_map, List.getElem_range]
    rw [List.getElem_set, List.getElem_set]
    have hi : i < X.length := by simpa [mvX] using h1
    unfold mvRow
    rw [Int.toNat_natCast]
    by_cases e : t = i
    · subst e; rw [if_pos rfl, if_neg (by omega), if_pos rfl]
    · rw [if_neg e]
      by_cases e2 : f = i
      · subst e2; rw [if_pos rfl, if_pos rfl]
      · rw [if_neg (by omega), if_neg (by omega), if_neg e2, getD_lt X [] hi]

set_option maxRecDepth 100000 in
set_option maxHeartbeats 6400000 in
theorem l20Move_any (A : Option Addr) (c : Nat) (rs : List (Row Int)) (f t : Int) (w : World) (hr : RdR LI w w.heap.size A c rs) (hnil : ∀ r ∈ rs, r.1 = none → r.2.1 = 0) (hl : rs.length ≤ 1048576) (hrl : ∀ r ∈ rs, r.2.2.length ≤ 1048576) (hok : mvOk (dat rs) f t = true) :
    Calls Tryd.prog 44 #[.slice A rs.length c, .agg #[.int .i64 f, .int .i64 t]] w fun e w' => ∃ A1 c1 os, e = .returned (.slice A1 os.length c1) ∧ OwnR LI 23 2 w' w.heap.size A1 c1 os ∧ dat os = mvX (dat rs) f t ∧ Below w.heap.size w w' := by
  have hlen := hr.len63
  obtain ⟨h1, h2, h3, h4, h5, h6⟩ := mvOk_iff.1 hok
  rw [dat_len] at h2 h6
  obtain ⟨fN, rfl⟩ : ∃ fN : Nat, f = (fN : Int) := ⟨f.toNat, by omega⟩
  rw [Int.toNat_natCast] at h3
  have hfl : fN < rs.length := by omega
  have hfli : (fN : Int) < rs.length := by omega
  obtain ⟨X, hX⟩ : ∃ X, X = dat rs := ⟨_, rfl⟩
  have HX : Hid (X.length = rs.length) := Lib.hid (by rw [hX]; exact dat_len rs)
  have HG : Hid (∀ i (h : i < rs.length), X.getD i [] = rs[i].2.2) := Lib.hid fun i h => by rw [hX]; exact getD_datY rs i h
  rw [← hX] at h3 ⊢
  have HRL := Lib.hid hrl
  have HNIL := Lib.hid hnil
  have HX2 := Lib.hid hX
  clear hX hrl hnil hok
  go_enter Tryd.func44, Tryd.ntmps44
  go_wp2_with fail
  have HW0 : Hid (Below w.heap.size w (w.alloc (.cells #[.int .i64 fN, .int .i64 t] 45))) := Lib.hid ((Below.refl _ w).alloc (Nat.le_refl _) _)
  have hWs : (w.alloc (.cells #[.int .i64 fN, .int .i64 t] 45)).heap.size = w.heap.size + 1 := by simp
  have HK0 : Hid ((w.alloc (.cells #[.int .i64 fN, .int .i64 t] 45)).cell? ⟨w.heap.size, 0, none⟩ = some (.int .i64 fN)) := Lib.hid (by go_simp)
  have HK1 : Hid ((w.alloc (.cells #[.int .i64 fN, .int .i64 t] 45)).cell? ⟨w.heap.size, 1, none⟩ = some (.int .i64 t)) := Lib.hid (by go_simp)
  generalize w.alloc (.cells #[.int .i64 fN, .int .i64 t] 45) = W at *
  go_loopw [5, 6] (fun o i wr => ∃ (k : Nat) (A1 : Option Addr) (c1 : Nat) (os : List (Row Int)) (L1 : List (Option Addr × Nat × Nat)), k ≤ rs.length ∧ i = .int .i64 k ∧ o = .slice A1 L1.length c1 ∧ L1.length = k ∧ Hid (L1 = os.map hd) ∧ Hid (dat os = (dat rs).take k) ∧ Hid (OwnR LI 23 2 wr (w.heap.size + 1) A1 c1 os) ∧ Hid (Below (w.heap.size + 1) W wr)) (fun _ i _ => rs.length - (intOf i).toNat)
  case atStart => exact ⟨0, _, _, [], [], by omega, rfl, rfl, by simp, Lib.hid rfl, Lib.hid (by simp [dat]), Lib.hid ⟨Own.lit0 W (by omega) (by omega), (fun r hr => by cases hr), List.Pairwise.nil⟩, Lib.hid ((Below.refl _ _).alloc (by omega) _)⟩
  case round =>
    obtain ⟨i, A1, c1, os, L1, hi, rfl, rfl, hLk0, HL, HD, HO, HBW⟩ := hrel
    have hLk : L1.length ≤ i := by omega
    have hLk2 : i ≤ L1.length := by omega
    have HLK := Lib.hid hLk0
    clear hLk0
    have hsz := HBW.out.size
    have HBw := Lib.hid (HW0.out.trans (HBW.out.mono (by omega)))
    by_cases hlt : i < rs.length
    · have hli : (i : Int) < rs.length := by omega
      have hyl := HRL.out _ (List.getElem_mem hlt)
      obtain ⟨ad', rfl, _, hcell, hrk⟩ := (hr.below HBw.out).at_ hlt
      have hcl := l00Own_any rs[i].1 rs[i].2.1 rs[i].2.2 w.heap.size wr hrk (by omega) (by omega) (HNIL.out _ (List.getElem_mem hlt))
      have HDG := Lib.hid (dat_get rs i hlt)
      clear hrk
      generalize rs[i].2.2 = ys at *
      generalize rs[i].1 = Ay at *
      generalize rs[i].2.1 = cy at *
      go_wp2_with fail
      refine hcl.mono ?_
      rintro e w2 ⟨A2, c2, rfl, ho2, hb2⟩
      have hs2 := hb2.size
      have HB2 := Lib.hid hb2
      have HO2 := Lib.hid ho2
      have HO3 := Lib.hid (HO.out.below hb2)
      have HlO := Lib.hid HO.out.blk_lt
      have HB3 := Lib.hid (HBW.out.trans (hb2.mono (by omega)))
      have hout : Own LV 23 w2 (w.heap.size + 1) A1 c1 L1 := by rw [HL.out]; exact HO3.out.out
      clear hcl hb2 ho2 hcell
      go_wp2_with (at_builtin; go_loud (refine wpL_app1 (L := LV) rowV rfl rfl _ _ rfl rfl hout (A2, ys.length, c2) _ rfl rfl (by simp) (by unfold maxLen; omega) (by omega) (by omega) ?_); intro A6 c6 w6 ho6 hg6)
      go_roundw
      case rel =>
        have e : hd ((A2, c2, ys) : Row Int) = (A2, ys.length, c2) := rfl
        have hsn := OwnR.snoc (r := (A2, c2, ys)) HO3.out (by decide) (HO2.out.lower (by omega)) (fun s hs g h1 h2 => by have := HlO.out.2 s hs g h1; have := HO2.out.blk_lt g h2; omega) (by
          rw [HL.out] at ho6
          exact ho6) hg6
        refine ⟨i + 1, A6, c6, _, L1 ++ [(A2, ys.length, c2)], by omega, by go_num, by simp, by simp; exact HLK.out, Lib.hid ?_, Lib.hid ?_, Lib.hid hsn, Lib.hid ?_⟩
        · rw [HL.out, List.map_append]
          simp [hd]
        · rw [dat_append, HD.out, List.take_succ_eq_append_getElem (by rw [dat_len]; exact hlt), HDG.out]
          rfl
        · exact Grew.below HB3.out hg6 (by omega) fun g' hg' => (HlO.out.1 g' hg').1
      case measure => simp [intOf]; omega
    · obtain rfl : i = rs.length := by omega
      have k0 := (HBW.out.cell (p := ⟨w.heap.size, 0, none⟩) (by simp)).trans HK0.out
      have k1 := (HBW.out.cell (p := ⟨w.heap.size, 1, none⟩) (by simp)).trans HK1.out
      have hdos : dat os = X := by rw [HD.out, List.take_of_length_le (by rw [dat_len]; exact Nat.le_refl _), ← HX2.out]
      have hosl : os.length = rs.length := by rw [← dat_len, hdos, HX.out]
      have hfo : fN < os.length := by omega
      have hrow : ∀ i (h : i < os.length), os[i].2.2 = X.getD i [] := fun i h => by
        rw [← dat_get os i h]
        simp only [hdos]
        rw [getD_lt X [] (by rw [HX.out]; omega)]
      have HROW := Lib.hid hrow
      have HOSL := Lib.hid hosl
      have HDOS := Lib.hid hdos
      obtain ⟨gA, rfl, hgA1, hgA2, hcF, hfF, hrowF⟩ := HO.out.at_ hfo
      have hzl : os[fN].2.2.length = (X.getD fN []).length := by rw [hrow fN hfo]
      obtain ⟨zs, hzs⟩ : ∃ zs, zs = os[fN].2.2 := ⟨_, rfl⟩
      obtain ⟨Az, hAz⟩ : ∃ Az, Az = os[fN].1 := ⟨_, rfl⟩
      obtain ⟨cz, hcz⟩ : ∃ cz, cz = os[fN].2.1 := ⟨_, rfl⟩
      rw [← hAz, ← hzs, ← hcz] at hcF hrowF
      rw [← hzs] at hzl
      have HZS : Hid (X.getD fN [] = zs) := Lib.hid (by rw [hzs, hrow fN hfo])
      have HAZ := Lib.hid hAz
      have HCZ := Lib.hid hcz
      have hz0 : 1 ≤ zs.length := by rw [hzl]; omega
      obtain ⟨gz, rfl, hgz1, hgz2, hcl, _⟩ := hrowF.int (k := zs.length - 1) (by omega)
      obtain ⟨pk, hpk⟩ : ∃ pk, pk = zs[zs.length - 1]'(by omega) := ⟨_, rfl⟩
      rw [← hpk] at hcl
      have HPK : Hid (topL zs = pk) := Lib.hid (by unfold topL; rw [if_neg (by omega), getD_lt zs 0 (by omega), hpk])
      have HRF := Lib.hid hrowF
      have hcap := hrowF.le
      have hzb : zs.length ≤ 1048576 := by
        have h9 := HRL.out _ (List.getElem_mem hfl)
        rw [← HG.out fN hfl, HZS.out] at h9
        exact h9
      have y1 : (1 : Int) ≤ zs.length := by omega
      have y2 : ((zs.length : Int) - 1).toNat = zs.length - 1 := by omega
      have y3 : (zs.length : Int) - 1 ≤ cz := by omega
      have y4 : zs.length - 1 ≤ cz := by omega
      have y5 : (0 : Int) ≤ (zs.length : Int) - 1 := by omega
      have y6 : (zs.length : Int) - 1 < zs.length := by omega
      have hLf : fN < L1.length := by omega
      have hLfi : (fN : Int) < L1.length := by omega
      have hggA : w.heap.size ≠ gA := by omega
      clear hdos hosl hrow hzs hAz hcz hrowF hpk hzl
      go_wp2_with fail
      go_region
      generalize hW5 : (wr.setCell ⟨gA, fN, none⟩ (.slice (some ⟨gz, 0, none⟩) (zs.length - 1) cz)).drew = w5
      have hO5 : OwnR LI 23 2 w5 (w.heap.size + 1) (some ⟨gA, 0, none⟩) c1 (os.set fN (some ⟨gz, 0, none⟩, cz, zs.take (zs.length - 1))) := by
        rw [← hW5]
        have h := HO.out.setRow (by decide) fN (some ⟨gz, 0, none⟩, cz, zs.take (zs.length - 1)) (HRF.out.take _) (fun j hj e => by
          have := HO.out.apart hj hfo e
          rw [← HAZ.out] at this
          exact this)
        have e : (zs.take (zs.length - 1)).length = zs.length - 1 := by simp
        simp only [e] at h
        exact h.dr
      have hb5 : Below (w.heap.size + 1) W w5 := by
        rw [← hW5]
        exact below_drewN (HBW.out.setCell (p := ⟨gA, fN, none⟩) (by exact hgA1) _) 1
      have HO5 := Lib.hid hO5
      have HB5 := Lib.hid hb5
      have k15 := (hb5.cell (p := ⟨w.heap.size, 1, none⟩) (by simp)).trans HK1.out
      have hsz5 := hb5.size
      have hD5 : dat (os.set fN (some ⟨gz, 0, none⟩, cz, zs.take (zs.length - 1))) = X.set fN (zs.take (zs.length - 1)) := by rw [dat_set, HDOS.out]
      have HD5 := Lib.hid hD5
      have HBw5 := Lib.hid (HW0.out.trans (hb5.mono (by omega)))
      clear hW5 hO5 hb5 hD5 k0 k1 hcF hfF hcl hgz2
      have hXf : fN < X.length := by rw [HX.out]; exact hfl
      by_cases ht0 : t < 0
      · have htm : t = -1 := by omega
        have HM : Hid (mvX X fN t = X.set fN (zs.take (zs.length - 1))) := Lib.hid (by rw [htm, mvX_drop X hXf, HZS.out])
        have HLE : Hid (L1.length = (os.set fN (some ⟨gz, 0, none⟩, cz, zs.take (zs.length - 1))).length) := Lib.hid (by rw [List.length_set, HOSL.out, HLK.out])
        go_wp2_with fail
        go_ret
        exact ⟨some ⟨gA, 0, none⟩, c1, _, by rw [← HLE.out]; rfl, HO5.out.lower (by omega), by rw [HD5.out, HM.out], HBw5.out⟩
      · obtain ⟨tN, rfl⟩ : ∃ tN : Nat, t = (tN : Int) := ⟨t.toNat, by omega⟩
        have htN : tN < rs.length := by omega
        have hne : tN ≠ fN := fun e => h4 (by rw [e])
        have hto : tN < os.length := by rw [HOSL.out]; exact htN
        have hts : tN < (os.set fN (some ⟨gz, 0, none⟩, cz, zs.take (zs.length - 1))).length := by rw [List.length_set]; exact hto
        obtain ⟨g', hg', _, hgA5, hcT, hfT, hrT⟩ := HO5.out.at_ hts
        cases hg'
        obtain ⟨ys, hys⟩ : ∃ ys, ys = (os.set fN (some ⟨gz, 0, none⟩, cz, zs.take (zs.length - 1)))[tN].2.2 := ⟨_, rfl⟩
        obtain ⟨At, hAt⟩ : ∃ At, At = (os.set fN (some ⟨gz, 0, none⟩, cz, zs.take (zs.length - 1)))[tN].1 := ⟨_, rfl⟩
        obtain ⟨ct, hct⟩ : ∃ ct, ct = (os.set fN (some ⟨gz, 0, none⟩, cz, zs.take (zs.length - 1)))[tN].2.1 := ⟨_, rfl⟩
        rw [← hys, ← hAt, ← hct] at hcT hrT
        have HYS : Hid (X.getD tN [] = ys) := Lib.hid (by
          rw [hys, List.getElem_set_ne (fun e => hne e.symm), HROW.out tN hto])
        have HAT := Lib.hid hAt
        have HRT := Lib.hid hrT
        have hlT := hrT.blk_lt
        have HlT := Lib.hid hlT
        have hgAT : blk At ≠ some gA := fun e => own_types HO5.out.out hrT (by decide) gA rfl e
        have HGAT := Lib.hid hgAT
        have hyb : ys.length ≤ 1048576 := by
          have h9 := HRL.out _ (List.getElem_mem htN)
          rw [← HG.out tN htN, HYS.out] at h9
          exact h9
        have hLt : tN < L1.length := by omega
        have hLti : (tN : Int) < L1.length := by omega
        have HM : Hid (mvX X fN tN = (X.set fN (zs.take (zs.length - 1))).set tN (ys ++ [pk])) := Lib.hid (by rw [mvX_both X hXf (by rw [HX.out]; exact htN) hne, HZS.out, HYS.out, HPK.out])
        have hgw : w.heap.size < w5.heap.size := by omega
        clear hys hAt hct hrT hlT hgAT ht0 hne
        go_wp2_with fail
        go_region_law ((refine stepL_app1 (L := LI) rowI rfl rfl _ _ rfl rfl (HRT.out.alloc _) pk rfl ?_ (by unfold maxLen; omega) (by omega) (by simp; omega) ?_; (focus (intro j v hv; show (w5.alloc _).cell? _ = _; rw [World.cell?_alloc_at (hn := rfl)]; simpa [LI] using hv)); intro A6 c6 w6 ho6 hg6; have hfz := (hg6.frozen ⟨gA, tN, none⟩ (by simp; omega) HGAT.out).trans (show (w5.alloc _).frozen? _ = false by go_simp); have k16 := (hg6.cell ⟨w.heap.size, 1, none⟩ (by simp; omega) (fun e => by have := HlT.out w.heap.size e; omega)).trans (show (w5.alloc _).cell? _ = some (.int .i64 tN) by go_simp); have hcT6 := (hg6.cell ⟨gA, tN, none⟩ (by simp; omega) HGAT.out).trans (show (w5.alloc _).cell? _ = some (.slice At ys.length ct) by go_simp)))
        all_goals
          have h := (HO5.out.al (.cells #[.int .i64 pk] 2)).dr.appRow (by decide) hts (A6, c6, ys ++ [pk]) ho6 (by rw [← HAT.out]; exact hg6)
          have e6 : (ys ++ [pk]).length = ys.length + 1 := by simp
          simp only [e6] at h
          have HF := Lib.hid h
          have HBF := Lib.hid ((Grew.below (below_drewN (HBw5.out.alloc (by omega) (.cells #[.int .i64 pk] 2)) 1) hg6 (by show w.heap.size ≤ (w5.alloc _).heap.size; simp; omega) (fun g e => by have := HlT.out g e; omega)).setCell (p := ⟨gA, tN, none⟩) (by show w.heap.size ≤ gA; omega) (.slice A6 (ys.length + 1) c6))
          clear h e6 hg6 ho6
          go_wp2_with fail
          go_ret
          exact ⟨some ⟨gA, 0, none⟩, c1, _, by rw [List.length_set, List.length_set, HOSL.out, ← HLK.out]; rfl, HF.out.lower (by omega), by rw [dat_set, HD5.out, HM.out], HBF.out⟩
end Go.Proofs.YtiefiikheaiekaaDoor
