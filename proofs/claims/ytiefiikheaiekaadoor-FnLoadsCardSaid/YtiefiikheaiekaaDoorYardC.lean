/-
  Yards: ValidYard, PacksAbove, TopPacks.
-/
import Derived.Test.YtiefiikheaiekaaDoorYardB
import Derived.Test.YtiefiikheaiekaaDoorSortW
namespace Go.Proofs.YtiefiikheaiekaaDoor
open Go.ChangeShapes Go.WideShapes Go.RowKit

theorem tlL_flat (X : List (List Int)) : X.flatten.length = tlL X := by
  induction X with
  | nil => rfl
  | cons r X ih => simp only [List.flatten_cons, List.length_append, tlL, ih]
theorem szR_tl {left : Int} {rs : List (Row Int)} (h0 : 0 ≤ left) (h : 0 ≤ szR left rs) : (tlL (dat rs) : Int) ≤ left := by
  induction rs generalizing left with
  | nil => simp [dat, tlL]; exact h0
  | cons r rs ih =>
    simp only [szR] at h
    split at h
    · have := ih (by omega) h
      simp only [dat, List.map_cons, tlL] at this ⊢
      omega
    · omega
/-- what the laws know of a yard's size -/
theorem tl_of {X : List (List Int)} {rs : List (Row Int)} {s : List (Row Int)} (e : dat s = X) (h0 : X = dat rs) (h : 0 ≤ szRR 1048576 rs) : tlL (dat s) ≤ 1048576 := by
  rw [e, h0]
  unfold szRR at h
  split at h
  · have := szR_tl (by omega) h
    omega
  · omega
theorem getD_datY (rs : List (Row Int)) (i : Nat) (h : i < rs.length) : (dat rs).getD i [] = rs[i].2.2 := by
  rw [getD_lt (dat rs) [] (by rw [dat_len]; exact h), dat_get]

set_option maxRecDepth 100000 in
set_option maxHeartbeats 3200000 in
theorem implValidYard_any (A : Option Addr) (c : Nat) (rs : List (Row Int)) (w : World) (hr : RdR LI w w.heap.size A c rs) (hn : tlL (dat rs) ≤ 1048576) :
    Calls Tryd.prog 52 #[.slice A rs.length c] w fun e w' => e = .returned (.bool (vyB (dat rs))) ∧ Below w.heap.size w w' := by
  have hlen := hr.len63
  have HX := Lib.hid (dat_len rs)
  have hcc := concat_any A c rs w.heap.size w hr (Nat.le_refl _) (by rw [tlL_flat]; omega)
  have hfl : (dat rs).flatten.length ≤ 1048576 := by rw [tlL_flat]; exact hn
  obtain ⟨F, hF⟩ : ∃ F, F = (dat rs).flatten := ⟨_, rfl⟩
  obtain ⟨b, hb⟩ : ∃ b, b = vyB (dat rs) := ⟨_, rfl⟩
  rw [← hF] at hcc hfl
  rw [← hb]
  have HF := Lib.hid hF
  have HB := Lib.hid hb
  clear hF hb
  have hwi := fun W => within_any rs.length 1 4 W
  cases hi : inB rs.length 1 4
  · have HN : Hid (b = false) := Lib.hid (by
      rw [HB.out]
      refine dB_no fun h => ?_
      rw [inB_mk (by have := h.1; rw [HX.out] at this; omega)] at hi
      cases hi)
    rw [hi] at hwi
    rw [HN.out]
    clear hi
    go_enter Tryd.func52, Tryd.ntmps52
    go_wp2_with fail
    refine hcc.mono ?_
    rintro e w1 ⟨A1, c1, rfl, ho1, hb1⟩
    have HB1 := Lib.hid hb1
    clear ho1 hb1
    go_wp2_with fail
    refine (hwi _).mono ?_
    rintro e w2 ⟨rfl, rfl⟩
    go_wp2_with fail
    go_ret
    exact ⟨rfl, HB1.out⟩
  rw [hi] at hwi
  have hii := inB_yes hi
  by_cases h6 : 6 < F.length
  · have HN : Hid (b = false) := Lib.hid (by
      rw [HB.out]
      refine dB_no fun h => ?_
      have := h.2.1
      rw [← HF.out] at this
      omega)
    have h6i : (6 : Int) < F.length := by omega
    rw [HN.out]
    clear hi hii
    go_enter Tryd.func52, Tryd.ntmps52
    go_wp2_with fail
    refine hcc.mono ?_
    rintro e w1 ⟨A1, c1, rfl, ho1, hb1⟩
    have HB1 := Lib.hid hb1
    clear ho1 hb1
    go_wp2_with fail
    refine (hwi _).mono ?_
    rintro e w2 ⟨rfl, rfl⟩
    go_wp2_with fail
    go_ret
    exact ⟨rfl, HB1.out⟩
  have h6b : F.length ≤ 6 := by omega
  have h6c : (F.length : Int) ≤ 6 := by omega
  have hou := fun A1 c1 W h => outside_any A1 c1 F 1 99 W h
  cases hot : outB F 1 99
  rotate_left
  · have HN : Hid (b = false) := Lib.hid (by
      rw [HB.out]
      refine dB_no fun h => ?_
      have := h.2.2.1
      rw [← HF.out] at this
      rw [outB_mk this] at hot
      cases hot)
    rw [HN.out]
    rw [hot] at hou
    clear hi hii hot h6
    go_enter Tryd.func52, Tryd.ntmps52
    go_wp2_with fail
    refine hcc.mono ?_
    rintro e w1 ⟨A1, c1, rfl, ho1, hb1⟩
    have HB1 := Lib.hid hb1
    have HO1 := Lib.hid ho1
    clear ho1 hb1
    go_wp2_with fail
    refine (hwi _).mono ?_
    rintro e w2 ⟨rfl, rfl⟩
    go_wp2_with fail
    refine (hou _ _ _ HO1.out.rd).mono ?_
    rintro e w2 ⟨rfl, hb2⟩
    have HB2 := Lib.hid (bthen HB1.out (Nat.le_refl _) hb2)
    clear hb2
    go_wp2_with fail
    go_ret
    exact ⟨rfl, HB2.out⟩
  rw [hot] at hou
  have HBV : Hid (b = true ↔ F.Nodup) := Lib.hid (by
    rw [HB.out]
    constructor
    · intro h
      have := (dB_true h).2.2.2
      rwa [← HF.out] at this
    · intro h
      refine dB_yes ⟨by rw [HX.out]; omega, ?_, ?_, ?_⟩
      · rw [← HF.out]; exact h6b
      · rw [← HF.out]; exact outB_no hot
      · rw [← HF.out]; exact h)
  clear hi hii hot h6
  go_enter Tryd.func52, Tryd.ntmps52
  go_wp2_with fail
  refine hcc.mono ?_
  rintro e w1 ⟨A1, c1, rfl, ho1, hb1⟩
  have HB1 := Lib.hid hb1
  have HO1 := Lib.hid ho1
  clear ho1 hb1
  go_wp2_with fail
  refine (hwi _).mono ?_
  rintro e w2 ⟨rfl, rfl⟩
  go_wp2_with fail
  refine (hou _ _ _ HO1.out.rd).mono ?_
  rintro e w2 ⟨rfl, hb2⟩
  have HO2 := Lib.hid (HO1.out.below hb2)
  have HB2 := Lib.hid (bthen HB1.out (Nat.le_refl _) hb2)
  have hz2 := HB2.out.size
  clear hb2
  go_wp2_with fail
  refine (sort_any A1 c1 F w.heap.size _ HO2.out hz2 (by omega)).mono ?_
  rintro e w3 ⟨rfl, ho3, hb3⟩
  have HB3 := Lib.hid (HB2.out.trans hb3)
  have hz3 := HB3.out.size
  have hcl := clone_any A1 c1 (srt F) w3.heap.size w3 ho3.rd (Nat.le_refl _) (by rw [srt_len]; omega)
  rw [srt_len] at hcl
  clear ho3 hb3
  go_wp2_with fail
  refine hcl.mono ?_
  rintro e w4 ⟨A4, c4, rfl, ho4, hb4⟩
  have hcp := compact_any A4 c4 (srt F) w3.heap.size w4 ho4 hb4.size
  rw [srt_len] at hcp
  have HB4 := Lib.hid hb4
  clear ho4 hb4 hcl
  go_wp2_with fail
  refine hcp.mono ?_
  rintro e w5 ⟨A5, n5, c5, rfl, h5, h5', hb5⟩
  have HBF := Lib.hid (HB3.out.trans ((HB4.out.trans hb5).mono hz3))
  clear hcp hb5
  by_cases hnd : F.Nodup
  · have hn5 := h5 ((sort_nodup F).2 hnd)
    have HT := Lib.hid (HBV.out.2 hnd)
    subst hn5
    have e1 : ((F.length : Int) == (F.length : Int)) = true := by simp
    clear h5 h5' hnd
    go_wp2_with fail
    go_ret
    exact ⟨ret_bool (by rw [HT.out]), HBF.out⟩
  · have hn5 := h5' (fun h => hnd ((sort_nodup F).1 h))
    have HT : Hid (b = false) := Lib.hid (by
      cases hb : b
      · rfl
      · exact absurd (HBV.out.1 hb) hnd)
    have e1 : ((n5 : Int) == (F.length : Int)) = false := by rw [beq_eq_false_iff_ne]; omega
    have e2 : (n5 == F.length) = false := by rw [beq_eq_false_iff_ne]; omega
    clear h5 h5' hnd
    go_wp2_with fail
    go_ret
    exact ⟨ret_bool (by rw [HT.out]), HBF.out⟩

set_option maxRecDepth 100000 in
set_option maxHeartbeats 3200000 in
theorem l20Ok_any (A : Option Addr) (c : Nat) (rs : List (Row Int)) (w : World) (hr : RdR LI w w.heap.size A c rs) (hn : tlL (dat rs) ≤ 1048576) :
    Calls Tryd.prog 60 #[.slice A rs.length c] w fun e w' => e = .returned (.bool (vyB (dat rs))) ∧ Below w.heap.size w w' := by
  have hlen := hr.len63
  have HX := Lib.hid (dat_len rs)
  have HG := Lib.hid (getD_datY rs)
  have hfl : (dat rs).flatten.length ≤ 1048576 := by rw [tlL_flat]; exact hn
  obtain ⟨X, hX⟩ : ∃ X, X = dat rs := ⟨_, rfl⟩
  rw [← hX] at HX HG hfl ⊢
  clear hX hn
  obtain ⟨b, hb⟩ : ∃ b, b = vyB X := ⟨_, rfl⟩
  rw [← hb]
  have HB := Lib.hid hb
  clear hb
  have hpl : ∀ i k, i < X.length → k < (X.getD i []).length → (pre X i k).length < X.flatten.length := fun i k hi hk => by
    obtain ⟨r, e⟩ := pre_split X hi hk
    rw [e]; simp
  have HPL := Lib.hid hpl
  clear hpl
  go_enter Tryd.func60, Tryd.ntmps60
  go_wp2_with fail
  go_loopw [3, 4] (fun s i wr => ∃ (k : Nat) (As : Option Addr) (cs : Nat) (L : List Int), k ≤ rs.length ∧ i = .int .i64 k ∧ s = .slice As L.length cs ∧ Hid (L = pre X k 0) ∧ Hid (OkP X L) ∧ Hid (Own LI 2 wr w.heap.size As cs L) ∧ Hid (Below w.heap.size w wr)) (fun _ i _ => rs.length - (intOf i).toNat)
  case atStart => exact ⟨0, _, _, [], by omega, rfl, rfl, Lib.hid (pre_zero X).symm, Lib.hid ⟨by simp, by simp⟩, Lib.hid (Own.lit0 w (Nat.le_refl _) rfl), Lib.hid ((Below.refl _ _).alloc (Nat.le_refl _) _)⟩
  case round =>
    obtain ⟨i, As, cs, L, hi, rfl, rfl, HL, HK, HO, HBw⟩ := hrel
    by_cases hlt : i < rs.length
    · have hli : (i : Int) < rs.length := by omega
      have hGi := HG.out i hlt
      obtain ⟨ad, rfl, _, _, _⟩ := hr.at_ hlt
      have HR0 := Lib.hid (hr.inn _ (List.getElem_mem hlt))
      obtain ⟨ys, hys⟩ : ∃ ys, ys = rs[i].2.2 := ⟨_, rfl⟩
      obtain ⟨Ay, hAy⟩ : ∃ Ay, Ay = rs[i].1 := ⟨_, rfl⟩
      obtain ⟨cy, hcy⟩ : ∃ cy, cy = rs[i].2.1 := ⟨_, rfl⟩
      have HC : Hid (∀ wr : World, Below w.heap.size w wr → wr.cell? (ad.add i) = some (.slice Ay ys.length cy)) := Lib.hid fun wr hb => by
        obtain ⟨ad', hA, _, hc, _⟩ := (hr.below hb).at_ hlt
        cases hA
        rw [hc, hys, hAy, hcy]
      have HRY : Hid (Rd LI w w.heap.size Ay cy ys) := Lib.hid (by rw [hys, hAy, hcy]; exact HR0.out)
      rw [← hys] at hGi
      have HGI := Lib.hid hGi
      have HLP : Hid (∀ k, k < ys.length → (pre X i k).length < X.flatten.length) := Lib.hid fun k hk => HPL.out i k (by rw [HX.out]; exact hlt) (by rw [HGI.out]; exact hk)
      clear hys hAy hcy hGi HR0
      have hyl := HRY.out.len63
      go_wp2_with fail
      go_loopw [3, 5] (fun s j wr => ∃ (k : Nat) (As : Option Addr) (cs : Nat) (L : List Int), k ≤ ys.length ∧ j = .int .i64 k ∧ s = .slice As L.length cs ∧ Hid (L = pre X i k) ∧ Hid (OkP X L) ∧ Hid (Own LI 2 wr w.heap.size As cs L) ∧ Hid (Below w.heap.size w wr)) (fun _ j _ => ys.length - (intOf j).toNat)
      case atStart => exact ⟨0, As, cs, L, by omega, rfl, rfl, HL, HK, HO, HBw⟩
      case round =>
        clear HL HK HO HBw
        obtain ⟨k, As, cs, L, hk, rfl, rfl, HL, HK, HO, HBw⟩ := hrel
        have hck := HC.out _ HBw.out
        by_cases hkl : k < ys.length
        · have hki : (k : Int) < ys.length := by omega
          obtain ⟨ay, rfl, _, hcy⟩ := (HRY.out.below HBw.out).int hkl
          have HE : Hid ((X.getD i [])[k]'(by rw [HGI.out]; exact hkl) = ys[k]) := Lib.hid (by simp only [HGI.out])
          have hll : L.length < 1048576 := by rw [HL.out]; have := HLP.out k hkl; omega
          have HXi : Hid (i < X.length) := Lib.hid (by rw [HX.out]; exact hlt)
          obtain ⟨p, hp⟩ : ∃ p, p = ys[k] := ⟨_, rfl⟩
          rw [← hp] at hcy HE
          have hin := fun W => l00In_any p 1 99 W
          have hhas := fun W h => l00Has_any As cs L p w.heap.size W h
          clear hp
          cases h1 : inB p 1 99
          · have HN : Hid (b = false) := Lib.hid (by
              rw [HB.out]
              exact vy_bad HXi.out (by rw [HGI.out]; exact hkl) (.inl (by rw [HE.out]; intro h; rw [inB_mk h] at h1; cases h1)))
            rw [h1] at hin
            clear hhas h1
            go_wp2_with fail
            refine (hin _).mono ?_
            rintro e w9 ⟨rfl, rfl⟩
            go_wp2_with fail
            go_ret
            exact ⟨ret_bool HN.out.symm, HBw.out⟩
          · rw [h1] at hin
            have HIN := Lib.hid (inB_yes h1)
            have hhas2 := l00Has_any As cs L p wr.heap.size wr HO.out.rd
            cases h2 : hasB L p
            · rw [h2] at hhas2
              have HM : Hid (p ∉ L) := Lib.hid (fun hm => by rw [hasB_iff.2 hm] at h2; cases h2)
              have HBl := Lib.hid HO.out.blk_lt
              have hsz := HBw.out.size
              clear hhas h1 h2
              go_wp2_with fail
              refine (hin _).mono ?_
              rintro e w9 ⟨rfl, rfl⟩
              go_wp2_with fail
              refine hhas2.mono ?_
              rintro e w9 ⟨rfl, rfl⟩
              clear hhas2
              go_wp2_with (at_builtin; go_loud (refine wpL_app1 (L := LI) rowI rfl rfl _ _ rfl rfl HO.out p _ rfl rfl rfl (by unfold maxLen; omega) (by omega) (by exact hsz) ?_); intro An cn wn hon hg1)
              go_roundw
              case rel => exact ⟨k + 1, An, cn, L ++ [p], by omega, by go_num, by simp, Lib.hid (by rw [pre_step X (by rw [HGI.out]; exact hkl), HE.out, HL.out]), Lib.hid (HK.out.step HIN.out HM.out), Lib.hid hon, Lib.hid (Grew.below HBw.out hg1 hsz fun g hg => (HBl.out g hg).1)⟩
              case measure => simp [intOf]; omega
            · rw [h2] at hhas2
              have HN : Hid (b = false) := Lib.hid (by
                rw [HB.out]
                exact vy_bad HXi.out (by rw [HGI.out]; exact hkl) (.inr (by rw [HE.out, ← HL.out]; exact hasB_iff.1 h2)))
              clear hhas h1 h2
              go_wp2_with fail
              refine (hin _).mono ?_
              rintro e w9 ⟨rfl, rfl⟩
              go_wp2_with fail
              refine hhas2.mono ?_
              rintro e w9 ⟨rfl, rfl⟩
              go_wp2_with fail
              go_ret
              exact ⟨ret_bool HN.out.symm, HBw.out⟩
        · obtain rfl : k = ys.length := by omega
          go_wp2_with fail
          go_roundw
          case rel => exact ⟨i + 1, As, cs, L, by omega, by go_num, rfl, Lib.hid (by rw [HL.out, ← pre_next X (by rw [HX.out]; exact hlt), HGI.out]), HK, HO, HBw⟩
          case measure => simp [intOf]; omega
    · obtain rfl : i = rs.length := by omega
      have hLF : L = X.flatten := by rw [HL.out, ← HX.out, pre_end]
      have HV : Hid (b = (inB rs.length 1 4 && decide (L.length ≤ 6))) := Lib.hid (by
        rw [HB.out, vy_end (by rw [← hLF]; exact HK.out), hLF, HX.out]
        rfl)
      clear hLF
      have hin := fun W => l00In_any rs.length 1 4 W
      cases h1 : inB rs.length 1 4
      · rw [h1] at hin
        rw [h1] at HV
        go_wp2_with fail
        refine (hin _).mono ?_
        rintro e w9 ⟨rfl, rfl⟩
        go_wp2_with fail
        go_ret
        exact ⟨ret_bool (by rw [HV.out]; rfl), HBw.out⟩
      · rw [h1] at hin
        rw [h1] at HV
        by_cases h6 : L.length ≤ 6
        · have h6i : (L.length : Int) ≤ 6 := by omega
          have HT : Hid (b = true) := Lib.hid (by rw [HV.out, decide_eq_true h6]; rfl)
          go_wp2_with fail
          refine (hin _).mono ?_
          rintro e w9 ⟨rfl, rfl⟩
          go_wp2_with fail
          go_ret
          exact ⟨ret_bool HT.out.symm, HBw.out⟩
        · have h6i : (6 : Int) < L.length := by omega
          have h6n : 6 < L.length := by omega
          have HT : Hid (b = false) := Lib.hid (by rw [HV.out, decide_eq_false h6]; rfl)
          go_wp2_with fail
          refine (hin _).mono ?_
          rintro e w9 ⟨rfl, rfl⟩
          go_wp2_with fail
          go_ret
          exact ⟨ret_bool (by rw [HT.out]; exact decide_eq_false (by omega)), HBw.out⟩
end Go.Proofs.YtiefiikheaiekaaDoor
