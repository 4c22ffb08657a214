/-
  FnTrips returns true for every argument: the walk.
-/
import Derived.Test.YtcookepklcbfeaaTripsLawB
import Derived.Test.YtcookepklcbfeaaTripsDrawB
import Derived.Test.YtcookepklcbfeaaF6a
import Derived.Deep.CutRange
import Derived.Lib.MinMax
namespace Go.Proofs.Ytcookepklcbfeaa
open Go.ChangeShapes Go.WideShapes Go.RowKit

set_option maxRecDepth 100000 in
set_option maxHeartbeats 12800000 in
theorem lawTrips_any (A : Option Addr) (c : Nat) (cs : List Int) (w : World) (hr : Rd LU w w.heap.size A c cs) (hb : ∀ x ∈ cs, 0 ≤ x ∧ x ≤ 255) :
    Calls Try.prog 3 #[.slice A cs.length c] w fun e w' => e = .returned (.bool true) ∧ Below w.heap.size w w' := by
  have hlen := hr.len63
  have h6 := f6big_any A c cs.length w (by omega)
  have HK0 := Lib.hid (fun (W : World) (h : Below w.heap.size w W) => And.intro ((hr.below h).more h.size) h)
  have HBY := Lib.hid hb
  have hc1 := drawBestT_any A c cs w hr hb
  clear hr hb
  cases hbig : decide (4096 < cs.length)
  rotate_left
  · rw [hbig] at h6
    clear hc1
    go_enter Try.func3, Try.ntmps3
    go_wp2_with fail
    refine h6.mono ?_
    rintro e w1 ⟨rfl, rfl⟩
    go_wp2_with fail
    go_ret
    exact ⟨rfl, Below.refl _ _⟩
  rw [hbig] at h6
  go_enter Try.func3, Try.ntmps3
  go_wp2_with fail
  refine h6.mono ?_
  rintro e w0 ⟨rfl, rfl⟩
  go_wp2_with fail
  refine hc1.mono ?_
  rintro e w1 ⟨B1, d1, xs, most, rfl, _, _, hr1, hb1⟩
  have HK1 := Lib.hid (fun (W : World) (hW : Below w1.heap.size w1 W) => And.intro (HK0.out W (bthen hb1 (Nat.le_refl _) hW)) ((hr1.below hW).more hW.size))
  have HI1 := Lib.hid (fun (W : World) (h : Rd LI W W.heap.size B1 d1 xs) => And.intro (implBestTrips_any B1 d1 xs most W h) (specBestTrips_any B1 d1 xs most W h))
  have HI2 := Lib.hid (fun (W : World) (h : Rd LI W W.heap.size B1 d1 xs) => And.intro (implFewestTrips_any B1 d1 xs most W h) (specFewestTrips_any B1 d1 xs most W h))
  have HI3 := Lib.hid (fun (W : World) (h : Rd LI W W.heap.size B1 d1 xs) => And.intro (implFirstFitTrips_any B1 d1 xs most W h) (specFirstFitTrips_any B1 d1 xs most W h))
  have HI4 := Lib.hid (fun (W : World) (h : Rd LI W W.heap.size B1 d1 xs) => And.intro (implLeastTrips_any B1 d1 xs most W h) (specLeastTrips_any B1 d1 xs most W h))
  have hgood := tr_good (xs := xs) (most := most)
  obtain ⟨hq1, hq2, hq3⟩ := tr_codes (xs := xs) (most := most)
  obtain ⟨bt, hbt⟩ : ∃ b, b = btP xs most := ⟨_, rfl⟩
  obtain ⟨ft, hft⟩ : ∃ b, b = ftP xs most := ⟨_, rfl⟩
  obtain ⟨ff, hff⟩ : ∃ b, b = ffP xs most := ⟨_, rfl⟩
  obtain ⟨lt, hlt⟩ : ∃ b, b = ltP xs most := ⟨_, rfl⟩
  rw [← hbt] at HI1 hgood hq1
  rw [← hft] at HI2 hgood hq1 hq2
  rw [← hff] at HI3 hgood hq2 hq3
  rw [← hlt] at HI4 hgood hq3
  obtain ⟨M, pc⟩ := bt
  obtain ⟨few, one⟩ := ft
  obtain ⟨R, three⟩ := ff
  obtain ⟨low, five⟩ := lt
  dsimp only at HI1 HI2 HI3 HI4 hgood hq1 hq2 hq3
  subst hq1
  subst hq2
  subst hq3
  have HGOOD := Lib.hid hgood
  have hc2 := (HI1.out w1 (HK1.out w1 (Below.refl _ _)).2).1
  clear h6 hc1 hr1 hb1 hlen hbig hbt hft hff hlt hgood
  as_aux_lemma =>
  go_wp2_with fail
  refine hc2.mono ?_
  rintro e w2 ⟨B2, d2, rfl, ho2, hb2⟩
  have HK2 := Lib.hid (fun (W : World) (hW : Below w2.heap.size w2 W) => And.intro (HK1.out W (bthen hb2 (Nat.le_refl _) hW)) ((ho2.rd.below hW).more hW.size))
  have hc3 := (HI1.out w2 (HK2.out w2 (Below.refl _ _)).1.2).2
  clear hc2 ho2 hb2 HI1 HK1
  go_wp2_with fail
  refine hc3.mono ?_
  rintro e w3 ⟨B3, d3, rfl, ho3, hb3⟩
  have HK3 := Lib.hid (fun (W : World) (hW : Below w3.heap.size w3 W) => And.intro (HK2.out W (bthen hb3 (Nat.le_refl _) hW)) ((ho3.rd.below hW).more hW.size))
  have hc4 := (HI2.out w3 (HK3.out w3 (Below.refl _ _)).1.1.2).1
  clear hc3 ho3 hb3 HK2
  as_aux_lemma =>
  go_wp2_with fail
  refine hc4.mono ?_
  rintro e w4 ⟨rfl, hb4⟩
  have HK4 := Lib.hid (fun (W : World) (hW : Below w4.heap.size w4 W) => HK3.out W (bthen hb4 (Nat.le_refl _) hW))
  have hc5 := (HI2.out w4 (HK4.out w4 (Below.refl _ _)).1.1.2).2
  clear hc4 hb4 HI2 HK3
  go_wp2_with fail
  refine hc5.mono ?_
  rintro e w5 ⟨rfl, hb5⟩
  have HK5 := Lib.hid (fun (W : World) (hW : Below w5.heap.size w5 W) => HK4.out W (bthen hb5 (Nat.le_refl _) hW))
  have hc6 := (HI3.out w5 (HK5.out w5 (Below.refl _ _)).1.1.2).1
  clear hc5 hb5 HK4
  as_aux_lemma =>
  go_wp2_with fail
  refine hc6.mono ?_
  rintro e w6 ⟨B6, d6, rfl, ho6, hb6⟩
  have HK6 := Lib.hid (fun (W : World) (hW : Below w6.heap.size w6 W) => And.intro (HK5.out W (bthen hb6 (Nat.le_refl _) hW)) ((ho6.rd.below hW).more hW.size))
  have hc7 := (HI3.out w6 (HK6.out w6 (Below.refl _ _)).1.1.1.2).2
  clear hc6 ho6 hb6 HI3 HK5
  go_wp2_with fail
  refine hc7.mono ?_
  rintro e w7 ⟨B7, d7, rfl, ho7, hb7⟩
  have HK7 := Lib.hid (fun (W : World) (hW : Below w7.heap.size w7 W) => And.intro (HK6.out W (bthen hb7 (Nat.le_refl _) hW)) ((ho7.rd.below hW).more hW.size))
  have hc8 := (HI4.out w7 (HK7.out w7 (Below.refl _ _)).1.1.1.1.2).1
  clear hc7 ho7 hb7 HK6
  as_aux_lemma =>
  go_wp2_with fail
  refine hc8.mono ?_
  rintro e w8 ⟨rfl, hb8⟩
  have HK8 := Lib.hid (fun (W : World) (hW : Below w8.heap.size w8 W) => HK7.out W (bthen hb8 (Nat.le_refl _) hW))
  have hc9 := (HI4.out w8 (HK8.out w8 (Below.refl _ _)).1.1.1.1.2).2
  clear hc8 hb8 HI4 HK7
  go_wp2_with fail
  refine hc9.mono ?_
  rintro e w9 ⟨rfl, hb9⟩
  have HK9 := Lib.hid (fun (W : World) (hW : Below w9.heap.size w9 W) => HK8.out W (bthen hb9 (Nat.le_refl _) hW))
  have hc10 := drawFault_any A c cs w9 (HK9.out w9 (Below.refl _ _)).1.1.1.1.1.1 HBY.out
  clear hc9 hb9 HK8
  as_aux_lemma =>
  go_wp2_with fail
  refine hc10.mono ?_
  rintro e w10 ⟨Ba, da, ys, mo, Bt, dt, ts, rfl, hra, hrt, hb10⟩
  have HK10 := Lib.hid (fun (W : World) (hW : Below w10.heap.size w10 W) => HK9.out W (bthen hb10 (Nat.le_refl _) hW))
  have HIT := Lib.hid (fun (W : World) (hW : Below w10.heap.size w10 W) => And.intro (implTripFault_any Ba da ys mo Bt dt ts W ((hra.below hW).more hW.size) ((hrt.below hW).more hW.size)) (specTripFault_any Ba da ys mo Bt dt ts W ((hra.below hW).more hW.size) ((hrt.below hW).more hW.size)))
  obtain ⟨tf, htf⟩ : ∃ b, b = tfP2 ys mo (dat ts) := ⟨_, rfl⟩
  rw [← htf] at HIT
  clear htf
  obtain ⟨fault, seven⟩ := tf
  dsimp only at HIT
  have hc11 := (HIT.out w10 (Below.refl _ _)).1
  clear hc10 hra hrt hb10 HK9
  go_wp2_with fail
  refine hc11.mono ?_
  rintro e w11 ⟨rfl, hb11⟩
  have HK11 := Lib.hid (fun (W : World) (hW : Below w11.heap.size w11 W) => HK10.out W (bthen hb11 (Nat.le_refl _) hW))
  have hc12 := (HIT.out w11 hb11).2
  clear hc11 hb11 HIT HK10
  as_aux_lemma =>
  go_wp2_with fail
  refine hc12.mono ?_
  rintro e w12 ⟨rfl, hb12⟩
  have HK12 := Lib.hid (fun (W : World) (hW : Below w12.heap.size w12 W) => HK11.out W (bthen hb12 (Nat.le_refl _) hW))
  have hc13 := drawEven_any A c cs w12 (HK12.out w12 (Below.refl _ _)).1.1.1.1.1.1 HBY.out
  clear hc12 hb12 HK11
  go_wp2_with fail
  refine hc13.mono ?_
  rintro e w13 ⟨Bc, dc, zs, many, rfl, hzl, hzx, hrc, hb13⟩
  have HK13 := Lib.hid (fun (W : World) (hW : Below w13.heap.size w13 W) => And.intro (HK12.out W (bthen hb13 (Nat.le_refl _) hW)) ((hrc.below hW).more hW.size))
  have HIE := Lib.hid (fun (W : World) (h : Rd LI W W.heap.size Bc dc zs) => And.intro (implEvenestTrips_any Bc dc zs many W h) (specEvenestTrips_any Bc dc zs many W h))
  have HSM : Hid (sm zs ≤ 5000) := Lib.hid (by have := sm_bound (M := 101) (n := 12) (by omega) hzx hzl; omega)
  obtain ⟨ev, hev⟩ : ∃ b, b = evP zs many := ⟨_, rfl⟩
  rw [← hev] at HIE
  have HEV := Lib.hid hev
  clear hev
  obtain ⟨ev, nine⟩ := ev
  dsimp only at HIE
  have hc14 := (HIE.out w13 (HK13.out w13 (Below.refl _ _)).2).1
  clear hc13 hrc hb13 HK12 hzl hzx
  as_aux_lemma =>
  go_wp2_with fail
  refine hc14.mono ?_
  rintro e w14 ⟨rfl, hb14⟩
  have HK14 := Lib.hid (fun (W : World) (hW : Below w14.heap.size w14 W) => HK13.out W (bthen hb14 (Nat.le_refl _) hW))
  have hc15 := (HIE.out w14 (HK14.out w14 (Below.refl _ _)).2).2
  clear hc14 hb14 HIE HK13
  go_wp2_with fail
  refine hc15.mono ?_
  rintro e wk ⟨rfl, hb15⟩
  have HK := Lib.hid (fun (W : World) (hW : Below wk.heap.size wk W) => HK14.out W (bthen hb15 (Nat.le_refl _) hW))
  clear hc15 hb15 HK14 HBY HK0
  have HX1 : Hid (∀ W, Below wk.heap.size wk W → Rd LI W W.heap.size B1 d1 xs) := Lib.hid (fun W hW => (HK.out W hW).1.1.1.1.1.2)
  have HM2 : Hid (∀ W, Below wk.heap.size wk W → Rd LI W W.heap.size B2 d2 M ∧ Rd LI W W.heap.size B3 d3 M) := Lib.hid (fun W hW => ⟨(HK.out W hW).1.1.1.1.2, (HK.out W hW).1.1.1.2⟩)
  have HR6 : Hid (∀ W, Below wk.heap.size wk W → Rd LI W W.heap.size B6 d6 R ∧ Rd LI W W.heap.size B7 d7 R) := Lib.hid (fun W hW => ⟨(HK.out W hW).1.1.2, (HK.out W hW).1.2⟩)
  have HZ1 : Hid (∀ W, Below wk.heap.size wk W → Rd LI W W.heap.size Bc dc zs) := Lib.hid (fun W hW => (HK.out W hW).2)
  have HBW : Hid (∀ W, Below wk.heap.size wk W → Below w.heap.size w W) := Lib.hid (fun W hW => (HK.out W hW).1.1.1.1.1.1.2)
  clear HK
  have hf1 := f6ints_any B2 B3 d2 d3 M _ wk (HM2.out wk (Below.refl _ _)).1 (HM2.out wk (Below.refl _ _)).2
  as_aux_lemma =>
  go_wp2_with fail
  refine hf1.mono ?_
  rintro e wa ⟨rfl, hda⟩
  have hba : Below wk.heap.size wk wa := hda.below
  have hf2 := f6ints_any B6 B7 d6 d7 R _ wa (HR6.out wa hba).1 (HR6.out wa hba).2
  clear hf1 hda
  go_wp2_with fail
  refine hf2.mono ?_
  rintro e wb ⟨rfl, hdb⟩
  have hbb := bthen hba (Nat.le_refl _) hdb.below
  have hv1 := implValidLoads_any B1 d1 xs most wb (HX1.out wb hbb)
  have HV2 := Lib.hid (fun W (h : Below wk.heap.size wk W) => l21Ok_any B1 d1 xs most W (HX1.out W h))
  have HV3 := Lib.hid (fun W (h : Below wk.heap.size wk W) => specValidLoads_any B1 d1 xs most W (HX1.out W h))
  obtain ⟨vb, hvb⟩ : ∃ b, b = vlB xs most := ⟨_, rfl⟩
  rw [← hvb] at hv1 HV3
  clear hf2 hdb hba hvb HV2
  as_aux_lemma =>
  go_wp2_with fail
  refine hv1.mono ?_
  rintro e wc1 ⟨rfl, hbc⟩
  have hbc' := bthen hbb (Nat.le_refl _) hbc
  have hv2 := HV3.out wc1 hbc'
  clear hv1 hbb hbc
  go_wp2_with fail
  refine hv2.mono ?_
  rintro e w13 ⟨rfl, hb13⟩
  have HB13 := Lib.hid (bthen hbc' (Nat.le_refl _) hb13)
  clear hv2 hbc' hb13 HV3
  as_aux_lemma =>
  go_upto_region 20 with fail
  obtain ⟨b3, hb3⟩ : ∃ b, b = (nine == 0 && decide (0 < zs.length)) := ⟨_, rfl⟩
  go_cut [213] from 207 to 213 (fun s wx => s = .bool b3 ∧ wx = w13)
  case first =>
    as_aux_lemma =>
    by_cases h1 : nine = 0
    · subst h1
      by_cases h2 : 0 < zs.length
      · have hb : b3 = true := by rw [hb3]; simpa using h2
        have h2i : (0 : Int) < zs.length := by omega
        clear hb3
        go_wp2_with fail
        go_meet
        case rel => exact ⟨by rw [hb], rfl⟩
      · have hb : b3 = false := by rw [hb3]; simpa using h2
        have h2i : (zs.length : Int) ≤ 0 := by omega
        clear hb3
        go_wp2_with fail
        go_meet
        case rel => exact ⟨by rw [hb], rfl⟩
    · have hb : b3 = false := by rw [hb3]; simp [h1]
      have h3 : (nine == 0) = false := by rw [beq_eq_false_iff_ne]; exact h1
      clear hb3
      go_wp2_with fail
      go_meet
      case rel => exact ⟨by rw [hb], rfl⟩
  case rest =>
  as_aux_lemma =>
  obtain ⟨rfl, rfl⟩ := hcut
  go_upto_if 213 with fail
  go_cut [2] from 207 to 240 (fun s wx => s = .bool false ∧ Below wk.heap.size wk wx)
  case first =>
    as_aux_lemma =>
    cases b3
    · go_wp2_with fail
      go_meet
      case rel => exact ⟨rfl, HB13.out⟩
    have hb := hb3.symm
    rw [Bool.and_eq_true] at hb
    obtain rfl : nine = 0 := by simpa using hb.1
    have hp0 : 0 < zs.length := by simpa using hb.2
    clear hb hb3
    obtain ⟨e1, e2, e3⟩ := ev_walk HEV.out.symm hp0 HSM.out
    obtain ⟨⟨v1, v2⟩, _, _⟩ := vlB_parts e1
    have hcr := implFewestTrips_any Bc dc zs ev wc (HZ1.out wc HB13.out)
    rw [show ftP zs ev = ((bestL ev zs).1, 0) by simp [ftP, e1]] at hcr
    dsimp only at hcr
    have HCR2 := Lib.hid (fun W (h : Below wk.heap.size wk W) => implFewestTrips_any Bc dc zs (ev - 1) W (HZ1.out W h))
    generalize (bestL ev zs).1 = E1 at *
    have ew : IntKind.i64.wrap (ev - 1) = ev - 1 := wrapS (by omega) (by omega)
    clear e1 HEV HSM
    go_wp2_with fail
    refine hcr.mono ?_
    rintro e wd ⟨rfl, hbd⟩
    have HBd := Lib.hid (bthen HB13.out (Nat.le_refl _) hbd)
    have hcr2 := HCR2.out wd HBd.out
    clear hcr hbd HCR2
    cases hv : vlB zs (ev - 1)
    · rw [show ftP zs (ev - 1) = (0, 1) by simp [ftP, hv]] at hcr2
      dsimp only at hcr2
      clear e3 hv
      go_wp2_with fail
      refine hcr2.mono ?_
      rintro e we ⟨rfl, hbe⟩
      have HBe := Lib.hid (bthen HBd.out (Nat.le_refl _) hbe)
      clear hcr2 hbe
      go_wp2_with fail
      go_meet
      case rel => exact ⟨rfl, HBe.out⟩
    · rw [show ftP zs (ev - 1) = ((bestL (ev - 1) zs).1, 0) by simp [ftP, hv]] at hcr2
      dsimp only at hcr2
      have e4 := e3 hv
      have e5 : many < (bestL (ev - 1) zs).1 := by omega
      clear e3 hv e4
      generalize (bestL (ev - 1) zs).1 = E2 at *
      go_wp2_with fail
      refine hcr2.mono ?_
      rintro e we ⟨rfl, hbe⟩
      have HBe := Lib.hid (bthen HBd.out (Nat.le_refl _) hbe)
      clear hcr2 hbe
      go_wp2_with fail
      go_meet
      case rel => exact ⟨rfl, HBe.out⟩
  case rest =>
  as_aux_lemma =>
  clear HB13 hb3 b3 HEV HSM HZ1
  obtain ⟨rfl, hK⟩ := hcut
  have HB := Lib.hid hK
  clear hK
  by_cases h1 : pc = 0
  rotate_left
  · have h3 : (pc != 0) = true := by rw [bne_iff_ne]; exact h1
    clear HGOOD
    go_wp2_with fail
    go_ret
    exact ⟨by first | rfl | (simp; done), HBW.out _ HB.out⟩
  subst h1
  obtain ⟨F, hG⟩ := HGOOD.out rfl
  obtain rfl := hG.few
  have HG := Lib.hid hG
  have hf10 := hG.f10
  obtain ⟨⟨hm1, hm2⟩, hx10, hxx⟩ := vlB_parts hG.v
  have HXX := Lib.hid hxx
  have hml := hG.ml
  have hM10 : M.length ≤ 10 := by omega
  clear HGOOD hG hxx
  obtain ⟨wq, hwq⟩ : ∃ q, q = wc := ⟨_, rfl⟩
  subst hwq
  have hszk := HB.out.size
  go_wp2_with (first | (at_make; refine wpL_make (L := LI) rowI rfl _ _ rfl .i64 .i64 _ _ (F + 1) rfl rfl (by omega) (by omega) (by omega) (by unfold maxLen; omega) 0 rfl ?_; intro wx1 hs1 hbx1; have hzx1 := hbx1.size) | (at_make; refine wpL_make (L := LV) rowV rfl _ _ rfl .i64 .i64 _ _ F rfl rfl rfl rfl (by omega) (by unfold maxLen; omega) (none, 0, 0) rfl ?_; intro wx2 hs2 hbx2))
  obtain ⟨gs, hgs⟩ : ∃ q, q = wq.heap.size := ⟨_, rfl⟩
  obtain ⟨gl, hgl⟩ : ∃ q, q = wx1.heap.size := ⟨_, rfl⟩
  have HS0 : Hid (Own LI 2 wx2 wk.heap.size (some ⟨gs, 0, none⟩) (F + 1) (smS M xs F 0)) := Lib.hid (by rw [smS_zero, hgs]; exact (hs1.below hbx2).lower hszk)
  have HL0 : Hid (OwnR LI 24 2 wx2 wk.heap.size (some ⟨gl, 0, none⟩) F (List.replicate F ((none, 0, []) : Row Int))) := Lib.hid ⟨by rw [hgl]; simpa [hd] using hs2.lower (show wk.heap.size ≤ wx1.heap.size by omega), fun r hr => by rw [List.eq_of_mem_replicate hr]; exact Own.none_, List.pairwise_replicate.2 (.inr (fun b e => by cases e))⟩
  have HD0 : Hid (dat (List.replicate F ((none, 0, []) : Row Int)) = lsA M F 0) := Lib.hid (by rw [lsA_zero]; simp [dat])
  have HA0 : Hid (∀ r ∈ List.replicate F ((none, 0, []) : Row Int), Ap r.1 (some ⟨gs, 0, none⟩)) := Lib.hid (fun r hr => by rw [List.eq_of_mem_replicate hr]; exact fun b e => by cases e)
  have HB0 := Lib.hid (bthen (bthen HB.out (Nat.le_refl _) hbx1) (Nat.le_refl _) hbx2)
  have hgs1 : wk.heap.size ≤ gs := by omega
  have hgl1 : wk.heap.size ≤ gl := by omega
  have hgne : gs ≠ gl := by have := (hs1.blk_lt _ rfl).2; dsimp only at this; omega
  rw [← hgs, ← hgl]
  clear hs1 hs2 hbx1 hbx2 HB hszk hzx1 hgs hgl
  go_loopw [2, 40] (fun z i wr => ∃ (k : Nat) (rs : List (Row Int)), k ≤ M.length ∧ z = .bool false ∧ i = .int .i64 k ∧ Hid (Own LI 2 wr wk.heap.size (some ⟨gs, 0, none⟩) (F + 1) (smS M xs F k)) ∧ Hid (OwnR LI 24 2 wr wk.heap.size (some ⟨gl, 0, none⟩) F rs) ∧ Hid (dat rs = lsA M F k) ∧ Hid (∀ r ∈ rs, Ap r.1 (some ⟨gs, 0, none⟩)) ∧ Hid (Below wk.heap.size wk wr)) (fun _ i _ => M.length - (intOf i).toNat)
  case atStart => exact ⟨0, _, by omega, rfl, rfl, HS0, HL0, HD0, HA0, HB0⟩
  case round =>
    clear HS0 HL0 HD0 HA0 HB0
    obtain ⟨k, rs, hk, rfl, rfl, HS, HR, HD, HA, HB⟩ := hrel
    have hrl : rs.length = F := by rw [← dat_len rs, HD.out, lsA_len]
    by_cases hlt : k < M.length
    · have hki : (k : Int) < M.length := by omega
      have hkx : k < xs.length := by omega
      have hkxi : (k : Int) < xs.length := by omega
      have hmb := HG.out.mb _ (List.getElem_mem hlt)
      obtain ⟨a, ha⟩ : ∃ a : Nat, M[k] = (a : Int) := ⟨M[k].toNat, by omega⟩
      have haF : a < F := by omega
      have haFi : (a : Int) < F := by omega
      have haF1 : (a : Int) < (F : Int) + 1 := by omega
      obtain ⟨adm, rfl, habm, hcm⟩ := ((HM2.out wk (Below.refl _ _)).2.below HB.out).int hlt
      obtain ⟨adx, rfl, habx, hcx⟩ := ((HX1.out wk (Below.refl _ _)).below HB.out).int hkx
      rw [ha] at hcm
      have HAK : Hid (M.getD k (-1) = (a : Int)) := Lib.hid (by rw [getD_lt M _ hlt]; exact ha)
      have hxb := HXX.out _ (List.getElem_mem hkx)
      obtain ⟨x, hx⟩ : ∃ x, x = xs[k] := ⟨_, rfl⟩
      rw [← hx] at hcx hxb
      obtain ⟨gs', hge, _, hgsl, hcs, hfs⟩ := HS.out.int (k := a) (by rw [smS_len]; omega)
      cases hge
      rw [smS_get] at hcs
      have hsb := bs_tk (us := M) (fun y hy => by have := HXX.out y hy; omega) hx10 k (a : Int)
      have HSS := Lib.hid (smS_succ (xs := xs) F hml hkx HAK.out)
      rw [← hx] at HSS
      generalize bs (M.take k) (xs.take k) (a : Int) = sv at *
      obtain ⟨nv, hnv⟩ : ∃ n, n = sv + x := ⟨_, rfl⟩
      have ew : IntKind.i64.wrap (sv + x) = nv := by rw [hnv]; exact wrapS (by omega) (by omega)
      rw [← hnv] at HSS
      have hbm : (adm.add k).block < wk.heap.size := by rw [block_of_add]; exact habm
      have hbx : (adx.add k).block < wk.heap.size := by rw [block_of_add]; exact habx
      have hsm : gs ≠ (adm.add k).block := by omega
      have hsx : gs ≠ (adx.add k).block := by omega
      have hD1 : wr.drew.cell? (adm.add k) = some (.int .i64 (a : Int)) := hcm
      have hD2 : wr.drew.cell? (adx.add k) = some (.int .i64 x) := hcx
      have hwz := HB.out.size
      have har : a < rs.length := by omega
      clear ha hmb hnv hx hsb hxb
      go_upto_region 36 with fail
      refine wp_region_noPanic ?_
      refine startS (S := fun W => W.cell? (adm.add k) = some (.int .i64 (a : Int)) ∧ W.cell? (adx.add k) = some (.int .i64 x)) 19 (by kernel_rfl) (by kernel_rfl) ⟨hD1, hD2⟩ (fun hHeld => ?_)
      refine withS 19 [0, 1, 2, 3, 4, 5, 6, 7, 8, 9, 10, 12, 13, 14, 15, 16, 17] (by as_aux_lemma => kernel_rfl) (by kernel_rfl) (by kernel_rfl) (fun _ _ _ _ _ h => h) ?_
      intro HFR HNS HSZ HQP
      focus
        refine takeS (i := 0) (v := ?_) HFR.out HNS.out HSZ.out HQP.out rfl (by kernel_rfl) (by kernel_rfl) (by decide) (by kernel_rfl) (Or.inl ⟨by rfl, ?_⟩) hHeld rfl (by dsimp only [List.set_cons_succ, List.set_cons_zero]) ?_
        rotate_left
        · intro w hSw; clear hSw; go_simp; (try with_reducible rfl)
      focus
        refine takeS (i := 1) (v := ?_) HFR.out HNS.out HSZ.out HQP.out rfl (by kernel_rfl) (by kernel_rfl) (by decide) (by kernel_rfl) (Or.inl ⟨by rfl, ?_⟩) hHeld rfl (by dsimp only [List.set_cons_succ, List.set_cons_zero]) ?_
        rotate_left
        · intro w hSw; clear hSw; go_simp; (try with_reducible rfl)
      focus
        refine takeS (i := 2) (v := ?_) HFR.out HNS.out HSZ.out HQP.out rfl (by kernel_rfl) (by kernel_rfl) (by decide) (by kernel_rfl) (Or.inl ⟨by rfl, ?_⟩) hHeld rfl (by dsimp only [List.set_cons_succ, List.set_cons_zero]) ?_
        rotate_left
        · intro w hSw; clear hSw; go_simp; (try with_reducible rfl)
      focus
        refine takeS (i := 5) (v := ?_) HFR.out HNS.out HSZ.out HQP.out rfl (by kernel_rfl) (by kernel_rfl) (by decide) (by kernel_rfl) (Or.inl ⟨by rfl, ?_⟩) hHeld rfl (by dsimp only [List.set_cons_succ, List.set_cons_zero]) ?_
        rotate_left
        · intro w hSw; clear hSw; go_simp; (try with_reducible rfl)
      focus
        refine takeS (i := 6) (v := ?_) HFR.out HNS.out HSZ.out HQP.out rfl (by kernel_rfl) (by kernel_rfl) (by decide) (by kernel_rfl) (Or.inl ⟨by rfl, ?_⟩) hHeld rfl (by dsimp only [List.set_cons_succ, List.set_cons_zero]) ?_
        rotate_left
        · intro w hSw; clear hSw; go_simp; (try with_reducible rfl)
      focus
        refine takeS (i := 7) (v := ?_) HFR.out HNS.out HSZ.out HQP.out rfl (by kernel_rfl) (by kernel_rfl) (by decide) (by kernel_rfl) (Or.inl ⟨by rfl, ?_⟩) hHeld rfl (by dsimp only [List.set_cons_succ, List.set_cons_zero]) ?_
        rotate_left
        · intro w hSw; clear hSw; go_simp; (try with_reducible rfl)
      focus
        refine takeS (i := 12) (v := ?_) HFR.out HNS.out HSZ.out HQP.out rfl (by kernel_rfl) (by kernel_rfl) (by decide) (by kernel_rfl) (Or.inl ⟨by rfl, ?_⟩) hHeld rfl (by dsimp only [List.set_cons_succ, List.set_cons_zero]) ?_
        rotate_left
        · intro w hSw; clear hSw; go_simp; (try with_reducible rfl)
      focus
        refine takeS (i := 13) (v := ?_) HFR.out HNS.out HSZ.out HQP.out rfl (by kernel_rfl) (by kernel_rfl) (by decide) (by kernel_rfl) (Or.inl ⟨by rfl, ?_⟩) hHeld rfl (by dsimp only [List.set_cons_succ, List.set_cons_zero]) ?_
        rotate_left
        · intro w hSw; clear hSw; go_simp; (try with_reducible rfl)
      focus
        refine takeS (i := 3) (v := ?_) HFR.out HNS.out HSZ.out HQP.out rfl (by kernel_rfl) (by kernel_rfl) (by decide) (by kernel_rfl) (Or.inl ⟨by rfl, ?_⟩) hHeld rfl (by dsimp only [List.set_cons_succ, List.set_cons_zero]) ?_
        rotate_left
        · intro w hSw; clear hSw; go_simp; (try with_reducible rfl)
      focus
        refine takeS (i := 8) (v := ?_) HFR.out HNS.out HSZ.out HQP.out rfl (by kernel_rfl) (by kernel_rfl) (by decide) (by kernel_rfl) (Or.inl ⟨by rfl, ?_⟩) hHeld rfl (by dsimp only [List.set_cons_succ, List.set_cons_zero]) ?_
        rotate_left
        · intro w hSw; clear hSw; go_simp; (try with_reducible rfl)
      focus
        refine takeS (i := 14) (v := ?_) HFR.out HNS.out HSZ.out HQP.out rfl (by kernel_rfl) (by kernel_rfl) (by decide) (by kernel_rfl) (Or.inl ⟨by rfl, ?_⟩) hHeld rfl (by dsimp only [List.set_cons_succ, List.set_cons_zero]) ?_
        rotate_left
        · intro w hSw; clear hSw; go_simp; (try with_reducible rfl)
      focus
        refine takeS (i := 4) (v := ?_) HFR.out HNS.out HSZ.out HQP.out rfl (by kernel_rfl) (by kernel_rfl) (by decide) (by kernel_rfl) (Or.inl ⟨by rfl, ?_⟩) hHeld rfl (by dsimp only [List.set_cons_succ, List.set_cons_zero]) ?_
        rotate_left
        · intro w hSw; obtain ⟨hSa, hSb⟩ := hSw; go_simp; (try with_reducible rfl)
      focus
        refine takeS (i := 9) (v := ?_) HFR.out HNS.out HSZ.out HQP.out rfl (by kernel_rfl) (by kernel_rfl) (by decide) (by kernel_rfl) (Or.inl ⟨by rfl, ?_⟩) hHeld rfl (by dsimp only [List.set_cons_succ, List.set_cons_zero]) ?_
        rotate_left
        · intro w hSw; obtain ⟨hSa, hSb⟩ := hSw; go_simp; (try with_reducible rfl)
      focus
        refine takeS (i := 15) (v := ?_) HFR.out HNS.out HSZ.out HQP.out rfl (by kernel_rfl) (by kernel_rfl) (by decide) (by kernel_rfl) (Or.inl ⟨by rfl, ?_⟩) hHeld rfl (by dsimp only [List.set_cons_succ, List.set_cons_zero]) ?_
        rotate_left
        · intro w hSw; obtain ⟨hSa, hSb⟩ := hSw; go_simp; (try with_reducible rfl)
      focus
        refine takeS (i := 10) (v := ?_) HFR.out HNS.out HSZ.out HQP.out rfl (by kernel_rfl) (by kernel_rfl) (by decide) (by kernel_rfl) (Or.inl ⟨by rfl, ?_⟩) hHeld rfl (by dsimp only [List.set_cons_succ, List.set_cons_zero]) ?_
        rotate_left
        · intro w hSw; clear hSw; go_simp; (try with_reducible rfl)
      refine callS (i := 11) HSZ.out (by kernel_rfl) (by kernel_rfl) rfl (fun K hK => ?_)
      go_simp
      refine hK.out _ _ hHeld (fun hHeldN => ?_)
      clear hK K hHeld
      try simp only [Act.put, List.setIfInBounds_toArray, List.set_cons_zero, List.set_cons_succ]
      have hHeld := hHeldN
      clear hHeldN
      focus
        refine takeS (i := 16) (v := ?_) HFR.out HNS.out HSZ.out HQP.out rfl (by kernel_rfl) (by kernel_rfl) (by decide) (by kernel_rfl) (Or.inl ⟨by rfl, ?_⟩) hHeld rfl (by dsimp only [List.set_cons_succ, List.set_cons_zero]) ?_
        rotate_left
        · intro w hSw; clear hSw; go_simp; (try with_reducible rfl)
      focus
        refine takeS (i := 17) (v := ?_) HFR.out HNS.out HSZ.out HQP.out rfl (by kernel_rfl) (by kernel_rfl) (by decide) (by kernel_rfl) (Or.inl ⟨by rfl, ?_⟩) hHeld rfl (by dsimp only [List.set_cons_succ, List.set_cons_zero]) ?_
        rotate_left
        · intro w hSw; clear hSw; go_simp; (try with_reducible rfl)
      refine callS (i := 18) HSZ.out (by kernel_rfl) (by kernel_rfl) rfl (fun K hK => ?_)
      go_simp
      refine hK.out _ _ ⟨(World.cell?_setCell_far _ _ _ _ (fun e => hsm e)).trans hHeld.1, (World.cell?_setCell_far _ _ _ _ (fun e => hsx e)).trans hHeld.2⟩ (fun hHeldN => ?_)
      clear hK K hHeld
      try simp only [Act.put, List.setIfInBounds_toArray, List.set_cons_zero, List.set_cons_succ]
      have hHeld := hHeldN
      clear hHeldN
      refine doneS HSZ.out (by kernel_rfl) (by kernel_rfl) (NoPanic.normal ?_)
      obtain ⟨W2, hW2⟩ : ∃ W, W = (wr.setCell ⟨gs, a, none⟩ (.int .i64 nv)).drew := ⟨_, rfl⟩
      have HS2 : Hid (Own LI 2 W2 wk.heap.size (some ⟨gs, 0, none⟩) (F + 1) (smS M xs F (k + 1))) := Lib.hid (by rw [hW2, HSS.out]; exact (HS.out.setInt a nv).drew)
      have HR2 : Hid (OwnR LI 24 2 W2 wk.heap.size (some ⟨gl, 0, none⟩) F rs) := Lib.hid (by
        rw [hW2]
        refine OwnR.dr_ (HR.out.keepBlk (fun b e => Below.heap_setCell _ _ _ _ (fun h => own_types HR.out.out HS.out (by decide) b e (by rw [h]; rfl))) (fun r hr b e => Below.heap_setCell _ _ _ _ (fun h => HA.out r hr b e (by rw [h]; rfl)))))
      have HB2 : Hid (Below wk.heap.size wk W2) := Lib.hid (by rw [hW2]; exact (HB.out.setCell (p := ⟨gs, a, none⟩) hgs1 _).drew)
      have hPM : W2.cell? (adm.add k) = some (.int .i64 (a : Int)) := by rw [hW2]; exact (World.cell?_setCell_far _ _ _ _ hsm).trans hcm
      rw [← hW2]
      have hwz2 := HB2.out.size
      clear hW2 hHeld hD1 hD2 hcs hfs hcm hcx HS HR HB HFR HNS HSZ HQP hwz hgsl
      obtain ⟨G1, hG1, hG1b, hG1l, hcG, hfG, hrow⟩ := HR2.out.at_ har
      obtain rfl : gl = G1 := by cases hG1; rfl
      have hapm := HA.out _ (List.getElem_mem har)
      have hlr : rs[a].2.2.length ≤ k := by
        have h1 := dat_get rs a har
        rw [← h1]
        have h2 : (dat rs)[a]'(by rw [dat_len]; exact har) = (lsA M F k)[a]'(by rw [lsA_len]; exact haF) := by simp only [HD.out]
        rw [h2, lsA_get, List.length_map]
        unfold lsO
        exact Nat.le_trans (List.length_filter_le _ _) (by simp)
      have HXR : Hid ((lsA M F k).getD a [] = rs[a].2.2) := Lib.hid (by
        rw [getD_lt _ _ (by rw [lsA_len]; exact haF), ← dat_get rs a har]
        simp only [HD.out])
      obtain ⟨Ar, hAr⟩ : ∃ Ar, Ar = rs[a].1 := ⟨_, rfl⟩
      obtain ⟨cr, hcr⟩ : ∃ cr, cr = rs[a].2.1 := ⟨_, rfl⟩
      obtain ⟨xr, hxr⟩ : ∃ xr, xr = rs[a].2.2 := ⟨_, rfl⟩
      rw [← hAr, ← hcr, ← hxr] at hrow
      rw [← hAr, ← hcr, ← hxr] at hcG
      rw [← hxr] at hlr HXR
      rw [← hAr] at hapm
      have HGR : Hid (∀ (W W' : World) (A' : Option Addr), Grew W W' Ar A' → Grew W W' (rs[a]'har).1 A') := Lib.hid (fun W W' A' h => by rw [← hAr]; exact h)
      have hnb := hrow.blk_lt
      have HRW := Lib.hid hrow
      have hnG : blk Ar ≠ some gl := fun e => own_types HR2.out.out hrow (by decide) gl rfl e
      have HAPM := Lib.hid hapm
      have hPMlt : (adm.add k).block < W2.heap.size := by omega
      have hPMne : blk Ar ≠ some (adm.add k).block := fun e => by have := (hnb _ e).1; omega
      have hPMg : (adm.add k).block ≠ gl := by omega
      clear hAr hcr hxr hrow hapm hG1
      go_upto_region 37 with fail
      have hD1 : W2.drew.cell? (adm.add k) = some (.int .i64 (a : Int)) := hPM
      have hDG : W2.drew.cell? ⟨gl, a, none⟩ = some (.slice Ar xr.length cr) := hcG
      refine wp_region_noPanic ?_
      refine startS (S := fun W => W.cell? (adm.add k) = some (.int .i64 (a : Int))) 17 (by kernel_rfl) (by kernel_rfl) hD1 (fun hHeld => ?_)
      refine withS 17 [0, 1, 2, 3, 4, 5, 6, 7, 8, 9, 10, 12, 15] (by as_aux_lemma => kernel_rfl) (by kernel_rfl) (by kernel_rfl) (fun _ _ _ _ _ h => h) ?_
      intro HFR HNS HSZ HQP
      refine takeS (i := 0) (v := ?_) HFR.out HNS.out HSZ.out HQP.out rfl (by kernel_rfl) (by kernel_rfl) (by decide) (by kernel_rfl) (Or.inl ⟨by rfl, ?_⟩) hHeld rfl (by dsimp only [List.set_cons_succ, List.set_cons_zero]) ?_
      rotate_left
      · intro w hSw; clear hSw; go_simp; (try with_reducible rfl)
      refine takeS (i := 1) (v := ?_) HFR.out HNS.out HSZ.out HQP.out rfl (by kernel_rfl) (by kernel_rfl) (by decide) (by kernel_rfl) (Or.inl ⟨by rfl, ?_⟩) hHeld rfl (by dsimp only [List.set_cons_succ, List.set_cons_zero]) ?_
      rotate_left
      · intro w hSw; clear hSw; go_simp; (try with_reducible rfl)
      refine takeS (i := 2) (v := ?_) HFR.out HNS.out HSZ.out HQP.out rfl (by kernel_rfl) (by kernel_rfl) (by decide) (by kernel_rfl) (Or.inl ⟨by rfl, ?_⟩) hHeld rfl (by dsimp only [List.set_cons_succ, List.set_cons_zero]) ?_
      rotate_left
      · intro w hSw; clear hSw; go_simp; (try with_reducible rfl)
      refine takeS (i := 5) (v := ?_) HFR.out HNS.out HSZ.out HQP.out rfl (by kernel_rfl) (by kernel_rfl) (by decide) (by kernel_rfl) (Or.inl ⟨by rfl, ?_⟩) hHeld rfl (by dsimp only [List.set_cons_succ, List.set_cons_zero]) ?_
      rotate_left
      · intro w hSw; clear hSw; go_simp; (try with_reducible rfl)
      refine takeS (i := 6) (v := ?_) HFR.out HNS.out HSZ.out HQP.out rfl (by kernel_rfl) (by kernel_rfl) (by decide) (by kernel_rfl) (Or.inl ⟨by rfl, ?_⟩) hHeld rfl (by dsimp only [List.set_cons_succ, List.set_cons_zero]) ?_
      rotate_left
      · intro w hSw; clear hSw; go_simp; (try with_reducible rfl)
      refine takeS (i := 7) (v := ?_) HFR.out HNS.out HSZ.out HQP.out rfl (by kernel_rfl) (by kernel_rfl) (by decide) (by kernel_rfl) (Or.inl ⟨by rfl, ?_⟩) hHeld rfl (by dsimp only [List.set_cons_succ, List.set_cons_zero]) ?_
      rotate_left
      · intro w hSw; clear hSw; go_simp; (try with_reducible rfl)
      refine takeS (i := 12) (v := ?_) HFR.out HNS.out HSZ.out HQP.out rfl (by kernel_rfl) (by kernel_rfl) (by decide) (by kernel_rfl) (Or.inl ⟨by rfl, ?_⟩) hHeld rfl (by dsimp only [List.set_cons_succ, List.set_cons_zero]) ?_
      rotate_left
      · intro w hSw; clear hSw; go_simp; (try with_reducible rfl)
      refine takeS (i := 3) (v := ?_) HFR.out HNS.out HSZ.out HQP.out rfl (by kernel_rfl) (by kernel_rfl) (by decide) (by kernel_rfl) (Or.inl ⟨by rfl, ?_⟩) hHeld rfl (by dsimp only [List.set_cons_succ, List.set_cons_zero]) ?_
      rotate_left
      · intro w hSw; clear hSw; go_simp; (try with_reducible rfl)
      refine takeS (i := 8) (v := ?_) HFR.out HNS.out HSZ.out HQP.out rfl (by kernel_rfl) (by kernel_rfl) (by decide) (by kernel_rfl) (Or.inl ⟨by rfl, ?_⟩) hHeld rfl (by dsimp only [List.set_cons_succ, List.set_cons_zero]) ?_
      rotate_left
      · intro w hSw; clear hSw; go_simp; (try with_reducible rfl)
      refine takeS (i := 4) (v := ?_) HFR.out HNS.out HSZ.out HQP.out rfl (by kernel_rfl) (by kernel_rfl) (by decide) (by kernel_rfl) (Or.inl ⟨by rfl, ?_⟩) hHeld rfl (by dsimp only [List.set_cons_succ, List.set_cons_zero]) ?_
      rotate_left
      · intro w hSw; go_simp; (try with_reducible rfl)
      refine takeS (i := 9) (v := ?_) HFR.out HNS.out HSZ.out HQP.out rfl (by kernel_rfl) (by kernel_rfl) (by decide) (by kernel_rfl) (Or.inl ⟨by rfl, ?_⟩) hHeld rfl (by dsimp only [List.set_cons_succ, List.set_cons_zero]) ?_
      rotate_left
      · intro w hSw; go_simp; (try with_reducible rfl)
      refine takeS (i := 10) (v := ?_) HFR.out HNS.out HSZ.out HQP.out rfl (by kernel_rfl) (by kernel_rfl) (by decide) (by kernel_rfl) (Or.inl ⟨by rfl, ?_⟩) hHeld rfl (by dsimp only [List.set_cons_succ, List.set_cons_zero]) ?_
      rotate_left
      · intro w hSw; clear hSw; go_simp; (try with_reducible rfl)
      refine callS2 (i := 11) (j := 13) HSZ.out (by kernel_rfl) (by kernel_rfl) rfl rfl (fun K hK => ?_) (fun K hK => ?_)
      rotate_left
      go_simp
      refine hK.out _ _ ((World.cell?_alloc_lt _ _ _ (by exact hPMlt)).trans hHeld) (fun hHeldN => ?_)
      clear hK K hHeld
      try simp only [Act.put, List.setIfInBounds_toArray, List.set_cons_zero, List.set_cons_succ]
      have hHeld := hHeldN
      clear hHeldN
      have hDG2 := (World.cell?_alloc_lt W2.drew (.cells #[.int .i64 (k : Int)] 2) ⟨gl, a, none⟩ (by exact hG1l)).trans hDG
      refine callS (i := 11) HSZ.out (by kernel_rfl) (by kernel_rfl) rfl (fun K hK => ?_)
      go_simp
      refine hK.out _ _ hHeld (fun hHeldN => ?_)
      clear hK K hHeld hDG2
      try simp only [Act.put, List.setIfInBounds_toArray, List.set_cons_zero, List.set_cons_succ]
      have hHeld := hHeldN
      clear hHeldN
      refine callS (i := 14) HSZ.out (by kernel_rfl) (by kernel_rfl) rfl (fun K hK => ?_)
      refine stepL_app1 (L := LI) rowI rfl rfl _ _ rfl rfl (HRW.out.drew.alloc _) (k : Int) rfl ?_ (by unfold maxLen; omega) (by omega) (by simp; omega) ?_
      · intro j u hu; show (World.alloc _ _).cell? _ = _; rw [World.cell?_alloc_at (hn := rfl)]; simpa [LI] using hu
      intro A7 c7 w7 ho7 hg7
      have hPM7 := (hg7.cell (adm.add k) (by simp; omega) hPMne).trans hHeld
      have hcG7 := (hg7.cell ⟨gl, a, none⟩ (by simp; omega) hnG).trans (show (World.alloc _ _).cell? _ = some (.slice Ar xr.length cr) by go_simp)
      have hfG7 := (hg7.frozen ⟨gl, a, none⟩ (by simp; omega) hnG).trans (show (World.alloc _ _).frozen? _ = false by go_simp)
      refine hK.out _ _ hPM7 (fun hHeldN => ?_)
      clear hK K hHeld
      try simp only [Act.put, List.setIfInBounds_toArray, List.set_cons_zero, List.set_cons_succ]
      have hHeld := hHeldN
      clear hHeldN
      refine takeS (i := 15) (v := ?_) HFR.out HNS.out HSZ.out HQP.out rfl (by kernel_rfl) (by kernel_rfl) (by decide) (by kernel_rfl) (Or.inl ⟨by rfl, ?_⟩) hHeld rfl (by dsimp only [List.set_cons_succ, List.set_cons_zero]) ?_
      rotate_left
      · intro w hSw; clear hSw; go_simp; (try with_reducible rfl)
      refine callS (i := 16) HSZ.out (by kernel_rfl) (by kernel_rfl) rfl (fun K hK => ?_)
      go_simp
      refine hK.out _ _ ((World.cell?_setCell_far _ _ _ _ (fun e => hPMg e.symm)).trans hHeld) (fun hHeldN => ?_)
      clear hK K hHeld hHeldN
      try simp only [Act.put, List.setIfInBounds_toArray, List.set_cons_zero, List.set_cons_succ]
      refine doneS HSZ.out (by kernel_rfl) (by kernel_rfl) (NoPanic.normal ?_)
      rotate_left
      go_simp
      refine hK.out _ _ hHeld (fun hHeldN => ?_)
      clear hK K hHeld
      try simp only [Act.put, List.setIfInBounds_toArray, List.set_cons_zero, List.set_cons_succ]
      have hHeld := hHeldN
      clear hHeldN
      refine callS (i := 13) HSZ.out (by kernel_rfl) (by kernel_rfl) rfl (fun K hK => ?_)
      go_simp
      refine hK.out _ _ ((World.cell?_alloc_lt _ _ _ (by exact hPMlt)).trans hHeld) (fun hHeldN => ?_)
      clear hK K hHeld
      try simp only [Act.put, List.setIfInBounds_toArray, List.set_cons_zero, List.set_cons_succ]
      have hHeld := hHeldN
      clear hHeldN
      refine callS (i := 14) HSZ.out (by kernel_rfl) (by kernel_rfl) rfl (fun K hK => ?_)
      refine stepL_app1 (L := LI) rowI rfl rfl _ _ rfl rfl (HRW.out.drew.alloc _) (k : Int) rfl ?_ (by unfold maxLen; omega) (by omega) (by simp; omega) ?_
      · intro j u hu; show (World.alloc _ _).cell? _ = _; rw [World.cell?_alloc_at (hn := rfl)]; simpa [LI] using hu
      intro A7 c7 w7 ho7 hg7
      have hPM7 := (hg7.cell (adm.add k) (by simp; omega) hPMne).trans hHeld
      have hcG7 := (hg7.cell ⟨gl, a, none⟩ (by simp; omega) hnG).trans (show (World.alloc _ _).cell? _ = some (.slice Ar xr.length cr) by go_simp)
      have hfG7 := (hg7.frozen ⟨gl, a, none⟩ (by simp; omega) hnG).trans (show (World.alloc _ _).frozen? _ = false by go_simp)
      refine hK.out _ _ hPM7 (fun hHeldN => ?_)
      clear hK K hHeld
      try simp only [Act.put, List.setIfInBounds_toArray, List.set_cons_zero, List.set_cons_succ]
      have hHeld := hHeldN
      clear hHeldN
      refine takeS (i := 15) (v := ?_) HFR.out HNS.out HSZ.out HQP.out rfl (by kernel_rfl) (by kernel_rfl) (by decide) (by kernel_rfl) (Or.inl ⟨by rfl, ?_⟩) hHeld rfl (by dsimp only [List.set_cons_succ, List.set_cons_zero]) ?_
      rotate_left
      · intro w hSw; clear hSw; go_simp; (try with_reducible rfl)
      refine callS (i := 16) HSZ.out (by kernel_rfl) (by kernel_rfl) rfl (fun K hK => ?_)
      go_simp
      refine hK.out _ _ ((World.cell?_setCell_far _ _ _ _ (fun e => hPMg e.symm)).trans hHeld) (fun hHeldN => ?_)
      clear hK K hHeld hHeldN
      try simp only [Act.put, List.setIfInBounds_toArray, List.set_cons_zero, List.set_cons_succ]
      refine doneS HSZ.out (by kernel_rfl) (by kernel_rfl) (NoPanic.normal ?_)
      all_goals
        have HR7 := Lib.hid ((HR2.out.al_ (.cells #[.int .i64 (k : Int)] 2)).dr_.app_ (by decide) har (A7, c7, xr ++ [(k : Int)]) ho7 (HGR.out _ _ _ hg7))
        have hmo := hg7.own (HS2.out.alloc (.cells #[.int .i64 (k : Int)] 2)) (fun b e1 e2 => HAPM.out b e2 e1)
        have e7 : (xr ++ [(k : Int)]).length = xr.length + 1 := by simp
        simp only [e7] at HR7
        have HS7 := Lib.hid (hmo.1.setFar (p := ⟨gl, a, none⟩) (fun e => hgne (by injection e)) (.slice A7 (xr.length + 1) c7))
        have HA7 : Hid (∀ r ∈ rs.set a ((A7, c7, xr ++ [(k : Int)]) : Row Int), Ap r.1 (some ⟨gs, 0, none⟩)) := Lib.hid (fun r hr => by
          rcases List.mem_or_eq_of_mem_set hr with h | h
          · exact HA.out r h
          · rw [h]; exact fun b e1 e2 => hmo.2 b e2 e1)
        have HD7 : Hid (dat (rs.set a ((A7, c7, xr ++ [(k : Int)]) : Row Int)) = lsA M F (k + 1)) := Lib.hid (by
          rw [lsA_succ M F k a haF HAK.out, HXR.out, ← HD.out]
          unfold dat
          rw [List.map_set])
        have HB7 := Lib.hid ((Grew.below (below_drewN (HB2.out.alloc hwz2 (.cells #[.int .i64 (k : Int)] 2)) 1) hg7 (by show wk.heap.size ≤ (W2.alloc _).heap.size; simp; omega) (fun b e => (hnb b e).1)).setCell (p := ⟨gl, a, none⟩) hgl1 (.slice A7 (xr.length + 1) c7))
        clear hmo ho7 hg7 e7
        go_wp2_with fail
        go_roundw
        case rel => exact ⟨k + 1, _, by omega, rfl, by go_num, HS7, HR7, HD7, HA7, HB7⟩
        case measure => simp [intOf]; omega
    · have hki : (M.length : Int) ≤ k := by omega
      obtain rfl : k = M.length := by omega
      have HML := Lib.hid hml
      have hki2 : (xs.length : Int) ≤ M.length := by omega
      have hkb1 : decide (M.length < xs.length) = false := decide_eq_false (by omega)
      have hkb2 : decide ((M.length : Int) < (xs.length : Int)) = false := decide_eq_false (by omega)
      have hkb3 : xs.length ≤ M.length := by omega
      clear hml
      go_upto_region 39 with fail
      have HTF : Hid (tfP2 xs most (dat rs) = (-1, 0)) := Lib.hid (by rw [HD.out]; exact HG.out.tf)
      have HSB := Lib.hid HG.out.sb
      have HLW := Lib.hid HG.out.lw
      have HUS := Lib.hid HG.out.us
      have HRB := Lib.hid HG.out.rb
      have hRl := HG.out.rl
      have HRL := Lib.hid hrl
      clear HD HA hrl
      go_loopw [2, 41] (fun z i wr => ∃ (j : Nat), j ≤ F ∧ z = .bool false ∧ i = .int .i64 j ∧ Hid (Own LI 2 wr wk.heap.size (some ⟨gs, 0, none⟩) (F + 1) (smS M xs F M.length)) ∧ Hid (OwnR LI 24 2 wr wk.heap.size (some ⟨gl, 0, none⟩) F rs) ∧ Hid (Below wk.heap.size wk wr)) (fun _ j _ => F - (intOf j).toNat)
      case atStart => exact ⟨0, by omega, rfl, rfl, HS, HR, HB⟩
      case round =>
        clear HS HR HB
        obtain ⟨j, hj, rfl, rfl, HS, HR, HB⟩ := hrel
        by_cases hjl : j < F
        · have hji : (j : Int) < F := by omega
          have hji1 : (j : Int) < (F : Int) + 1 := by omega
          obtain ⟨gs', hge, _, hgsl, hcs, hfs⟩ := HS.out.int (k := j) (by rw [smS_len]; omega)
          cases hge
          rw [smS_end F HML.out] at hcs
          obtain ⟨s1, s2⟩ := HSB.out j hjl
          generalize bs M xs (j : Int) = sv at *
          go_wp2_with fail
          go_roundw
          case rel => exact ⟨j + 1, by omega, rfl, by go_num, HS, HR, HB⟩
          case measure => simp [intOf]; omega
        · have hji : (F : Int) ≤ j := by omega
          have hct := implTripFault_any B1 d1 xs most (some ⟨gl, 0, none⟩) F rs wr (HX1.out wr HB.out) HR.out.rd
          rw [HTF.out, HRL.out] at hct
          dsimp only at hct
          clear HS HR
          go_wp2_with fail
          refine hct.mono ?_
          rintro e we ⟨rfl, hbe⟩
          have HBe := Lib.hid (bthen HB.out (Nat.le_refl _) hbe)
          clear hct hbe HB HTF
          go_wp2_with fail
          go_loopw [44, 45] (fun s i wr => ∃ (j : Nat), j ≤ R.length ∧ s = .int .i64 (usedL R j) ∧ i = .int .i64 j ∧ Hid (Below wk.heap.size wk wr)) (fun _ j _ => R.length - (intOf j).toNat)
          case atStart => exact ⟨0, by omega, by simp [usedL], rfl, HBe⟩
          case round =>
            clear HBe
            obtain ⟨j, hj, rfl, rfl, HBe⟩ := hrel
            by_cases hjl : j < R.length
            · have hji : (j : Int) < R.length := by omega
              obtain ⟨adr, rfl, _, hcr⟩ := (HR6.out _ HBe.out).2.int hjl
              have hrb := HRB.out _ (List.getElem_mem hjl)
              have HU := Lib.hid (usedL_succ R hjl)
              have hub := used_bd HRB.out j
              generalize usedL R j = u at *
              generalize R[j] = rj at *
              go_wp2_with fail
              go_roundw
              case rel => exact ⟨j + 1, by omega, by rw [HU.out], by go_num, HBe⟩
              case measure => simp [intOf]; omega
            · have hji : (R.length : Int) ≤ j := by omega
              obtain rfl : j = R.length := by omega
              have h1 := HLW.out
              have h2 := HUS.out
              go_wp2_with fail
              go_ret
              exact ⟨by first | rfl | (simp; done), HBW.out _ HBe.out⟩
end Go.Proofs.Ytcookepklcbfeaa
