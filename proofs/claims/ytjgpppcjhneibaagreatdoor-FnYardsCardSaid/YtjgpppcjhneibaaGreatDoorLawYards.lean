/-
  FnYards returns true for every argument: the walk.
-/
import Derived.Test.YtjgpppcjhneibaaGreatDoorYardsDraw
import Derived.Test.YtjgpppcjhneibaaGreatDoorYardA
import Derived.Deep.CutRange
namespace Go.Proofs.YtjgpppcjhneibaaGreatDoor
open Go.ChangeShapes Go.WideShapes Go.RowKit

theorem tlL_vy {X : List (List Int)} (h : vyB X = true) : tlL X ≤ 1048576 := by
  obtain ⟨h1, h2⟩ := vy_rows h
  have := tlL_le h2 h1
  omega
theorem tp_vy {X : List (List Int)} (h : vyB X = true) : tpP X = (X.map topL, 0) := by
  unfold tpP
  rw [if_pos h]
theorem mp_ok {X : List (List Int)} {f t : Nat} (hv : vyB X = true) (hf : f < X.length) (ht : t < X.length) (hne : t ≠ f) (h : 0 < X[f].length) : mpP X f t = (mvX X f t, 0) := by
  unfold mpP
  rw [if_pos hv, if_pos]
  rw [mvOk_at hf ht, decide_eq_true hne, decide_eq_true h]
  rfl
theorem mp_bad {X : List (List Int)} {f t : Nat} (hv : vyB X = true) (hf : f < X.length) (ht : t < X.length) (h : ¬ (t ≠ f ∧ 0 < X[f].length)) : mpP X f t = ([], 6) := by
  unfold mpP
  rw [if_pos hv, if_neg]
  rw [mvOk_at hf ht, Bool.and_eq_true, decide_eq_true_eq, decide_eq_true_eq]
  exact h
theorem mp_off {X : List (List Int)} {f : Nat} (hv : vyB X = true) (hf : f < X.length) (h : 0 < X[f].length) : mpP X f (-1) = (mvX X f (-1), 0) := by
  unfold mpP
  rw [if_pos hv, if_pos (mvOk_off hf h)]
theorem mp_back {X : List (List Int)} {f t : Nat} (hv : vyB X = true) (hf : f < X.length) (ht : t < X.length) (hne : t ≠ f) (h : 0 < X[f].length) : mpP (mvX X f t) t f = (X, 0) := by
  have hl := mvX_len X f t
  have hb := mvX_both X hf ht hne
  rw [getD_lt X [] hf, getD_lt X [] ht] at hb
  have hp : 0 < ((mvX X f t)[t]'(by omega)).length := by
    have g1 : (mvX X f t).getD t [] = X[t] ++ [topL X[f]] := by
      rw [hb, List.getD_eq_getElem?_getD, List.getElem?_set_self (by simpa using ht)]
      rfl
    rw [getD_lt _ [] (by omega)] at g1
    rw [g1]
    simp
  rw [mp_ok (vy_both hv hf ht hne h) (by omega) (by omega) (Ne.symm hne) hp, mv_back hf ht hne h]

theorem above_of {X : List (List Int)} (hv : vyB X = true) {i k : Nat} {r : List Int} (hi : i < X.length) (e : X[i] = r) (hk : k < r.length) : pabP X r[k] = ((r.length : Int) - 1 - k, 0) := by
  subst e
  exact above_at hv hi hk
theorem top_of {X : List (List Int)} (hv : vyB X = true) {i k : Nat} {r : List Int} (hi : i < X.length) (e : X[i] = r) (hk : k < r.length) : (topL r = r[k]) ↔ k = r.length - 1 := by
  subst e
  exact top_at hv hi hk
theorem dat_at {rs : List (Row Int)} {X : List (List Int)} (h : X = dat rs) {i : Nat} (hi : i < rs.length) (hi2 : i < X.length) : X[i] = rs[i].2.2 := by
  subst h
  exact dat_get rs i hi
set_option maxRecDepth 100000 in
set_option maxHeartbeats 12800000 in
theorem lawYards_any (A : Option Addr) (c : Nat) (cs : List Int) (A2 : Option Addr) (c2 : Nat) (ds : List Int) (w : World) (hr : Rd LU w w.heap.size A c cs) (hr2 : Rd LU w w.heap.size A2 c2 ds) (hb : ∀ x ∈ cs, 0 ≤ x ∧ x ≤ 255) (hb2 : ∀ x ∈ ds, 0 ≤ x ∧ x ≤ 255) (hT : LibW w) :
    Calls Tryz.prog 4 #[.slice A cs.length c, .slice A2 ds.length c2] w fun e w' => e = .returned (.bool true) ∧ Below w.heap.size w w' := by
  have hlen := hr.len63
  have hlen2 := hr2.len63
  have h6 := a2Long_any A c cs.length A2 c2 ds.length w (by omega) (by omega)
  have hc1 := specA2Yard_any A c cs w hr hb
  have HK0 := Lib.hid (fun (W : World) (h : Below w.heap.size w W) => And.intro ((hr2.below h).more h.size) (And.intro h (lib_below hT h (Nat.le_refl _))))
  have HBY := Lib.hid hb2
  clear hr hr2 hb hb2 hT
  cases hbig : (decide (3000 < cs.length) || decide (3000 < ds.length))
  rotate_left
  · rw [hbig] at h6
    clear hc1
    go_enter Tryz.func4, Tryz.ntmps4
    go_wp2_with fail
    refine h6.mono ?_
    rintro e w1 ⟨rfl, rfl⟩
    go_wp2_with fail
    go_ret
    exact ⟨rfl, Below.refl _ _⟩
  rw [hbig] at h6
  clear hbig
  go_enter Tryz.func4, Tryz.ntmps4
  go_wp2_with fail
  refine h6.mono ?_
  rintro e w0 ⟨rfl, rfl⟩
  go_wp2_with fail
  refine hc1.mono ?_
  rintro e w1 ⟨A1, c1, rs, rfl, ho1, hv, hb1⟩
  obtain ⟨X, hX⟩ : ∃ X, X = dat rs := ⟨_, rfl⟩
  have HX := Lib.hid hX
  rw [← hX] at hv
  have HV := Lib.hid hv
  have hn := tlL_vy hv
  have hXl : X.length = rs.length := by rw [hX, dat_len]
  have HXL := Lib.hid hXl
  have HNIL := Lib.hid (nil_of ho1)
  have HR := Lib.hid (fun (W : World) (hW : Below w1.heap.size w1 W) => (ho1.rd.below hW).more hW.size)
  have hW1 := Lib.hid (fun (W : World) (hW : Below w1.heap.size w1 W) => HK0.out W (bthen hb1 (Nat.le_refl _) hW))
  have hct := implYardText_any A1 c1 rs w1 ho1.rd (by rw [← hX]; exact hn) ((hW1.out w1 (Below.refl _ _)).2.2.tab)
  rw [← hX] at hct
  have hcp := implTopPacks_any A1 c1 rs
  rw [← hX, tp_vy hv] at hcp
  have hyl : (ytS X) = bs (ytL X) := by unfold ytS; rw [if_pos hv]
  have hys := ytL_size hv
  have hrb := ryS_back hv
  have hpa := fun (W : World) (hW : Below w1.heap.size w1 W) (p : Int) => implPacksAbove_any A1 c1 rs p W (HR.out W hW) (by rw [← hX]; exact hn)
  have hmp := fun (W : World) (hW : Below w1.heap.size w1 W) (f t : Int) (hf : I64 f) (ht : I64 t) => implMovePack_any A1 c1 rs f t W (HR.out W hW) (by rw [← hX]; exact hn) HNIL.out hf ht
  rw [← hX] at hmp hpa
  have HPA := Lib.hid hpa
  have HMP := Lib.hid hmp
  have HCP := Lib.hid (fun (W : World) (hW : Below w1.heap.size w1 W) => hcp W (HR.out W hW) hn)
  obtain ⟨tx, htx⟩ : ∃ tx, tx = bs (ytL X) := ⟨_, rfl⟩
  rw [hyl, ← htx] at hct
  have hts : tx.size ≤ 1048576 := by rw [htx]; exact hys
  have hrb2 : ryS tx.data.toList = some X := by rw [htx, bs_data]; exact hrb
  clear h6 hc1 ho1 hb1 HK0 hcp hyl hys hrb hpa hmp hX htx hn hv hXl
  go_wp2_with fail
  refine hct.mono ?_
  rintro e w2 ⟨rfl, hb2⟩
  have HB2 := Lib.hid hb2
  have hcr := implReadYard_any tx w2 hts (hW1.out w2 hb2).2.2
  rw [hrb2] at hcr
  clear hct hb2 hts hrb2
  go_wp2_with fail
  refine hcr.mono ?_
  rintro e w3 ⟨A3, c3, os, rfl, ho3, hd3, hb3⟩
  have HB3 := Lib.hid (bthen HB2.out (Nat.le_refl _) hb3)
  have HD3 : Hid (dat os = X) := Lib.hid hd3
  have HR3 := Lib.hid (fun (W : World) (hW : Below w3.heap.size w3 W) => (ho3.rd.below hW).more hW.size)
  have hcp := HCP.out w3 HB3.out
  clear hcr hb3 hd3 ho3 HB2 HCP
  go_wp2_with fail
  refine hcp.mono ?_
  rintro e w4 ⟨B4, d4, rfl, ho4, hb4⟩
  have HB4 := Lib.hid (bthen HB3.out (Nat.le_refl _) hb4)
  have hcs := specSameYard_any A3 c3 os A1 c1 rs w4 (HR3.out w4 hb4) (HR.out w4 HB4.out)
  rw [HD3.out, ← HX.out, eqBB_self] at hcs
  have HR4 := Lib.hid (fun (W : World) (hW : Below w4.heap.size w4 W) => (ho4.rd.below hW).more hW.size)
  try dsimp only at HR4
  obtain ⟨tl, htl⟩ : ∃ tl, tl = X.map topL := ⟨_, rfl⟩
  rw [← htl] at HR4
  try dsimp only
  rw [← htl]
  have HTL := Lib.hid htl
  have htll : tl.length = rs.length := by rw [htl, List.length_map]; exact HXL.out
  have g1 : ((tl.length : Int) != rs.length) = false := by rw [bne_eq_false_iff_eq]; omega
  have g2 : (tl.length != rs.length) = false := by rw [bne_eq_false_iff_eq]; omega
  have HTLL := Lib.hid htll
  clear hcp hb4 ho4 HR3 HD3 HB3 htl htll
  as_aux_lemma =>
  go_wp2_with fail
  refine hcs.mono ?_
  rintro e w5 ⟨rfl, hb5⟩
  have HB5 := Lib.hid (bthen HB4.out (Nat.le_refl _) hb5)
  have HR5 := Lib.hid (fun (W : World) (hW : Below w5.heap.size w5 W) => HR4.out W (bthen hb5 (Nat.le_refl _) hW))
  clear hcs hb5 HR4
  go_wp2_with fail
  have hrl := (HR.out w1 (Below.refl _ _)).len63
  as_aux_lemma =>
  go_loopw [11] (fun i wr => ∃ (i1 : Nat), i1 ≤ rs.length ∧ i = .int .i64 i1 ∧ Hid (Below w5.heap.size w5 wr)) (fun i _ => rs.length - (intOf i).toNat)
  case atStart => exact ⟨0, by omega, rfl, Lib.hid (Below.refl _ _)⟩
  case round =>
    obtain ⟨i1, hi1, rfl, HB⟩ := hrel
    have HW5 : Hid (∀ W, Below w5.heap.size w5 W → Below w1.heap.size w1 W) := Lib.hid (fun W hW => bthen HB5.out (Nat.le_refl _) hW)
    obtain ⟨wu, rfl⟩ : ∃ q, q = wr := ⟨_, rfl⟩
    by_cases hlt1 : i1 < rs.length
    · as_aux_lemma =>
      have hii : (i1 : Int) < rs.length := by omega
      have hiX : i1 < X.length := by rw [HXL.out]; exact hlt1
      have HROW := Lib.hid (dat_at HX.out hlt1 hiX)
      have HAT := Lib.hid (fun (W : World) (hW : Below w5.heap.size w5 W) => (HR.out W (HW5.out W hW)).at_ hlt1)
      have HTI : Hid (∃ h : i1 < tl.length, tl[i1] = topL rs[i1].2.2) := Lib.hid ⟨by rw [HTLL.out]; exact hlt1, by
        have h := HTL.out
        subst h
        rw [List.getElem_map, HROW.out]⟩
      have hlt1' : i1 < tl.length := by rw [HTLL.out]; exact hlt1
      have hii' : (i1 : Int) < tl.length := by omega
      have HTO := Lib.hid (fun (W : World) (hW : Below w5.heap.size w5 W) => (HR5.out W hW).int hlt1')
      have HTE : Hid (tl[i1] = topL rs[i1].2.2) := Lib.hid HTI.out.2
      obtain ⟨ys, hys⟩ : ∃ ys, ys = rs[i1].2.2 := ⟨_, rfl⟩
      obtain ⟨Ay, hAy⟩ : ∃ Ay, Ay = rs[i1].1 := ⟨_, rfl⟩
      obtain ⟨cy, hcy⟩ : ∃ cy, cy = rs[i1].2.1 := ⟨_, rfl⟩
      rw [← hys] at HROW HTE
      rw [← hys, ← hAy, ← hcy] at HAT
      clear HTI hys hAy hcy
      obtain ⟨t, ht⟩ : ∃ t, t = tl[i1] := ⟨_, rfl⟩
      rw [← ht] at HTO HTE
      clear ht
      go_wp2_with fail
      go_loopw [12] (fun j wr => ∃ (k1 : Nat), k1 ≤ ys.length ∧ j = .int .i64 k1 ∧ Hid (Below w5.heap.size w5 wr)) (fun j _ => ys.length - (intOf j).toNat)
      case atStart => exact ⟨0, by omega, rfl, HB⟩
      case round =>
        clear HB
        obtain ⟨k1, hk1, rfl, HB⟩ := hrel
        obtain ⟨ad, rfl, _, hcell, hrow⟩ := HAT.out wr HB.out
        have hyl := hrow.len63
        by_cases hlt2 : k1 < ys.length
        · as_aux_lemma =>
          have hkk : (k1 : Int) < ys.length := by omega
          obtain ⟨ak, rfl, _, hce⟩ := hrow.int hlt2
          have HAB := Lib.hid (above_of HV.out hiX HROW.out hlt2)
          have HTT := Lib.hid (top_of HV.out hiX HROW.out hlt2)
          have HXE : Hid (∀ W, Below w5.heap.size w5 W → W.cell? (ak.add k1) = some (.int .i64 ys[k1])) := Lib.hid (fun W hW => by
            obtain ⟨ad', ha, _, _, hr'⟩ := HAT.out W hW
            obtain ⟨ak', hb', _, h⟩ := hr'.int hlt2
            cases hb'
            exact h)
          obtain ⟨x, hx⟩ : ∃ x, x = ys[k1] := ⟨_, rfl⟩
          rw [← hx] at hce HAB HTT HXE
          clear hx hrow
          have hpc := HPA.out wr (HW5.out wr HB.out) x
          rw [HAB.out] at hpc
          obtain ⟨nn, hnn⟩ : ∃ nn, nn = (ys.length : Int) - 1 - k1 := ⟨_, rfl⟩
          rw [← hnn] at hpc
          have e1 : IntKind.i64.wrap ((ys.length : Int) - 1) = (ys.length : Int) - 1 := wrapS (by omega) (by omega)
          have e2 : IntKind.i64.wrap ((ys.length : Int) - 1 - k1) = nn := by rw [hnn]; exact wrapS (by omega) (by omega)
          go_wp2_with fail
          refine hpc.mono ?_
          rintro e w6 ⟨rfl, hb6⟩
          have HB6 := Lib.hid (bthen HB.out (Nat.le_refl _) hb6)
          clear hpc hb6 hce hcell
          obtain ⟨ad', had, _, hcell6, _⟩ := HAT.out w6 HB6.out
          cases had
          have hce6 := HXE.out w6 HB6.out
          obtain ⟨a4, rfl, _, hct6⟩ := HTO.out w6 HB6.out
          by_cases hlast : k1 = ys.length - 1
          · obtain rfl : t = x := by rw [HTE.out]; exact HTT.out.2 hlast
            obtain rfl : nn = 0 := by omega
            clear hlast hnn
            go_upto_region 16 with fail
            go_quiet (fail)
            go_wp2_with fail
            go_roundw
            case rel => exact ⟨k1 + 1, by omega, by go_num, Lib.hid (below_drewN HB6.out _)⟩
            case measure => simp [intOf]; omega
          · have n1 : (t == x) = false := by
              rw [beq_eq_false_iff_ne, HTE.out]
              exact fun h => hlast (HTT.out.1 h)
            have n0 : (nn == 0) = false := by rw [beq_eq_false_iff_ne]; omega
            clear hlast hnn
            go_upto_region 16 with fail
            go_quiet (fail)
            go_wp2_with fail
            go_roundw
            case rel => exact ⟨k1 + 1, by omega, by go_num, Lib.hid (below_drewN HB6.out _)⟩
            case measure => simp [intOf]; omega
        · as_aux_lemma =>
          have hkk : (ys.length : Int) ≤ k1 := by omega
          obtain ⟨a4, rfl, _, hct⟩ := HTO.out wr HB.out
          by_cases h0 : ys.length = 0
          · obtain rfl : t = 0 := by rw [HTE.out]; exact top_none h0
            have z1 : ((ys.length : Int) == 0) = true := by rw [beq_iff_eq]; omega
            have z2 : (ys.length == 0) = true := by rw [beq_iff_eq]; omega
            clear h0
            go_wp2_with fail
            go_roundw
            case rel => exact ⟨i1 + 1, by omega, by go_num, HB⟩
            case measure => simp [intOf]; omega
          · have z1 : ((ys.length : Int) == 0) = false := by rw [beq_eq_false_iff_ne]; omega
            have z2 : (ys.length == 0) = false := by rw [beq_eq_false_iff_ne]; omega
            clear h0
            go_wp2_with fail
            go_roundw
            case rel => exact ⟨i1 + 1, by omega, by go_num, HB⟩
            case measure => simp [intOf]; omega
    · as_aux_lemma =>
      have hii : (rs.length : Int) ≤ i1 := by omega
      have HBu := Lib.hid (HW5.out wu HB.out)
      clear HR5 HTL HTLL HPA HB HW5 HB5
      have hx1 := (dB_true HV.out).1
      rw [HXL.out] at hx1
      obtain ⟨hx1, hx4⟩ := hx1
      have ha1 := a2At_any A2 c2 ds 0 (rs.length : Int) wu (hW1.out wu HBu.out).1 HBY.out (by omega) (by omega)
      have ha2 := a2At_any A2 c2 ds 1 (rs.length : Int) wu (hW1.out wu HBu.out).1 HBY.out (by omega) (by omega)
      rw [show (((0 : Nat) : Int)) = 0 from rfl] at ha1
      rw [show (((1 : Nat) : Int)) = 1 from rfl] at ha2
      clear HBY
      go_wp2_with fail
      refine ha1.mono ?_
      rintro e w7 ⟨fN, rfl, hf, rfl⟩
      clear ha1
      go_wp2_with fail
      refine ha2.mono ?_
      rintro e w8 ⟨tN, rfl, ht, rfl⟩
      clear ha2
      have hfl : fN < rs.length := by omega
      have hfX : fN < X.length := by rw [HXL.out]; exact hfl
      have htX : tN < X.length := by rw [HXL.out]; omega
      have HXF := Lib.hid (dat_at HX.out hfl hfX)
      have HAT := Lib.hid (fun (W : World) (hW : Below w1.heap.size w1 W) => (HR.out W hW).at_ hfl)
      obtain ⟨ys, hys⟩ : ∃ ys, ys = rs[fN].2.2 := ⟨_, rfl⟩
      obtain ⟨Ay, hAy⟩ : ∃ Ay, Ay = rs[fN].1 := ⟨_, rfl⟩
      obtain ⟨cy, hcy⟩ : ∃ cy, cy = rs[fN].2.1 := ⟨_, rfl⟩
      rw [← hys] at HXF
      rw [← hys, ← hAy, ← hcy] at HAT
      clear hys hAy hcy
      have i1_ : I64 (fN : Int) := by constructor <;> omega
      have i2_ : I64 (tN : Int) := by constructor <;> omega
      have hm1 := HMP.out w8 HBu.out fN tN i1_ i2_
      by_cases hgo : tN ≠ fN ∧ 0 < X[fN].length
      rotate_left
      · as_aux_lemma =>
        rw [mp_bad HV.out hfX htX hgo] at hm1
        rw [HXF.out] at hgo
        go_wp2_with fail
        refine hm1.mono ?_
        rintro e w9 ⟨A5, c5, o5, rfl, _, _, hb9⟩
        have HB9 := Lib.hid (bthen HBu.out (Nat.le_refl _) hb9)
        clear hm1 hb9
        by_cases hft : fN = tN
        · subst hft
          clear hgo
          go_wp2_with fail
          go_ret
          exact ⟨by first | rfl | (simp; done), (hW1.out w9 HB9.out).2.1⟩
        · have z0 : ((fN : Int) == tN) = false := by rw [beq_eq_false_iff_ne]; omega
          have z1 : ys.length = 0 := by
            by_cases h : 0 < ys.length
            · exact absurd ⟨fun e => hft e.symm, h⟩ hgo
            · omega
          have z2 : ((ys.length : Int) == 0) = true := by rw [beq_iff_eq]; omega
          have z3 : (ys.length == 0) = true := by rw [beq_iff_eq]; exact z1
          obtain ⟨ad, rfl, _, hcell, _⟩ := HAT.out w9 HB9.out
          clear hgo hft z1
          go_wp2_with fail
          go_ret
          exact ⟨by first | rfl | (simp; done), (hW1.out w9 HB9.out).2.1⟩
      as_aux_lemma =>
      obtain ⟨hne, hp⟩ := hgo
      rw [mp_ok HV.out hfX htX hne hp] at hm1
      have z0 : ((fN : Int) == tN) = false := by rw [beq_eq_false_iff_ne]; omega
      have hy0 : 0 < ys.length := by rw [← HXF.out]; exact hp
      have z2 : ((ys.length : Int) == 0) = false := by rw [beq_eq_false_iff_ne]; omega
      have z3 : (ys.length == 0) = false := by rw [beq_eq_false_iff_ne]; omega
      have HNE := Lib.hid hne
      have HP := Lib.hid hp
      clear hne hp hy0
      go_wp2_with fail
      refine hm1.mono ?_
      rintro e w9 ⟨A5, c5, o5, rfl, ho5, hd5, hb9⟩
      have HB9 := Lib.hid (bthen HBu.out (Nat.le_refl _) hb9)
      have HD5 : Hid (dat o5 = mvX X fN tN) := Lib.hid hd5
      have HR5 := Lib.hid (fun (W : World) (hW : Below w9.heap.size w9 W) => (ho5.rd.below hW).more hW.size)
      have hm2 := implMovePack_any A5 c5 o5 tN fN w9 ho5.rd (by rw [HD5.out]; exact tlL_vy (vy_both HV.out hfX htX HNE.out HP.out)) (nil_of ho5) i2_ i1_
      rw [HD5.out, mp_back HV.out hfX htX HNE.out HP.out] at hm2
      obtain ⟨ad, rfl, _, hcell, _⟩ := HAT.out w9 HB9.out
      clear hm1 hb9 hd5 ho5
      go_wp2_with fail
      refine hm2.mono ?_
      rintro e w10 ⟨A6, c6, o6, rfl, ho6, hd6, hb10⟩
      have HB10 := Lib.hid (bthen HB9.out (Nat.le_refl _) hb10)
      have HD6 : Hid (dat o6 = X) := Lib.hid hd6
      have HR6 := Lib.hid (fun (W : World) (hW : Below w10.heap.size w10 W) => (ho6.rd.below hW).more hW.size)
      have HQ5 := Lib.hid (fun (W : World) (hW : Below w10.heap.size w10 W) => HR5.out W (bthen hb10 (Nat.le_refl _) hW))
      have hm3 := HMP.out w10 HB10.out fN (-1) i1_ (by constructor <;> omega)
      rw [mp_off HV.out hfX HP.out] at hm3
      clear hm2 hb10 hd6 ho6 HR5 hcell
      go_wp2_with fail
      refine hm3.mono ?_
      rintro e w11 ⟨A7, c7, o7, rfl, ho7, hd7, hb11⟩
      have HB11 := Lib.hid (bthen HB10.out (Nat.le_refl _) hb11)
      have HD7 : Hid (dat o7 = mvX X fN (-1)) := Lib.hid hd7
      have HR7 := Lib.hid (fun (W : World) (hW : Below w11.heap.size w11 W) => (ho7.rd.below hW).more hW.size)
      have HZ5 := Lib.hid (fun (W : World) (hW : Below w11.heap.size w11 W) => HQ5.out W (bthen hb11 (Nat.le_refl _) hW))
      have hs1 := specSameYard_any A6 c6 o6 _ c1 rs w11 (HR6.out w11 hb11) (HR.out w11 HB11.out)
      rw [HD6.out, ← HX.out, eqBB_self] at hs1
      clear hm3 hb11 hd7 ho7 HQ5 HMP HR6
      go_wp2_with fail
      refine hs1.mono ?_
      rintro e w12 ⟨rfl, hb12⟩
      have HB12 := Lib.hid (bthen HB11.out (Nat.le_refl _) hb12)
      have HC7 := Lib.hid (fun (W : World) (hW : Below w12.heap.size w12 W) => HR7.out W (bthen hb12 (Nat.le_refl _) hW))
      have hs2 := specSameYard_any A5 c5 o5 _ c1 rs w12 (HZ5.out w12 hb12) (HR.out w12 HB12.out)
      rw [HD5.out, ← HX.out, show eqBB (mvX X fN tN) X = false from decide_eq_false (mv_ne hfX htX HNE.out HP.out)] at hs2
      clear hs1 hb12 HR7 HZ5
      go_wp2_with fail
      refine hs2.mono ?_
      rintro e w13 ⟨rfl, hb13⟩
      have HB13 := Lib.hid (bthen HB12.out (Nat.le_refl _) hb13)
      have hs3 := specValidYard_any A7 c7 o7 w13 (HC7.out w13 hb13) (by rw [HD7.out]; exact tlL_vy (vy_drop HV.out hfX HP.out))
      rw [HD7.out, vy_drop HV.out hfX HP.out] at hs3
      clear hs2 hb13 HC7
      go_wp2_with fail
      refine hs3.mono ?_
      rintro e w14 ⟨rfl, hb14⟩
      have HB14 := Lib.hid (bthen HB13.out (Nat.le_refl _) hb14)
      clear hs3 hb14
      go_wp2_with fail
      go_ret
      exact ⟨by first | rfl | (simp; done), (hW1.out w14 HB14.out).2.1⟩
end Go.Proofs.YtjgpppcjhneibaaGreatDoor
