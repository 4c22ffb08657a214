/-
  FnPay returns true for every argument: the walk.
-/
import Derived.Test.YtofcmljnckdknaaPayG
import Derived.Test.YtofcmljnckdknaaPayI
import Derived.Test.YtofcmljnckdknaaPayJ
import Derived.Test.YtofcmljnckdknaaF6
import Derived.Deep.CutRange
import Derived.Deep.RegionHeld3
namespace Go.Proofs.Ytofcmljnckdknaa
open Go.ChangeShapes Go.WideShapes Go.RowKit

set_option maxRecDepth 100000 in
set_option maxHeartbeats 6400000 in
theorem lawPay_any (A : Option Addr) (c : Nat) (cs : List Int) (w : World) (hr : Rd LU w w.heap.size A c cs) (hb : ∀ x ∈ cs, 0 ≤ x ∧ x ≤ 255) :
    Calls Try.prog 5 #[.slice A cs.length c] w fun e w' => e = .returned (.bool true) ∧ Below w.heap.size w w' := by
  have hlen := hr.len63
  have h6 := f6big_any A c cs.length w (by omega)
  have HK0 := Lib.hid (fun (W : World) (h : Below w.heap.size w W) => And.intro ((hr.below h).more h.size) h)
  have HBY := Lib.hid hb
  have hc1 := drawDivide_any A c cs w hr hb
  clear hr hb
  cases hbig : decide (4096 < cs.length)
  rotate_left
  · rw [hbig] at h6
    clear hc1
    go_enter Try.func5, Try.ntmps5
    go_wp2_with fail
    refine h6.mono ?_
    rintro e w1 ⟨rfl, rfl⟩
    go_wp2_with fail
    go_ret
    exact ⟨rfl, Below.refl _ _⟩
  rw [hbig] at h6
  go_enter Try.func5, Try.ntmps5
  go_wp2_with fail
  refine h6.mono ?_
  rintro e w0 ⟨rfl, rfl⟩
  go_wp2_with fail
  refine hc1.mono ?_
  rintro e w1 ⟨B1, B2, d1, d2, xs, ws, pay, rfl, _, _, ho1, ho2, hok1, _, hb1⟩
  have HK1 := Lib.hid (fun (W : World) (hW : Below w1.heap.size w1 W) => And.intro (HK0.out W (bthen hb1 (Nat.le_refl _) hW)) (And.intro ((ho1.rd.below hW).more hW.size) ((ho2.rd.below hW).more hW.size)))
  obtain ⟨P, hP⟩ : ∃ P, P = dpP xs ws pay := ⟨_, rfl⟩
  have hc2 := implDividePay_any B1 d1 xs B2 d2 ws pay w1 ho1.rd ho2.rd hok1
  have hc3 := fun W h1 h2 => specDividePay_any B1 d1 xs B2 d2 ws pay W h1 h2 hok1
  have HOK1 := Lib.hid hok1
  rw [← hP] at hc2 hc3
  obtain ⟨P, pc⟩ := P
  dsimp only at hc2 hc3
  have HP := Lib.hid hP
  have HC3 := Lib.hid hc3
  clear h6 hc1 hc3 ho1 ho2 hok1 hb1 hP hlen hbig
  as_aux_lemma =>
  go_wp2_with fail
  refine hc2.mono ?_
  rintro e w2 ⟨B3, d3, rfl, ho3, hb2⟩
  have HK2 := Lib.hid (fun (W : World) (hW : Below w2.heap.size w2 W) => And.intro (HK1.out W (bthen hb2 (Nat.le_refl _) hW)) ((ho3.rd.below hW).more hW.size))
  obtain ⟨⟨_, hx1, hx2⟩, _⟩ := HK2.out w2 (Below.refl _ _)
  have hc3 := HC3.out w2 hx1 hx2
  clear hc2 hx1 hx2 ho3 hb2 HC3
  go_wp2_with fail
  refine hc3.mono ?_
  rintro e w3 ⟨B4, d4, rfl, ho4, hb3⟩
  have HK3 := Lib.hid (fun (W : World) (hW : Below w3.heap.size w3 W) => And.intro (HK2.out W (bthen hb3 (Nat.le_refl _) hW)) ((ho4.rd.below hW).more hW.size))
  obtain ⟨⟨⟨⟨hx1, _⟩, _⟩, _⟩, _⟩ := HK3.out w3 (Below.refl _ _)
  have hc4 := drawPayFor_any A c cs w3 hx1 HBY.out
  clear hc3 hx1 ho4 hb3 HK1 HK2
  as_aux_lemma =>
  go_wp2_with fail
  refine hc4.mono ?_
  rintro e w4 ⟨B5, B6, d5, d6, xs2, ws2, rate, rfl, _, _, ho5, ho6, hok5, _, hb4⟩
  obtain ⟨F, hF⟩ : ∃ F, F = pfP xs2 ws2 rate := ⟨_, rfl⟩
  have hc5 := implPayFor_any B5 d5 xs2 B6 d6 ws2 rate w4 ho5.rd ho6.rd hok5
  have HC6 := Lib.hid (fun (W : World) (hW : Below w4.heap.size w4 W) => specPayFor_any B5 d5 xs2 B6 d6 ws2 rate W ((ho5.rd.below hW).more hW.size) ((ho6.rd.below hW).more hW.size) hok5)
  rw [← hF] at hc5 HC6
  clear hF
  obtain ⟨F, one⟩ := F
  dsimp only at hc5 HC6
  clear hc4 ho5 ho6 hok5
  go_wp2_with fail
  refine hc5.mono ?_
  rintro e w5 ⟨rfl, hb5⟩
  have hc6 := HC6.out w5 hb5
  clear hc5 HC6
  go_wp2_with fail
  refine hc6.mono ?_
  rintro e w6 ⟨rfl, hb6⟩
  have HK6 := Lib.hid (fun (W : World) (hW : Below w6.heap.size w6 W) => HK3.out W (bthen hb4 (Nat.le_refl _) (bthen hb5 (Nat.le_refl _) (bthen hb6 (Nat.le_refl _) hW))))
  obtain ⟨⟨⟨⟨hx1, _⟩, _⟩, _⟩, _⟩ := HK6.out w6 (Below.refl _ _)
  have hc7 := drawPair_any A c cs w6 hx1 HBY.out
  clear hc6 hx1 hb4 hb5 hb6 HK3
  as_aux_lemma =>
  go_wp2_with fail
  refine hc7.mono ?_
  rintro e w7 ⟨B7, d7, ys, A8, c8, rs, rfl, _, _, _, ho7, hr8, hok7, hb7⟩
  have HK7 := Lib.hid (fun (W : World) (hW : Below w7.heap.size w7 W) => And.intro (HK6.out W (bthen hb7 (Nat.le_refl _) hW)) (And.intro ((ho7.rd.below hW).more hW.size) ((hr8.below hW).more hW.size)))
  obtain ⟨R, hR⟩ : ∃ R, R = prP ys (dat rs) := ⟨_, rfl⟩
  have hc8 := implPairHands_any B7 d7 ys A8 c8 rs w7 ho7.rd hr8 hok7
  have HC9 := Lib.hid (fun (W : World) (hW : Below w7.heap.size w7 W) => specPairHands_any B7 d7 ys A8 c8 rs W ((ho7.rd.below hW).more hW.size) ((hr8.below hW).more hW.size) hok7)
  rw [← hR] at hc8 HC9
  obtain ⟨R, three⟩ := R
  dsimp only at hc8 HC9
  have HR := Lib.hid hR
  clear hc7 ho7 hr8 hok7 hb7 hR
  go_wp2_with fail
  refine hc8.mono ?_
  rintro e w8 ⟨B9, d9, rfl, ho9, hb8⟩
  have HK8 := Lib.hid (fun (W : World) (hW : Below w8.heap.size w8 W) => And.intro (HK7.out W (bthen hb8 (Nat.le_refl _) hW)) ((ho9.rd.below hW).more hW.size))
  have hc9 := HC9.out w8 hb8
  clear hc8 ho9 hb8 HC9
  go_wp2_with fail
  refine hc9.mono ?_
  rintro e w9 ⟨B10, d10, rfl, ho10, hb9⟩
  have HK9 := Lib.hid (fun (W : World) (hW : Below w9.heap.size w9 W) => And.intro (HK8.out W (bthen hb9 (Nat.le_refl _) hW)) ((ho10.rd.below hW).more hW.size))
  obtain ⟨⟨⟨⟨⟨⟨⟨hx1, _⟩, _⟩, _⟩, _⟩, _⟩, _⟩, _⟩ := HK9.out w9 (Below.refl _ _)
  have hc10 := drawDays_any A c cs w9 hx1 HBY.out
  clear hc9 hx1 ho10 hb9 HK6 HK7 HK8
  as_aux_lemma =>
  go_wp2_with fail
  refine hc10.mono ?_
  rintro e w10 ⟨B11, d11, zs, bricks, each, rfl, _, ho11, hok11, hb10⟩
  obtain ⟨F2, hF⟩ : ∃ F, F = dfP zs bricks each := ⟨_, rfl⟩
  have hc11 := implDaysFor_any B11 d11 zs bricks each w10 ho11.rd hok11
  have HC12 := Lib.hid (fun (W : World) (hW : Below w10.heap.size w10 W) => specDaysFor_any B11 d11 zs bricks each W ((ho11.rd.below hW).more hW.size) hok11)
  rw [← hF] at hc11 HC12
  clear hF
  obtain ⟨days, five⟩ := F2
  dsimp only at hc11 HC12
  clear hc10 ho11 hok11
  go_wp2_with fail
  refine hc11.mono ?_
  rintro e w11 ⟨rfl, hb11⟩
  have hc12 := HC12.out w11 hb11
  clear hc11 HC12
  go_wp2_with fail
  refine hc12.mono ?_
  rintro e w12 ⟨rfl, hb12⟩
  have HZ := Lib.hid (fun (W : World) (hW : Below w12.heap.size w12 W) => HK9.out W (bthen hb10 (Nat.le_refl _) (bthen hb11 (Nat.le_refl _) (bthen hb12 (Nat.le_refl _) hW))))
  obtain ⟨⟨⟨⟨⟨_, hp3⟩, hp4⟩, _⟩, _⟩, _⟩ := HZ.out w12 (Below.refl _ _)
  have hf1 := f6ints_any B3 B4 d3 d4 P _ w12 hp3 hp4
  clear hc12 hb10 hb11 hb12 HK9 HK0 HBY hp3 hp4
  as_aux_lemma =>
  go_wp2_with fail
  refine hf1.mono ?_
  rintro e w13 ⟨rfl, hd13⟩
  have hb13 : Below w12.heap.size w12 w13 := hd13.below
  obtain ⟨⟨⟨⟨⟨_, _⟩, _⟩, _⟩, hp3⟩, hp4⟩ := HZ.out w13 hb13
  have hf2 := f6ints_any B9 B10 d9 d10 R _ w13 hp3 hp4
  clear hf1 hd13 hp3 hp4
  go_wp2_with fail
  refine hf2.mono ?_
  rintro e w14 ⟨rfl, hd14⟩
  have HB14 := Lib.hid (bthen hb13 (Nat.le_refl _) hd14.below)
  clear hf2 hd14 hb13
  as_aux_lemma =>
  go_upto_if 160 with fail
  obtain ⟨b3, hb3⟩ : ∃ b, b = (three == 0) := ⟨_, rfl⟩
  rw [← hb3]
  go_cut [2] from 159 to 233 (fun s wx => s = .bool false ∧ Below w12.heap.size w12 wx)
  case first =>
    as_aux_lemma =>
    cases b3
    · go_wp2_with fail
      go_meet
      case rel => exact ⟨rfl, HB14.out⟩
    obtain rfl : three = 0 := by simpa using hb3.symm
    clear hb3
    obtain ⟨own, hRo, hc6, hy20, hol, hXl, hLt, hnd, hrow, hWk, hbest⟩ := pr_walk HR.out.symm
    obtain ⟨X, hX⟩ : ∃ X, X = dat rs := ⟨_, rfl⟩
    rw [← hX] at hol hXl hrow hWk hbest
    have HXD := Lib.hid hX.symm
    have HYS : Hid (∀ W, Below w12.heap.size w12 W → Rd LHand W W.heap.size B7 d7 ys) := Lib.hid (fun W hW => (HZ.out W hW).1.1.2.1)
    have HWO : Hid (∀ W, Below w12.heap.size w12 W → RdR LI W W.heap.size A8 c8 rs) := Lib.hid (fun W hW => (HZ.out W hW).1.1.2.2)
    have HRR : Hid (∀ W, Below w12.heap.size w12 W → Rd LI W W.heap.size B10 d10 R) := Lib.hid (fun W hW => (HZ.out W hW).2)
    have hz14 := HB14.out.size
    have ha14 : Below w12.heap.size w12 (w14.alloc (.cells #[] 2)) := HB14.out.alloc hz14 _
    have HA14 := Lib.hid ha14
    have HL0 := Lib.hid (Own.lit0 (L := LI) (T := 2) (base := w14.heap.size) w14 (Nat.le_refl _) rfl)
    have HRO := Lib.hid hRo
    have HLT := Lib.hid hLt
    have HND := Lib.hid hnd
    have HROW := Lib.hid hrow
    have HWK := Lib.hid hWk
    have HBEST := Lib.hid hbest
    have HOL := Lib.hid hol
    have HXL := Lib.hid hXl
    clear hX hRo hLt hnd hrow hWk hbest hol hXl ha14
    go_wp2_with fail
    go_loopw [30, 31] (fun o i wr => ∃ (k : Nat) (A1 : Option Addr) (c1 : Nat) (L : List Int), k ≤ ys.length ∧ i = .int .i64 k ∧ o = .slice A1 L.length c1 ∧ Hid (L = layT ys false k) ∧ Hid (L.length ≤ k) ∧ Hid (Own LI 2 wr w14.heap.size A1 c1 L) ∧ Hid (Below w12.heap.size w12 wr) ∧ Hid (w14.heap.size ≤ wr.heap.size)) (fun _ i _ => ys.length - (intOf i).toNat)
    case atStart => exact ⟨0, _, _, [], by omega, rfl, rfl, Lib.hid rfl, Lib.hid (by simp), HL0, HA14, Lib.hid (by simp)⟩
    case round =>
      obtain ⟨k, A1, c1, L, hk, rfl, rfl, HE, HLK, HO, HB, HS⟩ := hrel
      have hLk := HLK.out
      have hws := HS.out
      by_cases hlt : k < ys.length
      · have hki : (k : Int) < ys.length := by omega
        obtain ⟨ad, rfl, hab, q0, q1, q2⟩ := rdHand (HYS.out wr HB.out) hlt
        have HTS := Lib.hid (layT_succ ys false hlt)
        have hnn := HO.out.blk_lt
        cases hx : ys[k].2.2
        · have HE2 : Hid (L ++ [(k : Int)] = layT ys false (k + 1)) := Lib.hid (by rw [HTS.out, hx, HE.out]; rfl)
          rw [hx] at q2
          clear hx HTS
          generalize ys[k].1 = z0 at *
          generalize ys[k].2.1 = z1 at *
          go_wp2_with (at_builtin; go_loud (refine wpL_app1 (L := LI) rowI rfl rfl _ _ rfl rfl HO.out (k : Int) _ rfl rfl (by simp) (by unfold maxLen; omega) (by omega) (by omega) ?_); intro A6 c6 w6 ho6 hg6)
          have hbz : Below w14.heap.size wr w6 := hg6.below' (by omega) (fun b e => (hnn b e).1)
          have HB6 := Lib.hid (HB.out.trans (hbz.mono hz14))
          have HO6 := Lib.hid ho6
          have HS6 := Lib.hid (show w14.heap.size ≤ w6.heap.size by have := hbz.size; omega)
          clear ho6 hg6 hbz
          go_roundw
          case rel => exact ⟨k + 1, A6, c6, L ++ [(k : Int)], by omega, by go_num, by simp, HE2, Lib.hid (by simp; omega), HO6, HB6, HS6⟩
          case measure => simp [intOf]; omega
        · have HE2 : Hid (L = layT ys false (k + 1)) := Lib.hid (by rw [HTS.out, hx, HE.out]; rfl)
          rw [hx] at q2
          clear hx HTS
          generalize ys[k].1 = z0 at *
          generalize ys[k].2.1 = z1 at *
          go_wp2_with fail
          go_roundw
          case rel => exact ⟨k + 1, A1, c1, L, by omega, by go_num, rfl, HE2, Lib.hid (by omega), HO, HB, HS⟩
          case measure => simp [intOf]; omega
      · have hki : (ys.length : Int) ≤ k := by omega
        have HEL : Hid (lyL ys false = L) := Lib.hid (by rw [HE.out, show k = ys.length by omega]; rfl)
        rw [HEL.out] at HRO HLT HROW HXL hc6
        have HCN : Hid (L.Nodup) := Lib.hid (by rw [← HEL.out]; exact layT_nodup _ _ _)
        have HRL : Hid (R.length = X.length) := Lib.hid (by rw [HRO.out, hnd_len]; exact HOL.out)
        clear HEL HE HLK
        obtain ⟨wq, rfl⟩ : ∃ wq : World, wq = wr := ⟨_, rfl⟩
        go_wp2_with fail
        go_loopw [2, 32, 33, 34] (fun z s t i wr => ∃ (j : Nat) (S T : Int), j ≤ R.length ∧ z = .bool false ∧ i = .int .i64 j ∧ s = .int .i64 S ∧ t = .int .i64 T ∧ Hid (S = wS X (own.take j)) ∧ Hid (T = wS X (iot j)) ∧ Hid (Own LI 2 wr w14.heap.size A1 c1 L) ∧ Hid (Below w12.heap.size w12 wr)) (fun _ _ _ i _ => R.length - (intOf i).toNat)
        case atStart => exact ⟨0, 0, 0, by omega, rfl, rfl, rfl, rfl, Lib.hid rfl, Lib.hid rfl, HO, HB⟩
        case round =>
          clear HO HB
          obtain ⟨j, S, T, hj, rfl, rfl, rfl, rfl, HSS, HTT, HO, HB⟩ := hrel
          obtain ⟨wu, rfl⟩ : ∃ wu : World, wu = wr := ⟨_, rfl⟩
          have hrl := HRL.out
          have hl6 := hc6
          have hbS := wS_bd HWK.out (own.take j)
          have hbT := wS_bd HWK.out (iot j)
          rw [← HSS.out] at hbS
          rw [← HTT.out, iot_len] at hbT
          rw [List.length_take] at hbS
          by_cases hlt : j < R.length
          · have hji : (j : Int) < R.length := by omega
            have hjo : j < own.length := by have := HOL.out; omega
            have hjX : j < X.length := by omega
            have hjL : j < L.length := by have := HXL.out; omega
            have hS6 : 0 ≤ S ∧ S ≤ 6000 := by have := HXL.out; have := HOL.out; omega
            have hT6 : 0 ≤ T ∧ T ≤ 6000 := by have := HXL.out; omega
            clear hbS hbT
            go_wp2_with fail
            go_loopw [32, 35] (fun s i wr => ∃ (k : Nat) (S2 : Int), k ≤ L.length ∧ i = .int .i64 k ∧ s = .int .i64 S2 ∧ Hid (S2 = S + hitW X own j k) ∧ Hid (Own LI 2 wr w14.heap.size A1 c1 L) ∧ Hid (Below w12.heap.size w12 wr)) (fun _ i _ => L.length - (intOf i).toNat)
            case atStart => exact ⟨0, S, by omega, rfl, rfl, Lib.hid (by rw [hitW_zero]; omega), HO, HB⟩
            case round =>
              clear HO HB
              obtain ⟨k, S2, hk, rfl, rfl, HS2, HO, HB⟩ := hrel
              by_cases hlt2 : k < L.length
              · have hki : (k : Int) < L.length := by omega
                obtain ⟨ga, rfl, hga0, hga1, hcg, _⟩ := HO.out.int hlt2
                obtain ⟨ar, rfl, har, hcr⟩ := (HRR.out wr HB.out).int hlt
                obtain ⟨ad, Ak, ck, rfl, had, hcw, hAk, hcwk⟩ := (HWO.out wr HB.out).worth HXD.out HROW.out hjX hlt2
                have hrsX : rs.length = X.length := by rw [← HXD.out, dat_len]
                have hjrs : (j : Int) < rs.length := by omega
                have hat := hnd_at HCN.out HLT.out hjo (by rw [hnd_len]; exact hjo) hlt2
                have hRj : R[j] = (hnd L own)[j]'(by rw [hnd_len]; exact hjo) := by simp only [HRO.out]
                rw [← hRj] at hat
                have HAT := Lib.hid hat
                have HOW := Lib.hid (HLT.out _ (List.getElem_mem hjo))
                have hb0 := hitW_bd HWK.out own j k
                have hb1 := wAt_bd HWK.out j (k : Int)
                have hb2 : 0 ≤ S2 ∧ S2 ≤ 7000 := by have := HS2.out; omega
                clear hat hRj hb0
                cases he : (L[k] == R[j])
                · have hne : (k : Int) ≠ own[j] := fun e => by
                    have := HAT.out.2 e
                    rw [this] at he
                    simp at he
                  have HS3 : Hid (S2 = S + hitW X own j (k + 1)) := Lib.hid (by rw [hitW_no hjo HOW.out.1 hne]; exact HS2.out)
                  generalize L[k] = lk at *
                  generalize R[j] = rj at *
                  clear hne HAT
                  go_wp2_with fail
                  go_quiet (fail)
                  go_wp2_with fail
                  go_roundw
                  case rel => exact ⟨k + 1, S2, by omega, by go_num, rfl, HS3, Lib.hid (HO.out.drewN _), Lib.hid (below_drewN HB.out _)⟩
                  case measure => simp [intOf]; omega
                · have heq : (k : Int) = own[j] := HAT.out.1 (by simpa using he)
                  obtain ⟨h0, h1⟩ := hitW_yes (X := X) hjo heq
                  have HS3 : Hid (S2 + wAt X j (k : Int) = S + hitW X own j (k + 1)) := Lib.hid (by rw [h1]; have := HS2.out; rw [h0] at this; omega)
                  generalize L[k] = lk at *
                  generalize R[j] = rj at *
                  generalize wAt X j (k : Int) = wv at *
                  clear heq h0 h1 HAT
                  go_wp2_with fail
                  go_quiet (fail)
                  go_wp2_with fail
                  go_roundw
                  case rel => exact ⟨k + 1, S2 + wv, by omega, by go_num, rfl, HS3, Lib.hid (HO.out.drewN _), Lib.hid (below_drewN HB.out _)⟩
                  case measure => simp [intOf]; omega
              · have hki : (L.length : Int) ≤ k := by omega
                obtain rfl : k = L.length := by omega
                have HS3 : Hid (S2 = wS X (own.take (j + 1))) := Lib.hid (by rw [← hitW_all hjo HLT.out, ← HSS.out]; exact HS2.out)
                have HT3 : Hid (T + wAt X j (j : Int) = wS X (iot (j + 1))) := Lib.hid (by rw [iotW, ← HTT.out])
                obtain ⟨ad, Ak, ck, rfl, had, hcw, hAk, hcwk⟩ := (HWO.out wr HB.out).worth HXD.out HROW.out hjX hjL
                have hrsX : rs.length = X.length := by rw [← HXD.out, dat_len]
                have hjrs : (j : Int) < rs.length := by omega
                have hjL2 : (j : Int) < L.length := by omega
                have hb1 := wAt_bd HWK.out j (j : Int)
                generalize wAt X j (j : Int) = wv at *
                obtain ⟨wv1, rfl⟩ : ∃ wu : World, wu = wr := ⟨_, rfl⟩
                go_wp2_with fail
                go_loopw [2, 36] (fun z i wr => ∃ (m : Nat), m ≤ j ∧ z = .bool false ∧ i = .int .i64 m ∧ Hid (Own LI 2 wr w14.heap.size A1 c1 L) ∧ Hid (Below w12.heap.size w12 wr)) (fun _ i _ => j - (intOf i).toNat)
                case atStart => exact ⟨0, by omega, rfl, rfl, HO, HB⟩
                case round =>
                  clear HO HB
                  obtain ⟨m, hm, rfl, rfl, HO, HB⟩ := hrel
                  by_cases hlt3 : m < j
                  · have hmi : (m : Int) < j := by omega
                    have hmR : m < R.length := by omega
                    have hmRi : (m : Int) < R.length := by omega
                    obtain ⟨ar, rfl, har, hcr⟩ := (HRR.out wr HB.out).int hlt
                    obtain ⟨ar2, har2, _, hcr2⟩ := (HRR.out wr HB.out).int hmR
                    cases har2
                    have hne : (R[m] == R[j]) = false := by
                      rw [beq_eq_false_iff_ne]
                      have := hnd_apart HCN.out HLT.out HND.out hlt3 (by rw [hnd_len]; exact hjo)
                      simp only [HRO.out]
                      exact this
                    generalize R[m] = rm at *
                    generalize R[j] = rj at *
                    go_wp2_with fail
                    go_quiet (fail)
                    go_wp2_with fail
                    go_roundw
                    case rel => exact ⟨m + 1, by omega, rfl, by go_num, Lib.hid (HO.out.drewN _), Lib.hid (below_drewN HB.out _)⟩
                    case measure => simp [intOf]; omega
                  · have hmi : (j : Int) ≤ m := by omega
                    go_wp2_with fail
                    go_roundw
                    case rel => exact ⟨j + 1, S2, T + wv, by omega, rfl, by go_num, rfl, rfl, HS3, HT3, HO, HB⟩
                    case measure => simp [intOf]; omega
          · have hji : (R.length : Int) ≤ j := by omega
            have hle : T ≤ S := by
              have h1 := HBEST.out
              have h2 := HOL.out
              rw [HTT.out, HSS.out, show j = X.length by omega, List.take_of_length_le (by omega)]
              exact h1
            go_wp2_with fail
            go_meet
            case rel => exact ⟨rfl, HB.out⟩
  case rest =>
  as_aux_lemma =>
  obtain ⟨rfl, hK⟩ := hcut
  have HB := Lib.hid hK
  clear hK HB14 hb3 HR
  by_cases h1 : pc = 0
  rotate_left
  · have h3 : (pc != 0) = true := by rw [bne_iff_ne]; exact h1
    have HE := Lib.hid (HZ.out wc HB.out).1.1.1.1.1.1.2
    go_wp2_with fail
    go_ret
    exact ⟨rfl, HE.out⟩
  subst h1
  obtain ⟨H, hwb, hHl, hP20, hpar, hsm, hpay⟩ := dp_walk HP.out.symm
  obtain ⟨⟨⟨⟨⟨⟨⟨_, HE0⟩, hx1, hx2⟩, _⟩, hp⟩, _⟩, _⟩, _⟩ := HZ.out wc HB.out
  have hcH := implHoursBy_any B1 d1 xs B2 d2 ws wc hx1 hx2 HOK1.out
  rw [hwb] at hcH
  dsimp only at hcH
  have HHL := Lib.hid hHl
  have HPAR := Lib.hid hpar
  have HSM := Lib.hid hsm
  have HPAY := Lib.hid hpay
  have HPR := Lib.hid hp
  have HEW := Lib.hid HE0
  have hn1 : ((H.length : Int) != (P.length : Int)) = false := by rw [bne_eq_false_iff_eq]; omega
  have hn2 : (H.length != P.length) = false := by rw [bne_eq_false_iff_eq]; omega
  clear hwb hHl hpar hsm hpay hx1 hx2 hp HE0
  go_wp2_with fail
  refine hcH.mono ?_
  rintro e wh ⟨B12, d12, rfl, hoH, hbh⟩
  have HH := Lib.hid hoH
  have HPR2 := Lib.hid ((HPR.out.below hbh).more hbh.size)
  have HEH := Lib.hid (bthen HEW.out (Nat.le_refl _) hbh)
  have hlenH := hoH.len63
  clear hcH hoH hbh HPR HEW
  go_wp2_with fail
  clear hn1 hn2
  go_loopw [2, 39] (fun z i wr => ∃ (k : Nat), k ≤ P.length ∧ z = .bool false ∧ i = .int .i64 k ∧ wh = wr) (fun _ i _ => P.length - (intOf i).toNat)
  case atStart => exact ⟨0, by omega, rfl, rfl, rfl⟩
  case round =>
    obtain ⟨k, hk, rfl, rfl, rfl⟩ := hrel
    by_cases hlt : k < P.length
    · have hki : (k : Int) < P.length := by omega
      have hkH : k < H.length := by have := HHL.out; omega
      have hkHi : (k : Int) < H.length := by omega
      obtain ⟨ar, rfl, har, hcr⟩ := HPR2.out.int hlt
      obtain ⟨ga, rfl, _, _, hcg, _⟩ := HH.out.int hkH
      obtain ⟨p0, p1⟩ := HPAR.out k hlt hkH
      cases he : (H[k] == 0)
      · generalize H[k] = hk0 at *
        generalize P[k] = pk at *
        clear p1
        go_wp2_with fail
        go_roundw
        case rel => exact ⟨k + 1, by omega, rfl, by go_num, trivial⟩
        case measure => simp [intOf]; omega
      · have hz : H[k] = 0 := by simpa using he
        have hz2 := p1 hz
        rw [hz] at hcg
        rw [hz2] at hcr
        clear p0 p1 hz hz2 he
        go_wp2_with fail
        go_roundw
        case rel => exact ⟨k + 1, by omega, rfl, by go_num, trivial⟩
        case measure => simp [intOf]; omega
    · have hki : (P.length : Int) ≤ k := by omega
      have hfs := f6sum_any B4 d4 P _ wh HPR2.out (by
        intro x hx
        obtain ⟨i, hi, rfl⟩ := List.getElem_of_mem hx
        exact (HPAR.out i hi (by have := HHL.out; omega)).1) (by
        have := HSM.out P.length
        rw [List.take_length] at this
        omega)
      rw [HPAY.out] at hfs
      go_wp2_with fail
      refine hfs.mono ?_
      rintro e wf ⟨rfl, rfl⟩
      go_wp2_with fail
      go_ret
      exact ⟨by simp, HEH.out⟩
end Go.Proofs.Ytofcmljnckdknaa
