/-
  PairHands of the reference: the search over all pairs.
-/
import Derived.Test.YtofcmljnckdknaaPairT
namespace Go.Proofs.Ytofcmljnckdknaa
open Go.ChangeShapes Go.WideShapes Go.RowKit

theorem RdR.worth {w : World} {B c : Nat} {A : Option Addr} {rs : List (Row Int)} (h : RdR LI w B A c rs) {n : Nat} {X : List (List Int)} (hd : dat rs = X) (hrow : ∀ r ∈ X, r.length = n) {i k : Nat} (hi : i < X.length) (hk : k < n) :
    ∃ ad Ak ck, A = some ad ∧ ad.block < B ∧ w.cell? (ad.add i) = some (.slice (some Ak) n ck) ∧ Ak.block < B ∧ w.cell? (Ak.add k) = some (.int .i64 (wAt X i (k : Int))) := by
  have hl : rs.length = X.length := by rw [← dat_len, hd]
  obtain ⟨ad, rfl, hab, hc, hr⟩ := h.at_ (i := i) (by omega)
  have e : rs[i].2.2 = X[i] := by
    rw [← dat_get rs i (by omega)]
    simp only [hd]
  have e2 : rs[i].2.2.length = n := by rw [e]; exact hrow _ (List.getElem_mem hi)
  obtain ⟨Ak, hA, hkb, hb⟩ := hr.int (k := k) (by omega)
  refine ⟨ad, Ak, rs[i].2.1, rfl, hab, ?_, hkb, ?_⟩
  · rw [hc, hA, e2]
  · rw [hb]
    congr 2
    unfold wAt
    simp only [e, List.getD, Int.toNat_natCast]
    have hk2 : k < X[i].length := by rw [e] at e2; omega
    simp [hi, hk2]

set_option maxRecDepth 100000 in
set_option maxHeartbeats 6400000 in
theorem pwalk_any (X : List (List Int)) (hX : WkX X) (base g : Nat) (A : Option Addr) (c : Nat) (rs : List (Row Int)) (hd : dat rs = X) (cN : Nat) (hrow : ∀ r ∈ X, r.length = cN) (hc6 : cN ≤ 6) (hX6 : X.length ≤ 6) (m : Nat) :
    ∀ (w : World) (sum : Int) (Au : Option Addr) (cu : Nat) (U : List Bool) (Al : Option Addr) (cl : Nat) (l : List Int) (Ab : Option Addr) (cb : Nat) (best : List Int) (most : Int), l.length + m = X.length → U.length = cN → (∀ k, k < cN → U[k]? = some (l.contains (k : Int))) → LtL cN l → sum = wS X l → -1 ≤ most → most ≤ 6000 →
      PS w base g A c rs cN Au cu U Al cl l Ab cb best most →
      Calls Try.prog 53 #[.pointer (some ⟨g, 0, none⟩), .int .i64 sum] w fun e w' => e = .returned (.tuple #[]) ∧ ∃ Al' cl' Ab' cb', PS w' base g A c rs cN Au cu U Al' cl' l Ab' cb' ((injs cN m l).foldl (stp X) (best, most)).1 ((injs cN m l).foldl (stp X) (best, most)).2 ∧ Below base w w' := by
  have HX := Lib.hid hX
  have HRW := Lib.hid hrow
  have HD := Lib.hid hd
  have hrs : rs.length = X.length := by rw [← dat_len, hd]
  have hr1 : X.length ≤ rs.length := by omega
  have hr2 : rs.length ≤ X.length := by omega
  clear hX hrow hd hrs
  induction m with
  | zero =>
    intro w sum Au cu U Al cl l Ab cb best most hm hU hUC hLt hs hmo0 hmo1 hT
    have k0 := hT.c0
    have k3 := hT.c3
    have k5 := hT.c5
    have hf5 := hT.f5
    have hg1 := hT.g1
    have hl6 : l.length ≤ 6 := by omega
    have hz : ((l.length : Int) == (rs.length : Int)) = true := by rw [beq_iff_eq]; omega
    have hzn : (l.length == rs.length) = true := by rw [beq_iff_eq]; omega
    have hwb := wS_bd HX.out l
    rw [← hs] at hwb
    obtain ⟨s0, s1⟩ := hwb
    have HS := Lib.hid hs
    have HT := Lib.hid hT
    have hnil : Al = none → cl = 0 := Own.nil0 hT.ol
    have HNIL := Lib.hid hnil
    clear hT hs hnil hUC hU hm
    by_cases hgt : most < sum
    · have HR : Hid ((injs cN 0 l).foldl (stp X) (best, most) = (l, sum)) := Lib.hid (by rw [injs_zero]; simp only [List.foldl_cons, List.foldl_nil]; rw [stp_yes (by rw [← HS.out]; exact hgt), HS.out])
      rw [HR.out]
      have hT2 := HT.out.setMost sum
      have hown := l00Own_any Al cl l (w.setCell ⟨g, 5, none⟩ (.int .i64 sum)).heap.size (w.setCell ⟨g, 5, none⟩ (.int .i64 sum)) hT2.ol.rd (Nat.le_refl _) (by omega) HNIL.out
      have z3 := hT2.c3
      have HT2 := Lib.hid hT2
      clear hT2
      go_enter Try.func53, Try.ntmps53
      go_wp2_with fail
      refine hown.mono ?_
      rintro e w2 ⟨A2, c2, rfl, ho2, hb2⟩
      have hT3 := HT2.out.setBest hb2 ho2
      have q4 := (HT2.out.below hb2).c4
      have qf4 := (HT2.out.below hb2).f4
      have hg2 := (HT2.out.below hb2).g1
      have HT3 := Lib.hid hT3
      have HB3 := Lib.hid (((Below.refl base w).setCell (p := ⟨g, 5, none⟩) HT.out.g0 (.int .i64 sum)).trans (hb2.mono HT2.out.base_le))
      clear hT3 hb2 ho2 hown
      go_wp2_with fail
      refine bodyPost_ret (v := .tuple #[]) (by simp [results, Try.results53, go_sem]) rfl ⟨rfl, Al, cl, A2, c2, HT3.out, HB3.out.setCell (p := ⟨g, 4, none⟩) HT.out.g0 _⟩
    · have hle : sum ≤ most := by omega
      have HR : Hid ((injs cN 0 l).foldl (stp X) (best, most) = (best, most)) := Lib.hid (by rw [injs_zero]; simp only [List.foldl_cons, List.foldl_nil]; rw [stp_no (by rw [← HS.out]; exact hle)])
      rw [HR.out]
      go_enter Try.func53, Try.ntmps53
      go_wp2_with fail
      refine bodyPost_ret (v := .tuple #[]) (by simp [results, Try.results53, go_sem]) rfl ⟨rfl, ⟨Al, cl, Ab, cb, HT.out⟩, Below.refl _ _⟩
  | succ m ih =>
    intro w sum Au cu U Al cl l Ab cb best most hm hU hUC hLt hs hmo0 hmo1 hT
    have k0 := hT.c0
    have k3 := hT.c3
    have hg1 := hT.g1
    have hl6 : l.length < X.length := by omega
    have hz : ((l.length : Int) == (rs.length : Int)) = false := by rw [beq_eq_false_iff_ne]; omega
    have hzn : (l.length == rs.length) = false := by rw [beq_eq_false_iff_ne]; omega
    obtain ⟨s0, s1⟩ := wS_bd HX.out l
    rw [← hs] at s0 s1
    have HS := Lib.hid hs
    have HT := Lib.hid hT
    have HU := Lib.hid hU
    have HUC := Lib.hid hUC
    have HLT := Lib.hid hLt
    have HIH := Lib.hid ih
    have HM := Lib.hid hm
    obtain ⟨FST, hFST⟩ : ∃ F, F = (injs cN (m + 1) l).foldl (stp X) (best, most) := ⟨_, rfl⟩
    rw [← hFST]
    have HF : Hid (FST = (injK cN m l cN).foldl (stp X) (best, most)) := Lib.hid (by rw [hFST, injs_succ])
    clear hT hs hU hUC hLt ih hm hFST
    go_enter Try.func53, Try.ntmps53
    go_wp2_with fail
    go_loopw [5] (fun j wr => ∃ (k : Nat) (Al1 : Option Addr) (cl1 : Nat) (Ab1 : Option Addr) (cb1 : Nat) (st : List Int × Int), k ≤ cN ∧ j = .int .i64 k ∧ -1 ≤ st.2 ∧ st.2 ≤ 6000 ∧ Hid (st = (injK cN m l k).foldl (stp X) (best, most)) ∧ Hid (PS wr base g A c rs cN Au cu U Al1 cl1 l Ab1 cb1 st.1 st.2) ∧ Hid (Below base w wr)) (fun j _ => cN - (intOf j).toNat)
    case atStart => exact ⟨0, Al, cl, Ab, cb, (best, most), by omega, rfl, hmo0, hmo1, Lib.hid rfl, HT, Lib.hid (Below.refl _ _)⟩
    case round =>
      clear k0 k3 hg1
      obtain ⟨k, Al1, cl1, Ab1, cb1, st, hk, rfl, ht0, ht1, HFS, HT1, HB⟩ := hrel
      have k1 := HT1.out.c1
      have k2 := HT1.out.c2
      have hg1 := HT1.out.g1
      by_cases hlt : k < cN
      · have hki : (k : Int) < cN := by omega
        have hkU : k < U.length := by rw [HU.out]; exact hlt
        have hkUi : (k : Int) < U.length := by omega
        obtain ⟨gu, hA, hgu1, hgu2, hcu, hfu⟩ := HT1.out.ou.bool hkU
        subst hA
        have hgg : g ≠ gu := fun e => HT1.out.gu (by rw [e]; rfl)
        have HUK : Hid (U[k] = l.contains (k : Int)) := Lib.hid (by
          have h := HUC.out k hlt
          rw [List.getElem?_eq_getElem hkU] at h
          exact Option.some.inj h)
        rw [HUK.out] at hcu
        cases hcon : l.contains (k : Int)
        · rw [hcon] at hcu
          have HN : Hid (l.contains (k : Int) = false) := Lib.hid hcon
          have HUF : Hid (U[k] = false) := Lib.hid (by rw [HUK.out]; exact hcon)
          clear hcon
          have hT2 := HT1.out.setU k true
          have HB2 := Lib.hid (HB.out.setCell (p := ⟨gu, k, none⟩) (by exact hgu1) (.bool true))
          have HT2 := Lib.hid hT2
          clear hT2
          have k3 := HT1.out.c3
          obtain ⟨ad, Ak, ck, hAA, hab, ha1, hakb, ha2⟩ := HT2.out.rm.worth HD.out HRW.out (i := l.length) hl6 hlt
          subst hAA
          have hbl := HT2.out.base_le
          have hlr : l.length < rs.length := by omega
          have hlri : (l.length : Int) < rs.length := by omega
          obtain ⟨x0, x1⟩ := wAt_bd HX.out l.length (k : Int)
          have HWS := Lib.hid (wS_snoc X l (k : Int))
          rw [← HS.out] at HWS
          generalize wAt X l.length (k : Int) = x at *
          have hwr : IntKind.i64.wrap (sum + x) = sum + x := wrapS (by omega) (by omega)
          have how := HT2.out.ol
          have y3 := HT2.out.c3
          have hg2 := HT2.out.g1
          have hnad : (ad.add l.length).block ≠ g := by have := HT2.out.g0; rw [block_of_add]; omega
          have hnak : (Ak.add k).block ≠ g := by have := HT2.out.g0; rw [block_of_add]; omega
          have hlad : (ad.add l.length).block < (wr.setCell ⟨gu, k, none⟩ (.bool true)).heap.size := by rw [block_of_add]; omega
          have hlak : (Ak.add k).block < (wr.setCell ⟨gu, k, none⟩ (.bool true)).heap.size := by rw [block_of_add]; omega
          have hlo := HT2.out.ol.blk_lt
          have hAd : blk Al1 ≠ some (ad.add l.length).block := fun e => by have := (hlo _ e).1; rw [block_of_add] at this; omega
          have hAk : blk Al1 ≠ some (Ak.add k).block := fun e => by have := (hlo _ e).1; rw [block_of_add] at this; omega
          have HLO := Lib.hid hlo
          clear hlo
          go_wp2_with (at_builtin; go_loud (refine wpL_app1 (L := LI) rowI rfl rfl _ _ rfl rfl how (k : Int) _ rfl rfl (by simp) (by unfold maxLen; omega) (by omega) (by omega) ?_); intro A5 c5 w5 ho5 hg5; have q3 := (hg5.cell ⟨g, 3, none⟩ HT2.out.g1 HT2.out.gl).trans HT2.out.c3; have r3 := (hg5.frozen ⟨g, 3, none⟩ HT2.out.g1 HT2.out.gl).trans HT2.out.f3; have q0 := (hg5.cell ⟨g, 0, none⟩ HT2.out.g1 HT2.out.gl).trans HT2.out.c0; have qa := (World.cell?_setCell_other w5 ⟨g, 3, none⟩ (ad.add l.length) (.slice A5 (l.length + 1) c5) (fun e => hnad (by first | rw [e] | rw [← e]))).trans ((hg5.cell (ad.add l.length) hlad hAd).trans ha1); have qb := (World.cell?_setCell_other w5 ⟨g, 3, none⟩ (Ak.add k) (.slice A5 (l.length + 1) c5) (fun e => hnak (by first | rw [e] | rw [← e]))).trans ((hg5.cell (Ak.add k) hlak hAk).trans ha2))
          have hT3 := HT2.out.growL ho5 hg5
          rw [show (l ++ [(k : Int)]).length = l.length + 1 by simp] at hT3
          have hb3 : Below base w (w5.setCell ⟨g, 3, none⟩ (.slice A5 (l.length + 1) c5)) := (Grew.below HB2.out hg5 hbl (fun g' e => (HLO.out g' e).1)).setCell (p := ⟨g, 3, none⟩) HT2.out.g0 _
          clear q3 r3 q0 qa qb y3 ho5 hg5 how hg2
          generalize w5.setCell ⟨g, 3, none⟩ (.slice A5 (l.length + 1) c5) = w6 at *
          have hcall := HIH.out w6 (sum + x) (some ⟨gu, 0, none⟩) cu (U.set k true) A5 c5 (l ++ [(k : Int)]) Ab1 cb1 st.1 st.2 (by have := HM.out; simp; omega) (by rw [List.length_set]; exact HU.out) (fun j hj => by
            by_cases e : j = k
            · subst e
              rw [List.getElem?_set_self (by omega)]
              simp
            · rw [List.getElem?_set_ne (by omega), HUC.out j hj]
              congr 1
              have : ¬ (j : Int) = (k : Int) := by omega
              simp [this]) (HLT.out.snoc hlt) HWS.out.symm ht0 ht1 hT3
          clear hT3 HT2
          refine hcall.mono ?_
          rintro e w7 ⟨rfl, Al7, cl7, Ab7, cb7, hT7, hb7⟩
          clear hcall
          have HST : Hid ((injs cN m (l ++ [(k : Int)])).foldl (stp X) (st.1, st.2) = (injK cN m l (k + 1)).foldl (stp X) (best, most)) := Lib.hid (by
            rw [injK_no HN.out, List.foldl_append, ← HFS.out])
          have hbd := fold_lo HX.out (B := 6) (injs cN m (l ++ [(k : Int)])) (fun l2 h2 => by
            have h3 := (injs_all cN m _ (HLT.out.snoc hlt) l2 h2).1
            have := HM.out
            simp at h3
            omega) (st.1, st.2) ht0 (by omega)
          generalize (injs cN m (l ++ [(k : Int)])).foldl (stp X) (st.1, st.2) = st7 at *
          obtain ⟨hst0, hst1⟩ := hbd
          have y3 := hT7.c3
          have s3 := hT7.f3
          have hcap := hT7.ol.le
          have hg7 := hT7.g1
          rw [show (l ++ [(k : Int)]).length = l.length + 1 by simp] at y3 hcap
          have hcap0 : (l.length : Int) ≤ cl7 := by omega
          have hcap1 : l.length ≤ cl7 := by omega
          have hT8 := hT7.takeL (n := l.length) (by simp)
          rw [show (l ++ [(k : Int)]).take l.length = l by simp] at hT8
          have hb8 : Below base w (w7.setCell ⟨g, 3, none⟩ (.slice Al7 l.length cl7)) := (hb3.trans hb7).setCell (p := ⟨g, 3, none⟩) hT7.g0 _
          have HT8 := Lib.hid hT8
          have HB8 := Lib.hid hb8
          have z2 := hT8.c2
          rw [List.length_set] at z2
          obtain ⟨gu8, hA8, hgu8, hgl8, hcv8, hfv8⟩ := hT8.ou.bool (k := k) (by simpa using hkU)
          cases hA8
          have hgz8 := hT8.g1
          have hsz8 : g < w7.heap.size := hg7
          clear hT7 hb3 hb7 hT8 hb8
          go_wp2_with fail
          go_roundw
          case rel =>
            have hT9 := HT8.out.setU k false
            have e : (U.set k true).set k false = U := by
              rw [List.set_set]
              conv => lhs; rw [← HUF.out]
              exact List.set_getElem_self _
            rw [e] at hT9
            exact ⟨k + 1, Al7, cl7, Ab7, cb7, st7, by omega, by go_num, hst0, hst1, HST, Lib.hid hT9, Lib.hid (HB8.out.setCell (p := ⟨gu, k, none⟩) (by exact hgu1) _)⟩
          case measure => simp [intOf]; omega
        · rw [hcon] at hcu
          have HN : Hid (injK cN m l (k + 1) = injK cN m l k) := Lib.hid (injK_yes hcon)
          clear hcon
          go_wp2_with fail
          go_roundw
          case rel => exact ⟨k + 1, Al1, cl1, Ab1, cb1, st, by omega, by go_num, ht0, ht1, Lib.hid (by rw [HN.out]; exact HFS.out), HT1, HB⟩
          case measure => simp [intOf]; omega
      · obtain rfl : k = cN := by omega
        have HE : Hid (FST = st) := Lib.hid (by rw [HF.out, HFS.out])
        go_wp2_with fail
        refine bodyPost_end (v := .tuple #[]) (by simp [results, Try.results53, go_sem]) rfl ⟨rfl, Al1, cl1, Ab1, cb1, by rw [HE.out]; exact HT1.out, HB.out⟩
end Go.Proofs.Ytofcmljnckdknaa
