/-
  PairHands of the program: the recursion and the whole.
-/
import Derived.Test.YtofcmljnckdknaaPairI
import Derived.Deep.RegionHeld3
namespace Go.Proofs.Ytofcmljnckdknaa
open Go.ChangeShapes Go.WideShapes Go.RowKit

set_option maxRecDepth 100000 in
set_option maxHeartbeats 6400000 in
theorem pairings_any (X : List (List Int)) (hX : WkX X) (b1 b2 b3 b4 : Nat) (A : Option Addr) (c : Nat) (rs : List (Row Int)) (hd : dat rs = X) (Ac : Option Addr) (cc : Nat) (cs : List Int) (hrow : ∀ r ∈ X, r.length = cs.length) (hX6 : X.length ≤ 6) (hc6 : cs.length ≤ 6) (m : Nat) :
    ∀ (w : World) (A5 : Option Addr) (c5 : Nat) (dn : List Int) (Ab : Option Addr) (cb : Nat) (st : List Int × Int), dn.length + m = X.length → LtL cs.length dn → Rd LI w w.heap.size A5 c5 dn → (∀ ad, A5 = some ad → ad.block ≠ b3 ∧ ad.block ≠ b4) → PI w b1 b2 b3 b4 A c rs Ac cc cs Ab cb (hnd cs st.1) st.2 →
      Calls Try.prog 60 #[.int .i64 X.length, .int .i64 cs.length, .slice A5 dn.length c5, .func (.func 61) #[] #[.pointer (some ⟨b1, 0, none⟩), .pointer (some ⟨b2, 0, none⟩), .pointer (some ⟨b3, 0, none⟩), .pointer (some ⟨b4, 0, none⟩)]] w
        fun e w' => e = .returned (.tuple #[]) ∧ ∃ Ab' cb', PI w' b1 b2 b3 b4 A c rs Ac cc cs Ab' cb' (hnd cs ((injs cs.length m dn).foldl (stp X) st).1) ((injs cs.length m dn).foldl (stp X) st).2 ∧ Fr b3 b4 w w' := by
  have HX := Lib.hid hX
  have HD := Lib.hid hd
  have HRW := Lib.hid hrow
  have eg := eg_PH2
  clear hX hd hrow
  induction m with
  | zero =>
    intro w A5 c5 dn Ab cb st hm hLt hr hn hT
    have hz : ((dn.length : Int) == (X.length : Int)) = true := by rw [beq_iff_eq]; omega
    have hzn : (dn.length == X.length) = true := by rw [beq_iff_eq]; omega
    have hcall := PH2_any X HX.out b1 b2 b3 b4 A c rs HD.out Ac cc cs HRW.out hX6 w A5 c5 dn hr (by omega) hLt Ab cb st hT
    have hlen := hr.len63
    obtain ⟨st2, hst2⟩ : ∃ s, s = (injs cs.length 0 dn).foldl (stp X) st := ⟨_, rfl⟩
    rw [← hst2]
    have hst3 : stp X st dn = st2 := by rw [hst2]; rfl
    rw [hst3] at hcall
    clear hst2 hst3 hm hLt hT hn
    go_enter Try.func60, Try.ntmps60
    go_wp2_with fail
    refine hcall.mono ?_
    rintro e w2 ⟨rfl, Ab2, cb2, hT2, hF2⟩
    have HT2 := Lib.hid hT2
    have HF2 := Lib.hid hF2
    clear hT2 hF2 hcall
    go_wp2_with fail
    refine bodyPost_ret (v := .tuple #[]) (by simp [results, Try.results60, go_sem]) rfl ⟨rfl, Ab2, cb2, HT2.out, HF2.out⟩
  | succ m ih =>
    intro w A5 c5 dn Ab cb st hm hLt hr hn hT
    have hz : ((dn.length : Int) == (X.length : Int)) = false := by rw [beq_eq_false_iff_ne]; omega
    have hzn : (dn.length == X.length) = false := by rw [beq_eq_false_iff_ne]; omega
    have hlen := hr.len63
    have hd6 : dn.length ≤ 6 := by omega
    have HM := Lib.hid hm
    have HLT := Lib.hid hLt
    have HR := Lib.hid hr
    have HN := Lib.hid hn
    have HT := Lib.hid hT
    have HIH := Lib.hid ih
    obtain ⟨FST, hFST⟩ : ∃ F, F = (injs cs.length (m + 1) dn).foldl (stp X) st := ⟨_, rfl⟩
    rw [← hFST]
    have HF : Hid (FST = (injK cs.length m dn cs.length).foldl (stp X) st) := Lib.hid (by rw [hFST, injs_succ])
    clear hm hLt hr hn hT ih hFST
    go_enter Try.func60, Try.ntmps60
    go_wp2_with fail
    go_loopw [17] (fun j wr => ∃ (k : Nat) (Ab1 : Option Addr) (cb1 : Nat) (s1 : List Int × Int), k ≤ cs.length ∧ j = .int .i64 k ∧ Hid (s1 = (injK cs.length m dn k).foldl (stp X) st) ∧ Hid (PI wr b1 b2 b3 b4 A c rs Ac cc cs Ab1 cb1 (hnd cs s1.1) s1.2) ∧ Hid (Fr b3 b4 w wr)) (fun j _ => cs.length - (intOf j).toNat)
    case atStart => exact ⟨0, Ab, cb, st, by omega, rfl, Lib.hid rfl, HT, Lib.hid (Fr.refl _ _ _)⟩
    case round =>
      obtain ⟨k, Ab1, cb1, s1, hk, rfl, HS, HT1, HF1⟩ := hrel
      have hszF := HF1.out.size
      by_cases hlt : k < cs.length
      · have hki : (k : Int) < cs.length := by omega
        have hrd := HF1.out.rd HR.out HN.out
        have hcon := containsN_any A5 c5 dn (k : Int) _ wr hrd
        have HRD := Lib.hid hrd
        clear hrd
        cases hcb : dn.contains (k : Int)
        · rw [hcb] at hcon
          have HCB : Hid (dn.contains (k : Int) = false) := Lib.hid hcb
          clear hcb
          go_wp2_with fail
          refine hcon.mono ?_
          rintro e w2 ⟨rfl, hd2⟩
          have hb2 : Below wr.heap.size wr w2 := hd2.below
          have hs2 := hb2.size
          have HRD2 := Lib.hid ((HRD.out.below hb2).more hs2)
          have HT2 := Lib.hid (HT1.out.below hb2)
          have HF2 := Lib.hid (HF1.out.trans (Fr.of_below hb2))
          have hcl := cloneN_any A5 c5 dn w2.heap.size w2 HRD2.out (Nat.le_refl _) (by omega)
          clear hcon hd2 hb2
          go_wp2_with fail
          refine hcl.mono ?_
          rintro e w3 ⟨A3, c3, rfl, ho3, hb3⟩
          have hs3 := hb3.size
          have HT3 := Lib.hid (HT2.out.below hb3)
          have HF3 := Lib.hid (HF2.out.trans (Fr.of_below hb3))
          have HO3 := Lib.hid ho3
          have HB3 := Lib.hid hb3
          clear ho3 hcl hb3
          go_wp2_with (at_builtin; go_loud (refine wpL_app1 (L := LI) rowN rfl rfl _ _ rfl rfl HO3.out (k : Int) _ rfl rfl (by simp) (by unfold maxLen; omega) (by omega) (by omega) ?_); intro A4 c4 w4 ho4 hg4)
          have hb4 : Below w2.heap.size w2 w4 := Grew.below HB3.out hg4 hs3 (fun g e => (HO3.out.blk_lt g e).1)
          have hT4 := HT2.out.below hb4
          have hF4 := HF2.out.trans (Fr.of_below hb4)
          have hcall := HIH.out w4 A4 c4 (dn ++ [(k : Int)]) Ab1 cb1 s1 (by have := HM.out; simp; omega) (HLT.out.snoc hlt) ho4.rd (fun ad e => by
            have h1 := (ho4.blk_lt ad.block (by rw [e]; rfl)).1
            have h2 := HT2.out.l3
            have h3 := HT2.out.l4
            omega) hT4
          rw [show (dn ++ [(k : Int)]).length = dn.length + 1 by simp] at hcall
          have HF4 := Lib.hid hF4
          clear hb4 hT4 hF4 ho4 hg4
          refine hcall.mono ?_
          rintro e w7 ⟨rfl, Ab7, cb7, hT7, hF7⟩
          have HST : Hid ((injs cs.length m (dn ++ [(k : Int)])).foldl (stp X) s1 = (injK cs.length m dn (k + 1)).foldl (stp X) st) := Lib.hid (by
            rw [injK_no HCB.out, List.foldl_append, ← HS.out])
          have HT7 := Lib.hid hT7
          have HF7 := Lib.hid (HF4.out.trans hF7)
          clear hT7 hF7 hcall
          go_wp2_with fail
          go_roundw
          case rel => exact ⟨k + 1, Ab7, cb7, _, by omega, by go_num, HST, HT7, HF7⟩
          case measure => simp [intOf]; omega
        · rw [hcb] at hcon
          have HNX : Hid (injK cs.length m dn (k + 1) = injK cs.length m dn k) := Lib.hid (injK_yes hcb)
          clear hcb
          go_wp2_with fail
          refine hcon.mono ?_
          rintro e w2 ⟨rfl, hd2⟩
          have hb2 : Below wr.heap.size wr w2 := hd2.below
          have HT2 := Lib.hid (HT1.out.below hb2)
          have HF2 := Lib.hid (HF1.out.trans (Fr.of_below hb2))
          clear hcon hd2 hb2
          go_wp2_with fail
          go_roundw
          case rel => exact ⟨k + 1, Ab1, cb1, s1, by omega, by go_num, Lib.hid (by rw [HNX.out]; exact HS.out), HT2, HF2⟩
          case measure => simp [intOf]; omega
      · obtain rfl : k = cs.length := by omega
        have HE : Hid (FST = s1) := Lib.hid (by rw [HF.out, HS.out])
        go_wp2_with fail
        refine bodyPost_end (v := .tuple #[]) (by simp [results, Try.results60, go_sem]) rfl ⟨rfl, Ab1, cb1, by rw [HE.out]; exact HT1.out, HF1.out⟩

/-- the answer -/
def lyL (xs : List HandD) (b : Bool) : List Int := layT xs b xs.length
def prP (xs : List HandD) (X : List (List Int)) : List Int × Int :=
  if gangB xs = true then
    (if (X.length = (lyL xs true).length ∧ X.any (rwB (lyL xs false).length) = false) then
      (if (lyL xs false).length < (lyL xs true).length then ([], 6) else
        if 6 < (lyL xs false).length then ([], 5) else
          (hnd (lyL xs false) ((injs (lyL xs false).length X.length []).foldl (stp X) ([], -1)).1, 0))
      else ([], 2))
    else ([], 1)
theorem lyL_len (xs : List HandD) (b : Bool) : (lyL xs b).length ≤ xs.length := layT_len xs b xs.length
theorem rwB_no {n : Nat} {X : List (List Int)} (h : X.any (rwB n) = false) : (∀ r ∈ X, r.length = n) ∧ WkX X := by
  have h1 := List.any_eq_false.1 h
  refine ⟨fun r hr => ?_, fun r hr v hv => ?_⟩
  · have := h1 r hr
    unfold rwB at this
    by_cases e : r.length = n
    · exact e
    · simp [e] at this
  · have := h1 r hr
    unfold rwB at this
    simp only [Bool.or_eq_true, not_or, Bool.not_eq_true] at this
    exact outB_no this.2 v hv
theorem prP_len (xs : List HandD) (X : List (List Int)) : (prP xs X).1.length ≤ 1048576 := by
  unfold prP
  split
  · rename_i hg
    split
    · rename_i h2
      split
      · simp
      · split
        · simp
        · rename_i h3 h4
          rw [hnd_len]
          have hk := fold_keep (fun l => l.length ≤ 6) X (injs (lyL xs false).length X.length []) (fun l hl => by
            have := (injs_all (lyL xs false).length X.length [] (LtL.nil _) l hl).1
            simp at this
            omega) ([], -1) (by simp)
          have h5 : ((injs (lyL xs false).length X.length []).foldl (stp X) ([], -1)).1.length ≤ 6 := hk
          omega
    · simp
  · simp
theorem any_dat (rs : List (Row Int)) (p : List Int → Bool) : rs.any (fun r => p r.2.2) = (dat rs).any p := by
  unfold dat
  rw [List.any_map]
  rfl

set_option maxRecDepth 100000 in
set_option maxHeartbeats 6400000 in
theorem implPairHands_any (A : Option Addr) (c : Nat) (xs : List HandD) (A2 : Option Addr) (c2 : Nat) (rs : List (Row Int)) (w : World) (hr : Rd LHand w w.heap.size A c xs) (hr2 : RdR LI w w.heap.size A2 c2 rs) (hok : ∀ n ∈ xs, OkHand n) :
    Calls Try.prog 22 #[.slice A xs.length c, .slice A2 rs.length c2] w fun e w' => ∃ B d, e = .returned (.tuple #[.slice B (prP xs (dat rs)).1.length d, .int .i64 (prP xs (dat rs)).2]) ∧ Own LI 2 w' w.heap.size B d (prP xs (dat rs)).1 ∧ Below w.heap.size w w' := by
  have hlen := hr.len63
  have hlen2 := hr2.len63
  have hs0 : w.heap.size < (w.alloc (.cells #[.slice A2 rs.length c2] 40)).heap.size := by simp
  have hcv := implValidGang_any A c xs (w.alloc (.cells #[.slice A2 rs.length c2] 40)) (hr.al _) hok
  obtain ⟨FIN, hFIN⟩ : ∃ F, F = prP xs (dat rs) := ⟨_, rfl⟩
  rw [← hFIN]
  cases hg : gangB xs
  · have HP : Hid (FIN = ([], 1)) := Lib.hid (by rw [hFIN]; unfold prP; rw [hg]; rfl)
    rw [hg] at hcv
    clear hFIN hg
    rw [HP.out]
    go_enter Try.func22, Try.ntmps22
    go_wp2_with fail
    refine hcv.mono ?_
    rintro e w1 ⟨rfl, hb1⟩
    have HB1 : Hid (Below w.heap.size w w1) := Lib.hid (((Below.refl _ w).alloc (Nat.le_refl _) _).trans (hb1.mono (by simp)))
    clear hb1
    go_wp2_with fail
    go_ret2
    exact ⟨none, 0, rfl, Own.none_, HB1.out⟩
  have Hg := Lib.hid hg
  have hx20 := gang_len hg
  rw [hg] at hcv
  have HV : Hid (FIN = if (rs.length = (lyL xs true).length ∧ (dat rs).any (rwB (lyL xs false).length) = false) then
      (if (lyL xs false).length < (lyL xs true).length then ([], 6) else
        if 6 < (lyL xs false).length then ([], 5) else
          (hnd (lyL xs false) ((injs (lyL xs false).length rs.length []).foldl (stp (dat rs)) ([], -1)).1, 0))
      else ([], 2)) := Lib.hid (by rw [hFIN]; unfold prP; rw [hg, dat_len]; rfl)
  clear hFIN hg
  have hll1 := lyL_len xs true
  have hll2 := lyL_len xs false
  have hLO : Hid (∀ W : World, Rd LHand W W.heap.size A c xs → Calls Try.prog 56 #[.slice A xs.length c] W fun e w' => ∃ A1 c1 A3 c3, e = .returned (.tuple #[.slice A1 (lyL xs true).length c1, .slice A3 (lyL xs false).length c3]) ∧ Own LI 2 w' W.heap.size A1 c1 (lyL xs true) ∧ Own LI 2 w' W.heap.size A3 c3 (lyL xs false) ∧ Below W.heap.size W w') := Lib.hid (fun W h => (layersOf_any A c xs W.heap.size W (Nat.le_refl _) h hx20).mono (by
    rintro e w' ⟨a1, k1, a2, k2, he, h1, h2, _, h4⟩
    exact ⟨a1, k1, a2, k2, he, h1, h2, h4⟩))
  generalize lyL xs true = LA at *
  generalize lyL xs false = CA at *
  go_enter Try.func22, Try.ntmps22
  go_wp2_with fail
  refine hcv.mono ?_
  rintro e w1 ⟨rfl, hb1⟩
  have hs1 := hb1.size
  simp at hs1
  have HB1 : Hid (Below w.heap.size w w1) := Lib.hid (((Below.refl _ w).alloc (Nat.le_refl _) _).trans (hb1.mono (by simp)))
  have hk1 : w1.cell? ⟨w.heap.size, 0, none⟩ = some (.slice A2 rs.length c2) := by rw [hb1.cell (by simp)]; go_simp
  have hcl := hLO.out w1 ((hr.below HB1.out).more HB1.out.size)
  clear hcv hb1
  go_wp2_with fail
  refine hcl.mono ?_
  rintro e w2 ⟨A3, c3, A4, c4, rfl, ho3, ho4, hb2⟩
  have hs2 := hb2.size
  have HB2 := Lib.hid (bthen HB1.out (Nat.le_refl _) hb2)
  have hk2 : w2.cell? ⟨w.heap.size, 0, none⟩ = some (.slice A2 rs.length c2) := by rw [hb2.cell (by show w.heap.size < _; omega)]; exact hk1
  have HO4 := Lib.hid ho4.rd
  have hcap4 := ho4.len63
  have hcap3 := ho3.len63
  have hb1s : w.heap.size < w2.heap.size := by omega
  clear hcl hb2 ho3 ho4 hk1
  by_cases hl : rs.length = LA.length
  rotate_left
  · have HP : Hid (FIN = ([], 2)) := Lib.hid (by rw [HV.out, if_neg (fun h => hl h.1)])
    have z1 : ((rs.length : Int) != (LA.length : Int)) = true := by rw [bne_iff_ne]; omega
    have z2 : (rs.length != LA.length) = true := by rw [bne_iff_ne]; exact hl
    clear hl
    go_wp2_with fail
    go_ret2
    exact ⟨none, 0, by rw [HP.out]; rfl, by rw [HP.out]; exact Own.none_, HB2.out.alloc HB2.out.size _⟩
  have z1 : ((rs.length : Int) != (LA.length : Int)) = false := by rw [bne_eq_false_iff_eq]; omega
  have z2 : (rs.length != LA.length) = false := by rw [bne_eq_false_iff_eq]; exact hl
  have HL := Lib.hid hl
  have hrW : RdR LI (w2.alloc (.cells #[.slice A4 CA.length c4] 26)) (w2.heap.size + 1) A2 c2 rs := by
    have h := hr2.below (HB2.out.alloc HB2.out.size (.cells #[.slice A4 CA.length c4] 26))
    exact h.more (by omega)
  have hcn := containsR_any A2 c2 rs 58 #[.pointer (some ⟨w2.heap.size, 0, none⟩)] (rwB CA.length) (w2.heap.size + 1) (w2.alloc (.cells #[.slice A4 CA.length c4] 26)) (by simp) hrW ⟨eg_PH1, fun r hrr W hW => by
    have h1 := (hrW.below hW).inn r hrr
    have h2 := hW.size
    simp at h2
    refine PH1_any r.1 r.2.1 r.2.2 w2.heap.size A4 CA.length c4 W (h1.more (by omega)) hcap4 ?_
    rw [hW.cell (by show w2.heap.size < _; omega)]
    go_simp⟩
  rw [any_dat] at hcn
  clear hl
  go_wp2_with fail
  refine hcn.mono ?_
  rintro e w4 ⟨rfl, hb4⟩
  have hs4 := hb4.size
  simp at hs4
  have HB4 := Lib.hid ((HB2.out.alloc HB2.out.size (.cells #[.slice A4 CA.length c4] 26)).trans (hb4.mono (by omega)))
  have hk4 : w4.cell? ⟨w.heap.size, 0, none⟩ = some (.slice A2 rs.length c2) := by rw [hb4.cell (by show w.heap.size < _; omega), World.cell?_alloc_lt _ _ _ (by exact hb1s)]; exact hk2
  have hk5 : w4.cell? ⟨w2.heap.size, 0, none⟩ = some (.slice A4 CA.length c4) := by rw [hb4.cell (by show w2.heap.size < _; omega)]; go_simp
  have HR4 := Lib.hid (((HO4.out.alloc (Nat.le_refl _) (.cells #[.slice A4 CA.length c4] 26)).below (hb4.mono (by omega))))
  have hs5 : w2.heap.size < w4.heap.size := by omega
  have HV2 : Hid (FIN = if (dat rs).any (rwB CA.length) = false then
      (if CA.length < LA.length then ([], 6) else
        if 6 < CA.length then ([], 5) else
          (hnd CA ((injs CA.length rs.length []).foldl (stp (dat rs)) ([], -1)).1, 0))
      else ([], 2)) := Lib.hid (by
    rw [HV.out]
    by_cases h : (dat rs).any (rwB CA.length) = false
    · rw [if_pos ⟨HL.out, h⟩, if_pos h]
    · rw [if_neg (fun h2 => h h2.2), if_neg h])
  clear hcn hb4 hrW hk2 HV
  cases hany : (dat rs).any (rwB CA.length)
  rotate_left
  · have HP : Hid (FIN = ([], 2)) := Lib.hid (by rw [HV2.out, if_neg (by rw [hany]; simp)])
    clear hany
    go_wp2_with fail
    go_ret2
    exact ⟨none, 0, by rw [HP.out]; rfl, by rw [HP.out]; exact Own.none_, HB4.out⟩
  have HANY := Lib.hid hany
  have HV3 : Hid (FIN = if CA.length < LA.length then ([], 6) else
        if 6 < CA.length then ([], 5) else
          (hnd CA ((injs CA.length rs.length []).foldl (stp (dat rs)) ([], -1)).1, 0)) := Lib.hid (by rw [HV2.out, if_pos hany])
  clear hany HV2
  by_cases hlt : CA.length < LA.length
  · have HP : Hid (FIN = ([], 6)) := Lib.hid (by rw [HV3.out, if_pos hlt])
    have hlti : (CA.length : Int) < LA.length := by omega
    go_wp2_with fail
    go_ret2
    exact ⟨none, 0, by rw [HP.out]; rfl, by rw [HP.out]; exact Own.none_, HB4.out⟩
  have hle : LA.length ≤ CA.length := by omega
  have hlei : (LA.length : Int) ≤ CA.length := by omega
  by_cases h6 : 6 < CA.length
  · have HP : Hid (FIN = ([], 5)) := Lib.hid (by rw [HV3.out, if_neg hlt, if_pos h6])
    have h6i : (6 : Int) < CA.length := by omega
    clear hlt
    go_wp2_with fail
    go_ret2
    exact ⟨none, 0, by rw [HP.out]; rfl, by rw [HP.out]; exact Own.none_, HB4.out⟩
  have h6n : CA.length ≤ 6 := by omega
  have h6i : (CA.length : Int) ≤ 6 := by omega
  have HP : Hid (FIN = (hnd CA ((injs CA.length rs.length []).foldl (stp (dat rs)) ([], -1)).1, 0)) := Lib.hid (by rw [HV3.out, if_neg hlt, if_neg h6])
  obtain ⟨hrow, hwk⟩ := rwB_no HANY.out
  have hcall : Hid (∀ W : World, PI W w.heap.size w2.heap.size (w4.heap.size + 2) (w4.heap.size + 1) A2 c2 rs A4 c4 CA (some ⟨w4.heap.size, 0, none⟩) 0 [] (-1) →
      Calls Try.prog 60 #[.int .i64 LA.length, .int .i64 CA.length, .slice none 0 0, .func (.func 61) #[] #[.pointer (some ⟨w.heap.size, 0, none⟩), .pointer (some ⟨w2.heap.size, 0, none⟩), .pointer (some ⟨w4.heap.size + 2, 0, none⟩), .pointer (some ⟨w4.heap.size + 1, 0, none⟩)]] W
        fun e w' => e = .returned (.tuple #[]) ∧ ∃ Ab' cb', PI w' w.heap.size w2.heap.size (w4.heap.size + 2) (w4.heap.size + 1) A2 c2 rs A4 c4 CA Ab' cb' (hnd CA ((injs CA.length rs.length []).foldl (stp (dat rs)) ([], -1)).1) ((injs CA.length rs.length []).foldl (stp (dat rs)) ([], -1)).2 ∧ Fr (w4.heap.size + 2) (w4.heap.size + 1) W w') := Lib.hid (fun W h => by
    have := pairings_any (dat rs) hwk w.heap.size w2.heap.size (w4.heap.size + 2) (w4.heap.size + 1) A2 c2 rs rfl A4 c4 CA hrow (by rw [dat_len, HL.out]; omega) h6n rs.length W none 0 [] (some ⟨w4.heap.size, 0, none⟩) 0 ([], -1) (by rw [dat_len]; simp) (LtL.nil _) (Rd.nil (by unfold maxLen; omega)) (fun ad e => by cases e) h
    rw [dat_len, HL.out] at this
    rw [HL.out]
    exact this)
  clear hlt h6 hrow hwk HV3
  have hq5 : ∀ o1 o2 o3 : Obj, (((w4.alloc o1).alloc o2).alloc o3).cell? ⟨w2.heap.size, 0, none⟩ = some (.slice A4 CA.length c4) := fun o1 o2 o3 => by
    rw [World.cell?_alloc_lt _ _ _ (by simp; omega), World.cell?_alloc_lt _ _ _ (by simp; omega), World.cell?_alloc_lt _ _ _ (by exact hs5)]
    exact hk5
  have hq4 : ∀ o1 o2 o3 : Obj, (((w4.alloc o1).alloc o2).alloc o3).cell? ⟨w.heap.size, 0, none⟩ = some (.slice A2 rs.length c2) := fun o1 o2 o3 => by
    rw [World.cell?_alloc_lt _ _ _ (by simp; omega), World.cell?_alloc_lt _ _ _ (by simp; omega), World.cell?_alloc_lt _ _ _ (by show w.heap.size < _; omega)]
    exact hk4
  go_wp2_with fail
  refine (hcall.out _ ?_).mono ?_
  · have hbW := (((Below.refl w4.heap.size w4).alloc (Nat.le_refl _) (.cells #[] 2)).alloc (by simp) (.cells #[.slice (some ⟨w4.heap.size, 0, none⟩) 0 0] 26)).alloc (by simp; omega) (.cells #[.int .i64 (-1)] 2)
    refine ⟨hq4 _ _ _, hq5 _ _ _, by go_simp, by go_simp, by go_simp, by go_simp, ?_, HR4.out.below (hbW.mono (by omega)), (((Own.lit0 w4 (base := w2.heap.size) (by omega) rfl).alloc _).alloc _), by simp [blk], by simp [blk], by omega, by omega, by omega, by omega, by simp, by simp⟩
    have h := (hr2.below HB4.out).below (hbW.mono (by have := HB4.out.size; omega))
    exact h.more (by omega)
  rintro e w6 ⟨rfl, Ab, cb, hT, hF⟩
  have k4 := hT.k4
  have HT := Lib.hid hT
  have HF := Lib.hid hF
  have l4 := hT.l4
  clear hT hF hcall
  have HBF : Hid (Below w.heap.size w w6) := Lib.hid ((((HB4.out.alloc HB4.out.size _).alloc (by have := HB4.out.size; simp; omega) _).alloc (by have := HB4.out.size; simp; omega) _).trans (HF.out.below (by have := HB4.out.size; simp; omega) (by have := HB4.out.size; omega) (by have := HB4.out.size; omega)))
  have hob := HT.out.ob.lower (show w.heap.size ≤ w2.heap.size by omega)
  have HOB := Lib.hid hob
  clear hob
  go_wp2_with fail
  go_ret2
  exact ⟨Ab, cb, by rw [HP.out]; rfl, by rw [HP.out]; exact HOB.out, HBF.out⟩
end Go.Proofs.Ytofcmljnckdknaa
