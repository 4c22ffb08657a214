/-
  ReadTested of both.
-/
import Derived.Test.YtehmghlhljocbaaGreatDoorRdC
import Derived.Test.YtehmghlhljocbaaGreatDoorRdD
import Derived.Test.YtehmghlhljocbaaGreatDoorRdT
namespace Go.Proofs.YtehmghlhljocbaaGreatDoor
open Go.ChangeShapes Go.WideShapes Go.RowKit

theorem rowTs : TyRow Tryz.prog 24 54 (.agg #[.int .i64 (0), .int .i64 (0)]) LTested.sz 16 := ⟨Tryz.underlying24, by kernel_rfl⟩
theorem rdNs_len {b : UInt8} {n : Nat} {p : List UInt8} {v : List Int} (h : rdNs b n p = some v) : v.length = n := by
  unfold rdNs at h
  split at h
  · rename_i h2
    rw [mapO_len h, h2]
  · cases h
theorem rdI64 {s : List UInt8} {v : Int} (h : rdN s = some v) : -1000000000000000000 ≤ v ∧ v ≤ 1000000000000000000 := by
  rw [← rdS_eq] at h
  unfold rdS at h
  split at h
  · rename_i hl
    cases hd : dv 0 (trm s) with
    | none => rw [hd] at h; cases h
    | some u =>
      rw [hd] at h
      simp only at h
      split at h
      · have hu := dv_lt hd hl.2
        have := Option.some.inj h
        unfold sgd at this
        split at this <;> omega
      · cases h
  · cases h
set_option maxRecDepth 100000 in
set_option maxHeartbeats 1600000 in
theorem implReadTested_any (s : ByteArray) (w : World) (hs : s.size ≤ 1048576) (hw : LibW w) :
    Calls Tryz.prog 22 #[.string s] w fun e w' => ∃ A c, e = .returned (.tuple #[.slice A ((rtS s.data.toList).getD []).length c, .bool (rtS s.data.toList).isSome]) ∧ Own LTested 54 w' w.heap.size A c ((rtS s.data.toList).getD []) ∧ Below w.heap.size w w' := by
  obtain ⟨FIN, hF⟩ : ∃ F, F = rtS s.data.toList := ⟨_, rfl⟩
  rw [← hF]
  rw [← rt_same] at hF
  by_cases h0 : s.data.toList = []
  · have HR : Hid (FIN = some []) := Lib.hid (by rw [hF]; unfold rtI; rw [if_pos h0])
    obtain rfl : s = { data := #[] } := bs_eq h0
    clear hF hs
    go_enter Tryz.func22, Tryz.ntmps22
    go_wp2_with fail
    go_ret2
    exact ⟨none, 0, by rw [HR.out]; rfl, by rw [HR.out]; exact Own.none_, Below.refl _ _⟩
  have hne : s ≠ { data := #[] } := fun e => h0 (by rw [e])
  have z1 := str_ne hne
  have z2 : s.toList.isEmpty = false := by
    rw [Lib.toList_data]
    cases h : s.data.toList with
    | nil => exact absurd h h0
    | cons _ _ => rfl
  have hc := fun W : World => splitN_any s 32 21 W hs (by omega) (by omega)
  have HV : Hid (FIN = match mapO (fun p : ByteArray => rdT p.data.toList) (SN 32 21 s) with | none => none | some xs => if ttS xs = s then some xs else none) := Lib.hid (by
    rw [hF]
    unfold rtI SN
    rw [if_neg h0, mapO_bs, bs_self]
    cases mapO rdT (spN 32 21 s.data.toList) <;> rfl)
  have HSZ : Hid (∀ p ∈ SN 32 21 s, p.size ≤ 1048576) := Lib.hid fun p hp => by have := sn_size hp; omega
  have hl21 : (SN 32 21 s).length ≤ 21 := by
    unfold SN
    rw [List.length_map]
    exact spN_le 32 _ (by omega)
  have HL := Lib.hid hw
  generalize SN 32 21 s = L at *
  have HC := Lib.hid hc
  clear hF h0 hs hc hw
  go_enter Tryz.func22, Tryz.ntmps22
  go_wp2_with fail
  refine (HC.out _).mono ?_
  rintro e w1 ⟨A, c, rfl, ho1, hb1⟩
  have HB1 := Lib.hid (bthen ((Below.refl w.heap.size w).alloc (Nat.le_refl _) (.cells #[] 54)) (by simp) hb1)
  have HO0 : Hid (Own LTested 54 w1 w.heap.size (some ⟨w.heap.size, 0, none⟩) 0 []) := Lib.hid ((Own.lit0 (L := LTested) w (Nat.le_refl _) rfl).below hb1)
  have HLT : Hid (∀ g, blk A = some g → blk (some ⟨w.heap.size, 0, none⟩) ≠ some g) := Lib.hid fun g hg e => by have := (ho1.blk_lt g hg).1; simp at this; simp [blk] at e; omega
  have HO1 := Lib.hid (ho1.lower (b := w.heap.size) (by simp))
  have hs1 := HB1.out.size
  clear hb1 ho1 HC
  go_wp2_with fail
  go_loopw [4, 15] (fun o i wr => ∃ (k : Nat) (A1 : Option Addr) (c1 : Nat) (ys : List TestedD), k ≤ L.length ∧ i = .int .i64 k ∧ o = .slice A1 ys.length c1 ∧ ys.length ≤ k ∧ Hid (mapO (fun p : ByteArray => rdT p.data.toList) (L.take k) = some ys) ∧ Hid (Own LTested 54 wr w.heap.size A1 c1 ys) ∧ Hid (Own LS 9 wr w.heap.size A c L) ∧ Hid (∀ g, blk A = some g → blk A1 ≠ some g) ∧ Hid (Below w.heap.size w wr)) (fun _ i _ => L.length - (intOf i).toNat)
  case atStart => exact ⟨0, _, _, [], by omega, rfl, rfl, by simp, Lib.hid rfl, HO0, HO1, HLT, HB1⟩
  case round =>
    obtain ⟨k, A1, c1, ys, hk, rfl, rfl, hyk, HM, HO, HP, HA, HB⟩ := hrel
    have hsz := HB.out.size
    by_cases hlt : k < L.length
    · obtain ⟨ad, rfl, hab, hcell⟩ := HP.out.rd.str hlt
      have hki : (k : Int) < L.length := by omega
      have hd := readNumbers_any L[k] 47 2 wr (HSZ.out _ (List.getElem_mem hlt)) (by omega) (lib_below HL.out HB.out (Nat.le_refl _))
      cases hr : rdNs 47 2 L[k].data.toList with
      | none =>
        have HR : Hid (FIN = none) := Lib.hid (by rw [HV.out, mapO_none (List.getElem_mem hlt) (by unfold rdT; rw [hr]; rfl)])
        rw [rdM_eq, hr] at hd
        change Calls _ _ _ _ (fun e w' => ∃ A c, e = .returned (.tuple #[.slice A 0 c, .bool false]) ∧ _) at hd
        clear hr
        generalize L[k] = q at *
        go_wp2_with fail
        refine hd.mono ?_
        rintro e w2 ⟨A2, c2, rfl, _, hb2⟩
        have HB2 := Lib.hid (bthen HB.out (Nat.le_refl _) hb2)
        clear hb2 hd
        go_wp2_with fail
        go_ret2
        exact ⟨none, 0, by rw [HR.out]; rfl, by rw [HR.out]; exact Own.none_, HB2.out⟩
      | some v =>
        have hv2 := rdNs_len hr
        obtain ⟨x, y, rfl⟩ := two_of hv2
        have HM2 : Hid (mapO (fun p : ByteArray => rdT p.data.toList) (L.take (k + 1)) = some (ys ++ [(x, y)])) := Lib.hid (by rw [List.take_succ_eq_append_getElem hlt]; exact mapO_snoc _ _ _ _ _ HM.out (by unfold rdT; rw [hr]; rfl))
        rw [rdM_eq, hr] at hd
        change Calls _ _ _ _ (fun e w' => ∃ A c, e = .returned (.tuple #[.slice A 2 c, .bool true]) ∧ Own LI 2 w' wr.heap.size A c [x, y] ∧ _) at hd
        clear hr hv2
        generalize L[k] = q at *
        go_wp2_with fail
        refine hd.mono ?_
        rintro e w2 ⟨A2, c2, rfl, ho2, hb2⟩
        have HB2 := Lib.hid (bthen HB.out (Nat.le_refl _) hb2)
        have HO2 := Lib.hid (HO.out.below hb2)
        have HP2 := Lib.hid (HP.out.below hb2)
        have hs2 := HB2.out.size
        obtain ⟨g, rfl, hg0, hg, d0, _⟩ := ho2.int (k := 0) (by simp)
        obtain ⟨_, e, _, _, d1, _⟩ := ho2.int (k := 1) (by simp)
        cases e
        have hc2 := ho2.le
        simp only [List.getElem_cons_zero, List.getElem_cons_succ, List.length_cons, List.length_nil] at d0 d1 hc2
        clear hb2 hd ho2
        have hgA : blk A1 ≠ some g := fun e => by have := (HO.out.blk_lt g e).2; omega
        go_wp2_with fail
        go_region_held3 (fun W => W.cell? ⟨g, 0, none⟩ = some (.int .i64 x) ∧ W.cell? ⟨g, 1, none⟩ = some (.int .i64 y))
          (first | go_keep | (go_split_ands; refine ⟨?_, ?_⟩ <;> (refine (hg4.cell _ ?_ ?_).trans ?_; (focus (simp <;> omega)); (focus exact hgA); (first | assumption | go_simp))))
          ((go_loud (refine stepL_app1 (L := LTested) rowTs rfl rfl _ _ rfl rfl ((HO2.out.alloc _).drew) (x, y) rfl ?_ (by unfold maxLen; omega) (by omega) (by simp; omega) ?_); (focus (intro j v hv; show (w2.alloc _).cell? _ = _; rw [World.cell?_alloc_at (hn := rfl)]; simpa [LTested] using hv)); intro A4 c4 w4 ho4 hg4))
        go_wp2_with fail
        go_roundw
        case rel => exact ⟨k + 1, A4, c4, ys ++ [(x, y)], by omega, by go_num, by simp, by simp; omega, HM2, Lib.hid ho4, Lib.hid (hg4.own (HP2.out.alloc _).drew HA.out).1, Lib.hid (hg4.own (HP2.out.alloc _).drew HA.out).2, Lib.hid (Grew.below (HB2.out.alloc hs2 _).drew hg4 (by simp; omega) fun g' hg' => (HO2.out.blk_lt g' hg').1)⟩
        case measure => simp [intOf]; omega
    · obtain rfl : k = L.length := by omega
      have HV2 : Hid (FIN = if ttS ys = s then some ys else none) := Lib.hid (by
        rw [HV.out]
        have := HM.out
        rw [List.take_of_length_le (Nat.le_refl _)] at this
        rw [this])
      have ht := implTestedText_any A1 c1 ys wr HO.out.rd (lib_below HL.out HB.out (Nat.le_refl _)).tab
      by_cases hq : ttS ys = s
      · have HR : Hid (FIN = some ys) := Lib.hid (by rw [HV2.out, if_pos hq])
        rw [hq] at ht
        clear hq
        go_wp2_with fail
        refine ht.mono ?_
        rintro e w2 ⟨rfl, hb2⟩
        have HB2 := Lib.hid (bthen HB.out (Nat.le_refl _) hb2)
        have HO2 := Lib.hid (HO.out.below hb2)
        clear hb2 ht
        go_wp2_with fail
        go_ret2
        exact ⟨A1, c1, by rw [HR.out]; rfl, by rw [HR.out]; exact HO2.out, HB2.out⟩
      · have HR : Hid (FIN = none) := Lib.hid (by rw [HV2.out, if_neg hq])
        have y1 := str_ne hq
        have y2 : ((ttS ys).toList != s.toList) = true := by rw [bne, y1]; rfl
        generalize ttS ys = tx at *
        clear hq
        go_wp2_with fail
        refine ht.mono ?_
        rintro e w2 ⟨rfl, hb2⟩
        have HB2 := Lib.hid (bthen HB.out (Nat.le_refl _) hb2)
        clear hb2 ht
        go_wp2_with fail
        go_ret2
        exact ⟨none, 0, by rw [HR.out]; rfl, by rw [HR.out]; exact Own.none_, HB2.out⟩
theorem rdT_two {q a b : ByteArray} (h : SP 47 q = [a, b]) : rdT q.data.toList = match rdN a.data.toList, rdN b.data.toList with | some x, some y => some (x, y) | _, _ => none := by
  have h1 := rdM_eq 47 2 q
  unfold rdM at h1
  rw [h, if_pos (show [a, b].length = 2 from rfl)] at h1
  unfold rdT
  rw [← h1]
  cases ha : rdN a.data.toList <;> cases hb : rdN b.data.toList <;> simp [mapO, ha, hb]
theorem rdT_not {q : ByteArray} (h : (SP 47 q).length ≠ 2) : rdT q.data.toList = none := by
  have h1 := rdM_eq 47 2 q
  unfold rdM at h1
  rw [if_neg h] at h1
  unfold rdT
  rw [← h1]
  rfl
set_option maxRecDepth 100000 in
set_option maxHeartbeats 3200000 in
theorem specReadTested_any (s : ByteArray) (w : World) (hs : s.size ≤ 1048576) (_hw : LibW w) :
    Calls Tryz.prog 24 #[.string s] w fun e w' => ∃ A c, e = .returned (.tuple #[.slice A ((rtS s.data.toList).getD []).length c, .bool (rtS s.data.toList).isSome]) ∧ Own LTested 54 w' w.heap.size A c ((rtS s.data.toList).getD []) ∧ Below w.heap.size w w' := by
  obtain ⟨FIN, hF⟩ : ∃ F, F = rtS s.data.toList := ⟨_, rfl⟩
  rw [← hF]
  by_cases h0 : s.data.toList = []
  · have HR : Hid (FIN = some []) := Lib.hid (by rw [hF]; unfold rtS; rw [if_pos h0])
    obtain rfl : s = { data := #[] } := bs_eq h0
    clear hF hs
    go_enter Tryz.func24, Tryz.ntmps24
    go_wp2_with fail
    go_ret2
    exact ⟨some ⟨w.heap.size, 0, none⟩, 0, by rw [HR.out]; rfl, by rw [HR.out]; exact Own.lit0 w (Nat.le_refl _) rfl, (Below.refl _ w).alloc (Nat.le_refl _) _⟩
  have hne : s ≠ { data := #[] } := fun e => h0 (by rw [e])
  have z1 := str_ne hne
  have z2 : s.toList.isEmpty = false := by
    rw [Lib.toList_data]
    cases h : s.data.toList with
    | nil => exact absurd h h0
    | cons _ _ => rfl
  have HV : Hid (FIN = match mapO (fun p : ByteArray => rdT p.data.toList) (SP 32 s) with | none => none | some xs => if vtB xs = true then some xs else none) := Lib.hid (by
    rw [hF]
    unfold rtS SP
    rw [if_neg h0, mapO_bs]
    cases mapO rdT (spl 32 s.data.toList) <;> rfl)
  have HSZ : Hid (∀ p ∈ SP 32 s, p.size ≤ 1048576) := Lib.hid fun p hp => by have := sp_size hp; omega
  have hl21 : (SP 32 s).length ≤ 1048577 := by have := sp_len 32 s; omega
  have hc := fun W : World => l01Split_any s 32 W hs
  generalize SP 32 s = L at *
  have HC := Lib.hid hc
  clear hF h0 hs hc
  go_enter Tryz.func24, Tryz.ntmps24
  go_wp2_with fail
  refine (HC.out _).mono ?_
  rintro e w1 ⟨A, c, rfl, ho1, hb1⟩
  have HB1 := Lib.hid (bthen ((Below.refl w.heap.size w).alloc (Nat.le_refl _) (.cells #[] 54)) (by simp) hb1)
  have HO0 : Hid (Own LTested 54 w1 w.heap.size (some ⟨w.heap.size, 0, none⟩) 0 []) := Lib.hid ((Own.lit0 (L := LTested) w (Nat.le_refl _) rfl).below hb1)
  have HLT : Hid (∀ g, blk A = some g → blk (some ⟨w.heap.size, 0, none⟩) ≠ some g) := Lib.hid fun g hg e => by have := (ho1.blk_lt g hg).1; simp at this; simp [blk] at e; omega
  have HO1 := Lib.hid (ho1.lower (b := w.heap.size) (by simp))
  have hs1 := HB1.out.size
  clear hb1 ho1 HC
  go_wp2_with fail
  go_loopw [4, 6] (fun o i wr => ∃ (k : Nat) (A1 : Option Addr) (c1 : Nat) (ys : List TestedD), k ≤ L.length ∧ i = .int .i64 k ∧ o = .slice A1 ys.length c1 ∧ ys.length ≤ k ∧ Hid (mapO (fun p : ByteArray => rdT p.data.toList) (L.take k) = some ys) ∧ Hid (Own LTested 54 wr w.heap.size A1 c1 ys) ∧ Hid (Own LS 9 wr w.heap.size A c L) ∧ Hid (∀ g, blk A = some g → blk A1 ≠ some g) ∧ Hid (Below w.heap.size w wr)) (fun _ i _ => L.length - (intOf i).toNat)
  case atStart => exact ⟨0, _, _, [], by omega, rfl, rfl, by simp, Lib.hid rfl, HO0, HO1, HLT, HB1⟩
  case round =>
    obtain ⟨k, A1, c1, ys, hk, rfl, rfl, hyk, HM, HO, HP, HA, HB⟩ := hrel
    have hsz := HB.out.size
    by_cases hlt : k < L.length
    · obtain ⟨ad, rfl, hab, hcell⟩ := HP.out.rd.str hlt
      have hki : (k : Int) < L.length := by omega
      have hsq := HSZ.out _ (List.getElem_mem hlt)
      have hsp := l01Split_any L[k] 47 wr hsq
      have HSQ : Hid (∀ p ∈ SP 47 L[k], p.size ≤ 1048576) := Lib.hid fun p hp => by have := sp_size hp; omega
      by_cases h2 : (SP 47 L[k]).length = 2
      rotate_left
      · have HR : Hid (FIN = none) := Lib.hid (by rw [HV.out, mapO_none (List.getElem_mem hlt) (rdT_not h2)])
        have y1 : (((SP 47 L[k]).length : Int) != 2) = true := by rw [bne_iff_ne]; omega
        have y2 : ((SP 47 L[k]).length != 2) = true := by rw [bne_iff_ne]; exact h2
        clear h2 hsq HSQ
        generalize L[k] = q at *
        generalize SP 47 q = V at *
        go_wp2_with fail
        refine hsp.mono ?_
        rintro e w2 ⟨A2, c2, rfl, _, hb2⟩
        have HB2 := Lib.hid (bthen HB.out (Nat.le_refl _) hb2)
        clear hb2 hsp
        go_wp2_with fail
        go_ret2
        exact ⟨none, 0, by rw [HR.out]; rfl, by rw [HR.out]; exact Own.none_, HB2.out⟩
      · obtain ⟨a, b, hab2⟩ := two_of h2
        have HT := Lib.hid (rdT_two hab2)
        have HMS : Hid (∀ y, rdT L[k].data.toList = some y → mapO (fun p : ByteArray => rdT p.data.toList) (L.take (k + 1)) = some (ys ++ [y])) := Lib.hid fun y hy => by rw [List.take_succ_eq_append_getElem hlt]; exact mapO_snoc _ _ _ _ _ HM.out hy
        have HMN : Hid (rdT L[k].data.toList = none → FIN = none) := Lib.hid fun hy => by rw [HV.out, mapO_none (List.getElem_mem hlt) hy]
        rw [hab2] at hsp
        have hsa : a.size ≤ 1048576 := HSQ.out a (by rw [hab2]; simp)
        have hsb : b.size ≤ 1048576 := HSQ.out b (by rw [hab2]; simp)
        have hna := fun W : World => l01Number_any a W hsa
        have hnb := fun W : World => l01Number_any b W hsb
        generalize rdT L[k].data.toList = rt at *
        obtain ⟨ra, hra⟩ : ∃ r, r = rdN a.data.toList := ⟨_, rfl⟩
        obtain ⟨rb, hrb⟩ : ∃ r, r = rdN b.data.toList := ⟨_, rfl⟩
        rw [← hra] at hna HT
        rw [← hrb] at hnb HT
        have HNA := Lib.hid hna
        have HNB := Lib.hid hnb
        clear hra hrb hna hnb h2 hsq HSQ hab2 hsa hsb
        generalize L[k] = q at *
        change Calls _ _ _ _ (fun e w' => ∃ A c, e = .returned (.slice A 2 c) ∧ Own LS 9 w' wr.heap.size A c [a, b] ∧ _) at hsp
        have hfin : (∃ x y, ra = some x ∧ rb = some y) ∨ (ra.isSome && rb.isSome) = false := by
          cases ra <;> cases rb <;> simp
        rcases hfin with ⟨x, y, rfl, rfl⟩ | hbad
        · have HM2 := Lib.hid (HMS.out (x, y) HT.out)
          clear HMS HMN HT
          go_wp2_with fail
          refine hsp.mono ?_
          rintro e w2 ⟨A2, c2, rfl, ho2, hb2⟩
          have HB2 := Lib.hid (bthen HB.out (Nat.le_refl _) hb2)
          have HO2 := Lib.hid (HO.out.below hb2)
          have HP2 := Lib.hid (HP.out.below hb2)
          have HV2 := Lib.hid ho2
          obtain ⟨g, rfl, _, hg, d0⟩ := ho2.strs (k := 0) (by simp)
          obtain ⟨_, e, _, _, d1⟩ := ho2.strs (k := 1) (by simp)
          cases e
          have hc2 := ho2.le
          simp only [List.getElem_cons_zero, List.getElem_cons_succ, List.length_cons, List.length_nil] at d0 d1 hc2
          clear hb2 hsp ho2
          go_wp2_with fail
          refine (HNA.out w2).mono ?_
          rintro e w3 ⟨rfl, hb3⟩
          have HB3 := Lib.hid (bthen HB2.out (Nat.le_refl _) hb3)
          have HO3 := Lib.hid (HO2.out.below hb3)
          have HP3 := Lib.hid (HP2.out.below hb3)
          have HV3 := Lib.hid (HV2.out.below hb3)
          clear d0 d1 HV2 HO2 HP2 HB2 hb3
          obtain ⟨_, e, _, _, d1⟩ := HV3.out.strs (k := 1) (by simp)
          cases e
          simp only [List.getElem_cons_zero, List.getElem_cons_succ] at d1
          go_wp2_with fail
          refine (HNB.out w3).mono ?_
          rintro e w4 ⟨rfl, hb4⟩
          have HB4 := Lib.hid (bthen HB3.out (Nat.le_refl _) hb4)
          have HO4 := Lib.hid (HO3.out.below hb4)
          have HP4 := Lib.hid (HP3.out.below hb4)
          have hs4 := HB4.out.size
          clear d1 HV3 HO3 HP3 HB3 hb4 HNA HNB
          go_wp2_with (at_builtin; go_loud (refine wpL_app1 (L := LTested) rowTs rfl rfl _ _ rfl rfl HO4.out (x, y) _ rfl rfl (by simp) (by unfold maxLen; omega) (by omega) (by omega) ?_); intro A4 c4 w5 ho4 hg4)
          go_roundw
          case rel => exact ⟨k + 1, A4, c4, ys ++ [(x, y)], by omega, by go_num, by simp, by simp; omega, HM2, Lib.hid ho4, Lib.hid (hg4.own HP4.out HA.out).1, Lib.hid (hg4.own HP4.out HA.out).2, Lib.hid (Grew.below HB4.out hg4 hs4 fun g' hg' => (HO4.out.blk_lt g' hg').1)⟩
          case measure => simp [intOf]; omega
        · have HR : Hid (FIN = none) := Lib.hid (HMN.out (by rw [HT.out]; cases ra <;> cases rb <;> first | rfl | (simp at hbad)))
          obtain ⟨oa, hoa⟩ : ∃ o, o = ra.isSome := ⟨_, rfl⟩
          obtain ⟨ob, hob⟩ : ∃ o, o = rb.isSome := ⟨_, rfl⟩
          rw [← hoa, ← hob] at hbad
          rw [← hoa] at HNA
          rw [← hob] at HNB
          generalize ra.getD 0 = na at *
          generalize rb.getD 0 = nb at *
          clear HMS HMN HT hoa hob
          have hcase : oa = false ∨ (oa = true ∧ ob = false) := by cases oa <;> cases ob <;> simp_all
          clear hbad
          rcases hcase with rfl | ⟨rfl, rfl⟩
          all_goals
            go_wp2_with fail
            refine hsp.mono ?_
            rintro e w2 ⟨A2, c2, rfl, ho2, hb2⟩
            have HB2 := Lib.hid (bthen HB.out (Nat.le_refl _) hb2)
            have HV2 := Lib.hid ho2
            obtain ⟨g, rfl, _, hg, d0⟩ := ho2.strs (k := 0) (by simp)
            obtain ⟨_, e, _, _, d1⟩ := ho2.strs (k := 1) (by simp)
            cases e
            have hc2 := ho2.le
            simp only [List.getElem_cons_zero, List.getElem_cons_succ, List.length_cons, List.length_nil] at d0 d1 hc2
            clear hb2 hsp ho2
            go_wp2_with fail
            refine (HNA.out w2).mono ?_
            rintro e w3 ⟨rfl, hb3⟩
            have HB3 := Lib.hid (bthen HB2.out (Nat.le_refl _) hb3)
            have HV3 := Lib.hid (HV2.out.below hb3)
            clear d0 d1 HV2 HB2 hb3
            obtain ⟨_, e, _, _, d1⟩ := HV3.out.strs (k := 1) (by simp)
            cases e
            simp only [List.getElem_cons_zero, List.getElem_cons_succ] at d1
            go_wp2_with fail
            refine (HNB.out w3).mono ?_
            rintro e w4 ⟨rfl, hb4⟩
            have HB4 := Lib.hid (bthen HB3.out (Nat.le_refl _) hb4)
            clear d1 HV3 HB3 hb4 HNA HNB
            go_wp2_with fail
            go_ret2
            exact ⟨none, 0, by rw [HR.out]; rfl, by rw [HR.out]; exact Own.none_, HB4.out⟩
    · obtain rfl : k = L.length := by omega
      have HV2 : Hid (FIN = if vtB ys = true then some ys else none) := Lib.hid (by
        rw [HV.out]
        have := HM.out
        rw [List.take_of_length_le (Nat.le_refl _)] at this
        rw [this])
      have ht := l19Ok_any A1 c1 ys wr.heap.size wr HO.out.rd
      cases hv : vtB ys
      · have HR : Hid (FIN = none) := Lib.hid (by rw [HV2.out, hv]; rfl)
        rw [hv] at ht
        clear hv
        go_wp2_with fail
        refine ht.mono ?_
        rintro e w2 ⟨rfl, rfl⟩
        go_wp2_with fail
        go_ret2
        exact ⟨none, 0, by rw [HR.out]; rfl, by rw [HR.out]; exact Own.none_, HB.out⟩
      · have HR : Hid (FIN = some ys) := Lib.hid (by rw [HV2.out, hv]; rfl)
        rw [hv] at ht
        clear hv
        go_wp2_with fail
        refine ht.mono ?_
        rintro e w2 ⟨rfl, rfl⟩
        go_wp2_with fail
        go_ret2
        exact ⟨A1, c1, by rw [HR.out]; rfl, by rw [HR.out]; exact HO.out, HB.out⟩
theorem rt_len (l : List UInt8) : ((rtS l).getD []).length ≤ 20 := by
  unfold rtS
  split
  · simp
  · split
    · simp
    · split
      · rename_i hv
        exact (vt_parts hv).1
      · simp
end Go.Proofs.YtehmghlhljocbaaGreatDoor
