/-
  ReadYard of the reference.
-/
import Derived.Test.YtjgpppcjhneibaaGreatDoorRdF
import Derived.Test.YtjgpppcjhneibaaGreatDoorRdD
namespace Go.Proofs.YtjgpppcjhneibaaGreatDoor
open Go.ChangeShapes Go.WideShapes Go.RowKit

theorem rdY_parts {q : ByteArray} (h : q.data.toList ≠ []) : rdY q.data.toList = mapO (fun p : ByteArray => rdN p.data.toList) (SP 44 q) := by
  unfold rdY SP
  rw [if_neg h, mapO_bs]
set_option maxRecDepth 100000 in
set_option maxHeartbeats 3200000 in
theorem specReadYard_any (s : ByteArray) (w : World) (hs : s.size ≤ 1048576) (_hw : LibW w) :
    Calls Tryz.prog 5 #[.string s] w fun e w' => ∃ A c os, e = .returned (.tuple #[.slice A os.length c, .bool (ryS s.data.toList).isSome]) ∧ OwnR LI 32 2 w' w.heap.size A c os ∧ dat os = (ryS s.data.toList).getD [] ∧ Below w.heap.size w w' := by
  obtain ⟨FIN, hF⟩ : ∃ F, F = ryS s.data.toList := ⟨_, rfl⟩
  rw [← hF]
  have hc := l01Split_any s 124 w hs
  have HV : Hid (FIN = match mapO (fun p : ByteArray => rdY p.data.toList) (SP 124 s) with | none => none | some X => if vyB X = true then some X else none) := Lib.hid (by
    rw [hF]
    unfold ryS SP
    rw [mapO_bs]
    cases mapO rdY (spl 124 s.data.toList) <;> rfl)
  have HSZ : Hid (∀ p ∈ SP 124 s, p.size ≤ 1048576) := Lib.hid fun p hp => by have := sp_size hp; omega
  have hl5 : (SP 124 s).length ≤ 1048577 := by have := sp_len 124 s; omega
  have HTOT : Hid (∀ X, mapO (fun p : ByteArray => rdY p.data.toList) (SP 124 s) = some X → tlL X ≤ 1048576) := Lib.hid fun X hX => by
    unfold SP at hX
    rw [mapO_bs] at hX
    have h1 := rdY_tot hX
    have h2 := lens_splA 124 s.data.toList []
    unfold spl at h1
    rw [size_data] at h2
    simp at h2
    omega
  generalize SP 124 s = L at *
  clear hF hs
  go_enter Tryz.func5, Tryz.ntmps5
  go_wp2_with fail
  refine hc.mono ?_
  rintro e w1 ⟨A, c, rfl, ho1, hb1⟩
  have HB1 := Lib.hid hb1
  have HO1 := Lib.hid ho1
  have hs1 := hb1.size
  have HLT : Hid (∀ g, blk A = some g → blk (some ⟨w1.heap.size, 0, none⟩) ≠ some g) := Lib.hid fun g hg e => by have := (ho1.blk_lt g hg).2; simp [blk] at e; omega
  clear hb1 ho1 hc
  go_wp2_with fail
  go_loopw [5, 6] (fun o i wr => ∃ (k : Nat) (A1 : Option Addr) (c1 : Nat) (os : List (Row Int)) (L1 : List (Option Addr × Nat × Nat)), k ≤ L.length ∧ i = .int .i64 k ∧ o = .slice A1 L1.length c1 ∧ L1.length ≤ k ∧ Hid (L1 = os.map hd) ∧ Hid (mapO (fun p : ByteArray => rdY p.data.toList) (L.take k) = some (dat os)) ∧ Hid (OwnR LI 32 2 wr w.heap.size A1 c1 os) ∧ Hid (Own LS 9 wr w.heap.size A c L) ∧ Hid (∀ g, blk A = some g → blk A1 ≠ some g) ∧ Hid (Below w.heap.size w wr)) (fun _ i _ => L.length - (intOf i).toNat)
  case atStart => exact ⟨0, _, _, [], [], by omega, rfl, rfl, by simp, Lib.hid rfl, Lib.hid rfl, Lib.hid ⟨Own.lit0 (L := LV) w1 hs1 rfl, (fun r hr => by cases hr), List.Pairwise.nil⟩, Lib.hid (HO1.out.alloc _), HLT, Lib.hid (HB1.out.alloc hs1 _)⟩
  case round =>
    obtain ⟨k, A1, c1, os, L1, hk, rfl, rfl, hyk, HL1, HM, HO, HP, HA, HB⟩ := hrel
    obtain ⟨wq, rfl⟩ : ∃ q, q = wr := ⟨_, rfl⟩
    have hsz := HB.out.size
    by_cases hlt : k < L.length
    · obtain ⟨ad, rfl, hab, hcell⟩ := HP.out.rd.str hlt
      have hki : (k : Int) < L.length := by omega
      have HMS : Hid (∀ y, rdY L[k].data.toList = some y → mapO (fun p : ByteArray => rdY p.data.toList) (L.take (k + 1)) = some (dat os ++ [y])) := Lib.hid fun y hy => by rw [List.take_succ_eq_append_getElem hlt]; exact mapO_snoc _ _ _ _ _ HM.out hy
      have HMN : Hid (rdY L[k].data.toList = none → FIN = none) := Lib.hid fun hy => by rw [HV.out, mapO_none (List.getElem_mem hlt) hy]
      have hsq := HSZ.out _ (List.getElem_mem hlt)
      generalize L[k] = q at *
      obtain ⟨wa, hwa⟩ : ∃ W, W = wq.alloc (.cells #[] 2) := ⟨_, rfl⟩
      have HBa : Hid (Below w.heap.size w wa) := Lib.hid (by rw [hwa]; exact HB.out.alloc hsz _)
      have HBra : Hid (Below wq.heap.size wq wa) := Lib.hid (by rw [hwa]; exact (Below.refl _ _).alloc (Nat.le_refl _) _)
      have hsa : wa.heap.size = wq.heap.size + 1 := by rw [hwa]; simp
      have HPa := Lib.hid (HP.out.below HBra.out)
      have HOa := Lib.hid (HO.out.below HBra.out)
      have HlO := Lib.hid HO.out.blk_lt
      have HO0 : Hid (Own LI 2 wa wq.heap.size (some ⟨wq.heap.size, 0, none⟩) 0 []) := Lib.hid (by rw [hwa]; exact Own.lit0 wq (Nat.le_refl _) rfl)
      by_cases h0 : q.data.toList = []
      · have HM2 := Lib.hid (HMS.out [] (by unfold rdY; rw [if_pos h0]))
        obtain rfl : q = { data := #[] } := bs_eq h0
        have hout : Own LV 32 wa w.heap.size A1 c1 L1 := by rw [HL1.out]; exact HOa.out.out
        have hcell2 := cell_below hcell HBra.out (Nat.le_refl _)
        clear HMS HMN h0
        rw [hwa] at hout hcell2
        go_wp2_with (at_builtin; go_loud (refine wpL_app1 (L := LV) rowV rfl rfl _ _ rfl rfl hout (some ⟨wq.heap.size, 0, none⟩, 0, 0) _ rfl rfl (by simp) (by unfold maxLen; omega) (by omega) (by simp; omega) ?_); intro A6 c6 w6 ho6 hg6)
        rw [← hwa] at hg6
        go_roundw
        case rel =>
          have hsn := OwnR.snoc (r := (some ⟨wq.heap.size, 0, none⟩, 0, [])) HOa.out (by decide) (HO0.out.lower (by omega)) (fun s hs g h1 h2 => by have := HlO.out.2 s hs g h1; simp [blk] at h2; omega) (by
            rw [HL1.out] at ho6
            exact ho6) hg6
          refine ⟨k + 1, A6, c6, _, L1 ++ [(some ⟨wq.heap.size, 0, none⟩, 0, 0)], by omega, by go_num, by simp, by simp; omega, Lib.hid ?_, Lib.hid ?_, Lib.hid hsn, Lib.hid (hg6.own HPa.out HA.out).1, Lib.hid (hg6.own HPa.out HA.out).2, Lib.hid ?_⟩
          · rw [HL1.out, List.map_append]
            simp [hd]
          · rw [dat_append]; exact HM2.out
          · exact Grew.below HBa.out hg6 (by omega) fun g' hg' => (HlO.out.1 g' hg').1
        case measure => simp [intOf]; omega
      · have hqe : q.toList.isEmpty = false := by
          rw [Lib.toList_data]
          cases h : q.data.toList with
          | nil => exact absurd h h0
          | cons _ _ => rfl
        have hqe2 : (!q.toList.isEmpty) = true := by rw [hqe]; rfl
        have HRY := Lib.hid (rdY_parts h0)
        have hvl : (SP 44 q).length ≤ 1048577 := by have := sp_len 44 q; omega
        have HVS : Hid (∀ p ∈ SP 44 q, p.size ≤ 1048576) := Lib.hid fun p hp => by have := sp_size hp; omega
        have hsp := l01Split_any q 44 wa hsq
        have hcell2 := cell_below hcell HBra.out (Nat.le_refl _)
        clear h0
        generalize SP 44 q = V at *
        rw [hwa] at hsp hcell2
        go_wp2_with fail
        refine hsp.mono ?_
        rintro e w2 ⟨A2, c2, rfl, ho2, hb2⟩
        rw [← hwa] at hb2 ho2
        clear hsp hcell2
        have HB2 := Lib.hid (bthen HBa.out (by omega) hb2)
        have HO2 := Lib.hid (HOa.out.below hb2)
        have HP2 := Lib.hid (HPa.out.below hb2)
        have HV2 := Lib.hid ho2
        have HS2 := Lib.hid (HO0.out.below hb2)
        have hs2 := hb2.size
        have HLV : Hid (∀ g, blk A2 = some g → blk (some ⟨wq.heap.size, 0, none⟩) ≠ some g) := Lib.hid fun g hg e => by have := (ho2.blk_lt g hg).1; simp [blk] at e; omega
        have HLB : Hid (Below wq.heap.size wq w2) := Lib.hid (bthen HBra.out (by omega) hb2)
        clear hb2 ho2
        go_wp2_with fail
        go_loopw [7, 9] (fun o i wr => ∃ (j : Nat) (A3 : Option Addr) (c3 : Nat) (ys : List Int), j ≤ V.length ∧ i = .int .i64 j ∧ o = .slice A3 ys.length c3 ∧ ys.length ≤ j ∧ Hid (mapO (fun p : ByteArray => rdN p.data.toList) (V.take j) = some ys) ∧ Hid (Own LI 2 wr wq.heap.size A3 c3 ys) ∧ Hid (Own LS 9 wr wq.heap.size A2 c2 V) ∧ Hid (∀ g, blk A2 = some g → blk A3 ≠ some g) ∧ Hid (Below wq.heap.size wq wr)) (fun _ i _ => V.length - (intOf i).toNat)
        case atStart => exact ⟨0, _, _, [], by omega, rfl, rfl, by simp, Lib.hid rfl, HS2, Lib.hid (HV2.out.lower (by omega)), HLV, HLB⟩
        case round =>
          obtain ⟨j, A3, c3, ys, hj, rfl, rfl, hyj, HMj, HOj, HVj, HAj, HBj⟩ := hrel
          obtain ⟨wu, rfl⟩ : ∃ q, q = wr := ⟨_, rfl⟩
          have hsj := HBj.out.size
          by_cases hltj : j < V.length
          · obtain ⟨ad2, rfl, hab2, hcell2⟩ := HVj.out.rd.str hltj
            have hji : (j : Int) < V.length := by omega
            have hd := l01Number_any V[j] wu (HVS.out _ (List.getElem_mem hltj))
            cases hr : rdN V[j].data.toList with
            | none =>
              have HR : Hid (FIN = none) := Lib.hid (HMN.out (by rw [HRY.out]; exact mapO_none (List.getElem_mem hltj) hr))
              rw [hr] at hd
              change Calls _ _ _ _ (fun e w' => e = .returned (.tuple #[.int .i64 0, .bool false]) ∧ _) at hd
              clear hr
              generalize V[j] = p at *
              go_wp2_with fail
              refine hd.mono ?_
              rintro e w3 ⟨rfl, hb3⟩
              have HB3 := Lib.hid (bthen HB.out (by omega) (HBj.out.trans (hb3.mono (by omega))))
              clear hb3 hd
              go_wp2_with fail
              go_ret2
              exact ⟨none, 0, [], by rw [HR.out]; rfl, OwnR.none_, by rw [HR.out]; rfl, HB3.out⟩
            | some y =>
              have HM2 : Hid (mapO (fun p : ByteArray => rdN p.data.toList) (V.take (j + 1)) = some (ys ++ [y])) := Lib.hid (by rw [List.take_succ_eq_append_getElem hltj]; exact mapO_snoc _ _ _ _ _ HMj.out hr)
              rw [hr] at hd
              change Calls _ _ _ _ (fun e w' => e = .returned (.tuple #[.int .i64 y, .bool true]) ∧ _) at hd
              clear hr
              generalize V[j] = p at *
              go_wp2_with fail
              refine hd.mono ?_
              rintro e w3 ⟨rfl, hb3⟩
              have HB3 := Lib.hid (HBj.out.trans (hb3.mono hsj))
              have HO3 := Lib.hid (HOj.out.below hb3)
              have HV3 := Lib.hid (HVj.out.below hb3)
              have hs3 := HB3.out.size
              clear hb3 hd
              go_wp2_with (at_builtin; go_loud (refine wpL_app1 (L := LI) rowI rfl rfl _ _ rfl rfl HO3.out y _ rfl rfl (by simp) (by unfold maxLen; omega) (by omega) (by omega) ?_); intro A4 c4 w4 ho4 hg4)
              go_roundw
              case rel => exact ⟨j + 1, A4, c4, ys ++ [y], by omega, by go_num, by simp, by simp; omega, HM2, Lib.hid ho4, Lib.hid (hg4.own HV3.out HAj.out).1, Lib.hid (hg4.own HV3.out HAj.out).2, Lib.hid (Grew.below HB3.out hg4 hs3 fun g' hg' => (HO3.out.blk_lt g' hg').1)⟩
              case measure => simp [intOf]; omega
          · obtain rfl : j = V.length := by omega
            have HM2 := Lib.hid (HMS.out ys (by rw [HRY.out, ← HMj.out, List.take_of_length_le (Nat.le_refl _)]))
            have HOu := Lib.hid (HO.out.below HBj.out)
            have HPu := Lib.hid (HP.out.below HBj.out)
            have HBu := Lib.hid (bthen HB.out (Nat.le_refl _) HBj.out)
            have hout : Own LV 32 wu w.heap.size A1 c1 L1 := by rw [HL1.out]; exact HOu.out.out
            clear HMS HMN HRY
            go_wp2_with (at_builtin; go_loud (refine wpL_app1 (L := LV) rowV rfl rfl _ _ rfl rfl hout (A3, ys.length, c3) _ rfl rfl (by simp) (by unfold maxLen; omega) (by omega) (by omega) ?_); intro A6 c6 w6 ho6 hg6)
            go_roundw
            case rel =>
              have hsn := OwnR.snoc (r := (A3, c3, ys)) HOu.out (by decide) (HOj.out.lower (by omega)) (fun s hs g h1 h2 => by have := HlO.out.2 s hs g h1; have := HOj.out.blk_lt g h2; omega) (by
                rw [HL1.out] at ho6
                exact ho6) hg6
              refine ⟨k + 1, A6, c6, _, L1 ++ [(A3, ys.length, c3)], by omega, by go_num, by simp, by simp; omega, Lib.hid ?_, Lib.hid ?_, Lib.hid hsn, Lib.hid (hg6.own HPu.out HA.out).1, Lib.hid (hg6.own HPu.out HA.out).2, Lib.hid ?_⟩
              · rw [HL1.out, List.map_append]
                simp [hd]
              · rw [dat_append]; exact HM2.out
              · exact Grew.below HBu.out hg6 (by omega) fun g' hg' => (HlO.out.1 g' hg').1
            case measure => simp [intOf]; omega
    · obtain rfl : k = L.length := by omega
      have hM : mapO (fun p : ByteArray => rdY p.data.toList) L = some (dat os) := by
        have := HM.out
        rw [List.take_of_length_le (Nat.le_refl _)] at this
        exact this
      have HV2 : Hid (FIN = if vyB (dat os) = true then some (dat os) else none) := Lib.hid (by rw [HV.out, hM])
      have htl := HTOT.out _ hM
      have HOL : Hid (L1.length = os.length) := Lib.hid (by rw [HL1.out, List.length_map])
      have hv1 := l20Ok_any A1 c1 os wq HO.out.rd htl
      rw [← HOL.out] at hv1
      cases hv : vyB (dat os)
      · have HR : Hid (FIN = none) := Lib.hid (by rw [HV2.out, hv]; rfl)
        rw [hv] at hv1
        clear hv hM htl HV2
        go_wp2_with fail
        refine hv1.mono ?_
        rintro e w2 ⟨rfl, hb2⟩
        have HB2 := Lib.hid (bthen HB.out (Nat.le_refl _) hb2)
        clear hb2 hv1
        go_wp2_with fail
        go_ret2
        exact ⟨none, 0, [], by rw [HR.out]; rfl, OwnR.none_, by rw [HR.out]; rfl, HB2.out⟩
      · have HR : Hid (FIN = some (dat os)) := Lib.hid (by rw [HV2.out, hv]; rfl)
        rw [hv] at hv1
        clear hv hM htl HV2
        go_wp2_with fail
        refine hv1.mono ?_
        rintro e w2 ⟨rfl, hb2⟩
        have HB2 := Lib.hid (bthen HB.out (Nat.le_refl _) hb2)
        have HO2 := Lib.hid (HO.out.below hb2)
        clear hb2 hv1
        go_wp2_with fail
        go_ret2
        exact ⟨A1, c1, os, by rw [HR.out, ← HOL.out]; rfl, HO2.out, by rw [HR.out]; rfl, HB2.out⟩
theorem ry_tl (l : List UInt8) : tlL ((ryS l).getD []) ≤ 1048576 := by
  unfold ryS
  split
  · simp [tlL]
  · split
    · rename_i hv
      have h := (dB_true hv).2.1
      rw [tlL_flat] at h
      show tlL _ ≤ _
      simp only [Option.getD_some]
      omega
    · simp [tlL]
end Go.Proofs.YtjgpppcjhneibaaGreatDoor
