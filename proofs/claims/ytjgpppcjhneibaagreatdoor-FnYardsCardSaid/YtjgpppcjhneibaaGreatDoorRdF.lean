/-
  ReadYard of the program.
-/
import Derived.Test.YtjgpppcjhneibaaGreatDoorRdC
import Derived.Test.YtjgpppcjhneibaaGreatDoorRdY
namespace Go.Proofs.YtjgpppcjhneibaaGreatDoor
open Go.ChangeShapes Go.WideShapes Go.RowKit

theorem count_any (s : ByteArray) (w : World) :
    Calls Tryz.prog 24 #[.string s, .string { data := #[44] }] w fun e w' => e = .returned (.int .i64 (s.data.toList.count 44 : Nat)) ∧ w = w' :=
  (Any.strings_Count_one Tryz.lays138 s 44 w).mono fun _ _ ⟨h1, h2⟩ => ⟨h1, h2.symm⟩
theorem lens_cons (x : List UInt8) (r : List (List UInt8)) : Lib.lens (x :: r) = x.length + Lib.lens r := by simp [Lib.lens]
theorem lens_splA (b : UInt8) (s : List UInt8) : ∀ acc, Lib.lens (splA b acc s) + (splA b acc s).length = acc.length + s.length + 1 := by
  induction s with
  | nil => intro acc; rw [splA_nil, lens_cons]; simp [Lib.lens]
  | cons c r ih =>
    intro acc
    by_cases h : c = b
    · have := ih []
      rw [splA_hit _ _ h, lens_cons, List.length_cons, List.length_cons]
      simp at this
      omega
    · have := ih (acc ++ [c])
      rw [splA_miss _ _ h, List.length_cons]
      simp at this
      omega
theorem lens_splK (b : UInt8) : ∀ (k : Nat) (s : List UInt8), Lib.lens (Lib.splitK [b] 0 k s) ≤ s.length := by
  intro k
  induction k with
  | zero => intro s; show Lib.lens [s] ≤ _; rw [lens_cons]; simp [Lib.lens]
  | succ k ih =>
    intro s
    unfold Lib.splitK
    split
    · rw [lens_cons]; simp [Lib.lens]
    · rename_i hi
      have := ih (s.drop ((Lib.index s [b]).toNat + [b].length))
      rw [lens_cons, List.length_take]
      rw [List.length_drop] at this
      omega
theorem rdN_pos {p : List UInt8} {v : Int} (h : rdN p = some v) : 1 ≤ p.length := by
  have := rdN_some h
  rw [← this]
  have h2 : trm (Lib.itoa v) ≠ [] := by rw [trm_itoa]; exact dec_ne _
  cases hh : Lib.itoa v with
  | nil => rw [hh] at h2; exact absurd rfl h2
  | cons _ _ => simp
theorem lens_pos {L : List (List UInt8)} {ys : List Int} (h : mapO rdN L = some ys) : L.length ≤ Lib.lens L := by
  induction L generalizing ys with
  | nil => simp
  | cons p r ih =>
    rw [mapO] at h
    cases ha : rdN p with
    | none => rw [ha] at h; cases h
    | some b =>
      rw [ha] at h
      cases hr : mapO rdN r with
      | none => rw [hr] at h; cases h
      | some zs =>
        have h1 := rdN_pos ha
        have h2 := ih hr
        rw [lens_cons, List.length_cons]
        omega
theorem rdY_len {p : List UInt8} {ys : List Int} (h : rdY p = some ys) : 2 * ys.length ≤ p.length + 1 := by
  unfold rdY at h
  split at h
  · cases h; simp
  · have h1 := lens_pos h
    have h2 := mapO_len h
    have h3 := lens_splA 44 p []
    unfold spl at h1 h2
    simp at h3
    omega
theorem rdY_tot {L : List (List UInt8)} {X : List (List Int)} (h : mapO rdY L = some X) : 2 * tlL X ≤ Lib.lens L + L.length := by
  induction L generalizing X with
  | nil => simp only [mapO, Option.some.injEq] at h; subst h; simp [tlL]
  | cons p r ih =>
    rw [mapO] at h
    cases ha : rdY p with
    | none => rw [ha] at h; cases h
    | some b =>
      rw [ha] at h
      cases hr : mapO rdY r with
      | none => rw [hr] at h; cases h
      | some zs =>
        rw [hr] at h
        simp only [Option.map_some, Option.some.injEq] at h
        subst h
        have h1 := rdY_len ha
        have h2 := ih hr
        rw [lens_cons, List.length_cons, tlL]
        omega
set_option maxRecDepth 100000 in
set_option maxHeartbeats 3200000 in
theorem implReadYard_any (s : ByteArray) (w : World) (hs : s.size ≤ 1048576) (hw : LibW w) :
    Calls Tryz.prog 6 #[.string s] w fun e w' => ∃ A c os, e = .returned (.tuple #[.slice A os.length c, .bool (ryS s.data.toList).isSome]) ∧ OwnR LI 32 2 w' w.heap.size A c os ∧ dat os = (ryS s.data.toList).getD [] ∧ Below w.heap.size w w' := by
  obtain ⟨FIN, hF⟩ : ∃ F, F = ryS s.data.toList := ⟨_, rfl⟩
  rw [← hF]
  rw [← ry_same] at hF
  have hc := fun W : World => splitN_any s 124 5 W hs (by omega) (by omega)
  have HV : Hid (FIN = match mapO (fun p : ByteArray => rdY p.data.toList) (SN 124 5 s) with | none => none | some X => if vyB X = true ∧ bs (ytL X) = s then some X else none) := Lib.hid (by
    rw [hF]
    unfold ryI SN
    rw [mapO_bs]
    cases mapO rdY (spN 124 5 s.data.toList) with
    | none => rfl
    | some X =>
      show (if vyB X = true ∧ ytL X = s.data.toList then some X else none) = if vyB X = true ∧ bs (ytL X) = s then some X else none
      by_cases e : ytL X = s.data.toList
      · rw [e, bs_self]
        by_cases hv : vyB X = true
        · rw [if_pos ⟨hv, rfl⟩, if_pos ⟨hv, rfl⟩]
        · rw [if_neg (fun h => hv h.1), if_neg (fun h => hv h.1)]
      · rw [if_neg (fun h => e h.2), if_neg (fun h => e (by rw [← h.2, bs_data]))])
  have HSZ : Hid (∀ p ∈ SN 124 5 s, p.size ≤ 1048576) := Lib.hid fun p hp => by have := sn_size hp; omega
  have hl5 : (SN 124 5 s).length ≤ 5 := by
    unfold SN
    rw [List.length_map]
    exact spN_le 124 _ (by omega)
  have HTOT : Hid (∀ X, mapO (fun p : ByteArray => rdY p.data.toList) (SN 124 5 s) = some X → tlL X ≤ 1048576) := Lib.hid fun X hX => by
    unfold SN at hX
    rw [mapO_bs] at hX
    have h1 := rdY_tot hX
    have h2 := lens_splK 124 (min 5 (s.data.toList.length + 1) - 1) s.data.toList
    have h3 := spN_le 124 (n := 5) s.data.toList (by omega)
    unfold spN at h1 h3
    rw [size_data] at h2 h1 h3
    omega
  have HL := Lib.hid hw
  generalize SN 124 5 s = L at *
  have HC := Lib.hid hc
  clear hF hs hc hw
  go_enter Tryz.func6, Tryz.ntmps6
  go_wp2_with fail
  refine (HC.out _).mono ?_
  rintro e w1 ⟨A, c, rfl, ho1, hb1⟩
  have HB1 := Lib.hid (bthen ((Below.refl w.heap.size w).alloc (Nat.le_refl _) (.cells #[] 32)) (by simp) hb1)
  have HO0 : Hid (OwnR LI 32 2 w1 w.heap.size (some ⟨w.heap.size, 0, none⟩) 0 []) := Lib.hid ⟨(Own.lit0 (L := LV) w (Nat.le_refl _) rfl).below hb1, (fun r hr => by cases hr), List.Pairwise.nil⟩
  have HLT : Hid (∀ g, blk A = some g → blk (some ⟨w.heap.size, 0, none⟩) ≠ some g) := Lib.hid fun g hg e => by have := (ho1.blk_lt g hg).1; simp at this; simp [blk] at e; omega
  have HO1 := Lib.hid (ho1.lower (b := w.heap.size) (by simp))
  have hs1 := HB1.out.size
  clear hb1 ho1 HC
  go_wp2_with fail
  go_loopw [4, 14] (fun o i wr => ∃ (k : Nat) (A1 : Option Addr) (c1 : Nat) (os : List (Row Int)) (L1 : List (Option Addr × Nat × Nat)), k ≤ L.length ∧ i = .int .i64 k ∧ o = .slice A1 L1.length c1 ∧ L1.length ≤ k ∧ Hid (L1 = os.map hd) ∧ Hid (mapO (fun p : ByteArray => rdY p.data.toList) (L.take k) = some (dat os)) ∧ Hid (OwnR LI 32 2 wr w.heap.size A1 c1 os) ∧ Hid (Own LS 9 wr w.heap.size A c L) ∧ Hid (∀ g, blk A = some g → blk A1 ≠ some g) ∧ Hid (Below w.heap.size w wr)) (fun _ i _ => L.length - (intOf i).toNat)
  case atStart => exact ⟨0, _, _, [], [], by omega, rfl, rfl, by simp, Lib.hid rfl, Lib.hid rfl, HO0, HO1, HLT, HB1⟩
  case round =>
    obtain ⟨k, A1, c1, os, L1, hk, rfl, rfl, hyk, HL1, HM, HO, HP, HA, HB⟩ := hrel
    have hsz := HB.out.size
    by_cases hlt : k < L.length
    · obtain ⟨ad, rfl, hab, hcell⟩ := HP.out.rd.str hlt
      have hki : (k : Int) < L.length := by omega
      have HMS : Hid (∀ y, rdY L[k].data.toList = some y → mapO (fun p : ByteArray => rdY p.data.toList) (L.take (k + 1)) = some (dat os ++ [y])) := Lib.hid fun y hy => by rw [List.take_succ_eq_append_getElem hlt]; exact mapO_snoc _ _ _ _ _ HM.out hy
      have HMN : Hid (rdY L[k].data.toList = none → FIN = none) := Lib.hid fun hy => by rw [HV.out, mapO_none (List.getElem_mem hlt) hy]
      have hsq := HSZ.out _ (List.getElem_mem hlt)
      generalize L[k] = q at *
      by_cases h0 : q.data.toList = []
      · have HM2 := Lib.hid (HMS.out [] (by unfold rdY; rw [if_pos h0]))
        obtain rfl : q = { data := #[] } := bs_eq h0
        have hout : Own LV 32 (wr.alloc (.cells #[] 2)) w.heap.size A1 c1 L1 := by rw [HL1.out]; exact HO.out.out.alloc _
        clear HMS HMN h0
        have HlO := Lib.hid HO.out.blk_lt
        go_wp2_with (at_builtin; go_loud (refine wpL_app1 (L := LV) rowV rfl rfl _ _ rfl rfl hout (some ⟨wr.heap.size, 0, none⟩, 0, 0) _ rfl rfl (by simp) (by unfold maxLen; omega) (by omega) (by simp; omega) ?_); intro A6 c6 w6 ho6 hg6)
        go_roundw
        case rel =>
          have hb2 := (Below.refl wr.heap.size wr).alloc (Nat.le_refl _) (.cells #[] 2)
          have hsn := OwnR.snoc (r := (some ⟨wr.heap.size, 0, none⟩, 0, [])) (HO.out.below hb2) (by decide) ((Own.lit0 (L := LI) wr (Nat.le_refl _) rfl).lower (by omega)) (fun s hs g h1 h2 => by have := HlO.out.2 s hs g h1; simp [blk] at h2; omega) (by
            rw [HL1.out] at ho6
            exact ho6) hg6
          refine ⟨k + 1, A6, c6, _, L1 ++ [(some ⟨wr.heap.size, 0, none⟩, 0, 0)], by omega, by go_num, by simp, by simp; omega, Lib.hid ?_, Lib.hid ?_, Lib.hid hsn, Lib.hid (hg6.own (HP.out.alloc _) HA.out).1, Lib.hid (hg6.own (HP.out.alloc _) HA.out).2, Lib.hid ?_⟩
          · rw [HL1.out, List.map_append]
            simp [hd]
          · rw [dat_append]; exact HM2.out
          · exact Grew.below (HB.out.alloc hsz _) hg6 (by simp; omega) fun g' hg' => (HlO.out.1 g' hg').1
        case measure => simp [intOf]; omega
      · have hqe : q.toList.isEmpty = false := by
          rw [Lib.toList_data]
          cases h : q.data.toList with
          | nil => exact absurd h h0
          | cons _ _ => rfl
        have hqe2 : (!q.toList.isEmpty) = true := by rw [hqe]; rfl
        obtain ⟨n, hn⟩ : ∃ n : Nat, n = q.data.toList.count 44 := ⟨_, rfl⟩
        have hnb : n ≤ 1048576 := by
          have := List.count_le_length (a := (44 : UInt8)) (l := q.data.toList)
          rw [size_data] at this
          omega
        have HRY : Hid (rdY q.data.toList = rdM 44 (n + 1) q) := Lib.hid (by rw [rdM_eq, hn, rdNs_all]; unfold rdY; rw [if_neg h0])
        have hcn := count_any q
        rw [← hn] at hcn
        have hrd := fun (W : World) (hW : LibW W) => readNumbers_any q 44 (n + 1) W hsq (by omega) hW
        rw [show ((n + 1 : Nat) : Int) = (n : Int) + 1 by omega] at hrd
        have HCN := Lib.hid hcn
        have HLW : Hid (LibW (wr.alloc (.cells #[] 2))) := Lib.hid (lib_below HL.out (HB.out.alloc hsz _) (Nat.le_refl _))
        have hr1 := hrd (wr.alloc (.cells #[] 2)) HLW.out
        clear hcn hrd h0 hn
        cases hr : rdM 44 (n + 1) q with
        | none =>
          have HR : Hid (FIN = none) := Lib.hid (HMN.out (by rw [HRY.out, hr]))
          rw [hr] at hr1
          change Calls _ _ _ _ (fun e w' => ∃ A c, e = .returned (.tuple #[.slice A 0 c, .bool false]) ∧ _) at hr1
          clear hr HMS HMN HRY
          go_wp2_with fail
          refine (HCN.out _).mono ?_
          rintro e w2 ⟨rfl, rfl⟩
          go_wp2_with fail
          refine hr1.mono ?_
          rintro e w2 ⟨A2, c2, rfl, _, hb2⟩
          have HB2 := Lib.hid (bthen (HB.out.alloc hsz _) (by simp) hb2)
          clear hb2 hr1
          go_wp2_with fail
          go_ret2
          exact ⟨none, 0, [], by rw [HR.out]; rfl, OwnR.none_, by rw [HR.out]; rfl, HB2.out⟩
        | some ys =>
          have HM2 := Lib.hid (HMS.out ys (by rw [HRY.out, hr]))
          rw [hr] at hr1
          change Calls _ _ _ _ (fun e w' => ∃ A c, e = .returned (.tuple #[.slice A ys.length c, .bool true]) ∧ Own LI 2 w' (wr.alloc (.cells #[] 2)).heap.size A c ys ∧ _) at hr1
          clear hr HMS HMN HRY
          go_wp2_with fail
          refine (HCN.out _).mono ?_
          rintro e w2 ⟨rfl, rfl⟩
          go_wp2_with fail
          refine hr1.mono ?_
          rintro e w2 ⟨A2, c2, rfl, ho2, hb2⟩
          have HB2 := Lib.hid (bthen (HB.out.alloc hsz (.cells #[] 2)) (by simp) hb2)
          have HO2 := Lib.hid ho2
          have HlO := Lib.hid HO.out.blk_lt
          have HO3 := Lib.hid ((HO.out.below ((Below.refl wr.heap.size wr).alloc (Nat.le_refl _) (.cells #[] 2))).below hb2)
          have HP3 := Lib.hid ((HP.out.alloc (.cells #[] 2)).below hb2)
          have hs2 := HB2.out.size
          have hs3 := hb2.size
          simp only [World.size_alloc] at hs3
          have hout : Own LV 32 w2 w.heap.size A1 c1 L1 := by rw [HL1.out]; exact HO3.out.out
          clear hb2 hr1 ho2
          go_wp2_with (at_builtin; go_loud (refine wpL_app1 (L := LV) rowV rfl rfl _ _ rfl rfl hout (A2, ys.length, c2) _ rfl rfl (by simp) (by unfold maxLen; omega) (by omega) (by omega) ?_); intro A6 c6 w6 ho6 hg6)
          go_roundw
          case rel =>
            have hsn := OwnR.snoc (r := (A2, c2, ys)) HO3.out (by decide) (HO2.out.lower (by simp; omega)) (fun s hs g h1 h2 => by have := HlO.out.2 s hs g h1; have := HO2.out.blk_lt g h2; simp at this; omega) (by
              rw [HL1.out] at ho6
              exact ho6) hg6
            refine ⟨k + 1, A6, c6, _, L1 ++ [(A2, ys.length, c2)], by omega, by go_num, by simp, by simp; omega, Lib.hid ?_, Lib.hid ?_, Lib.hid hsn, Lib.hid (hg6.own HP3.out HA.out).1, Lib.hid (hg6.own HP3.out HA.out).2, Lib.hid ?_⟩
            · rw [HL1.out, List.map_append]
              simp [hd]
            · rw [dat_append]; exact HM2.out
            · exact Grew.below HB2.out hg6 (by omega) fun g' hg' => (HlO.out.1 g' hg').1
          case measure => simp [intOf]; omega
    · obtain rfl : k = L.length := by omega
      have hM : mapO (fun p : ByteArray => rdY p.data.toList) L = some (dat os) := by
        have := HM.out
        rw [List.take_of_length_le (Nat.le_refl _)] at this
        exact this
      have HV2 : Hid (FIN = if vyB (dat os) = true ∧ bs (ytL (dat os)) = s then some (dat os) else none) := Lib.hid (by rw [HV.out, hM])
      have htl := HTOT.out _ hM
      have HOL : Hid (L1.length = os.length) := Lib.hid (by rw [HL1.out, List.length_map])
      have hv1 := implValidYard_any A1 c1 os wr HO.out.rd htl
      rw [← HOL.out] at hv1
      have HLW : Hid (LibW wr) := Lib.hid (lib_below HL.out HB.out (Nat.le_refl _))
      cases hv : vyB (dat os)
      · have HR : Hid (FIN = none) := Lib.hid (by rw [HV2.out, if_neg (by rw [hv]; simp)])
        rw [hv] at hv1
        clear hv hM htl HV2
        go_wp2_with fail
        refine hv1.mono ?_
        rintro e w2 ⟨rfl, hb2⟩
        have HB2 := Lib.hid (bthen HB.out (Nat.le_refl _) hb2)
        clear hb2 hv1
        go_wp2_with fail
        go_ret2
        exact ⟨none, 0, [], by rw [HR.out]; rfl, OwnR.none_, by rw [HR.out]; rfl, HB2.out⟩
      · have hyt := fun (W : World) (hb : Below wr.heap.size wr W) => yardText_any A1 c1 os W ((HO.out.rd.below hb).more hb.size) (YB.of hv) (lib_below HLW.out hb (Nat.le_refl _)).tab
        rw [← HOL.out] at hyt
        rw [hv] at hv1
        by_cases hq : bs (ytL (dat os)) = s
        · have HR : Hid (FIN = some (dat os)) := Lib.hid (by rw [HV2.out, if_pos ⟨hv, hq⟩])
          rw [hq] at hyt
          have HYT := Lib.hid hyt
          clear hv hM htl HV2 hq hyt
          go_wp2_with fail
          refine hv1.mono ?_
          rintro e w2 ⟨rfl, hb2⟩
          have HB2 := Lib.hid (bthen HB.out (Nat.le_refl _) hb2)
          have hy2 := HYT.out w2 hb2
          have HO2 := Lib.hid (HO.out.below hb2)
          clear hb2 hv1
          go_wp2_with fail
          refine hy2.mono ?_
          rintro e w3 ⟨rfl, hb3⟩
          have HB3 := Lib.hid (bthen HB2.out (Nat.le_refl _) hb3)
          have HO3 := Lib.hid (HO2.out.below hb3)
          clear hb3 hy2
          go_wp2_with fail
          go_ret2
          exact ⟨A1, c1, os, by rw [HR.out, ← HOL.out]; rfl, HO3.out, by rw [HR.out]; rfl, HB3.out⟩
        · have HR : Hid (FIN = none) := Lib.hid (by rw [HV2.out, if_neg (fun h => hq h.2)])
          have y1 := str_ne hq
          have y2 : ((bs (ytL (dat os))).toList != s.toList) = true := by rw [bne, y1]; rfl
          generalize bs (ytL (dat os)) = tx at *
          have HYT := Lib.hid hyt
          clear hv hM htl HV2 hq hyt
          go_wp2_with fail
          refine hv1.mono ?_
          rintro e w2 ⟨rfl, hb2⟩
          have HB2 := Lib.hid (bthen HB.out (Nat.le_refl _) hb2)
          have hy2 := HYT.out w2 hb2
          clear hb2 hv1
          go_wp2_with fail
          refine hy2.mono ?_
          rintro e w3 ⟨rfl, hb3⟩
          have HB3 := Lib.hid (bthen HB2.out (Nat.le_refl _) hb3)
          clear hb3 hy2
          go_wp2_with fail
          go_ret2
          exact ⟨none, 0, [], by rw [HR.out]; rfl, OwnR.none_, by rw [HR.out]; rfl, HB3.out⟩
end Go.Proofs.YtjgpppcjhneibaaGreatDoor
