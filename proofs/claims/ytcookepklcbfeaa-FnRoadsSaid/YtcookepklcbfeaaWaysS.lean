/-
  The table of the shortest ways, the reference's side; ShortestWays, both sides.
-/
import Derived.Test.YtcookepklcbfeaaWays
namespace Go.Proofs.Ytcookepklcbfeaa
open Go.ChangeShapes Go.WideShapes Go.RowKit

theorem w0R_snoc (X : List (List Int)) (n i : Nat) {j : Nat} (h : j < n) : (w0R X n i).take (j + 1) = (w0R X n i).take j ++ [w0 X i j] := by
  rw [List.take_succ_eq_append_getElem (by rw [w0R_len]; exact h), w0R_get]
set_option maxRecDepth 100000 in
set_option maxHeartbeats 6400000 in
theorem l21Ways_any (A : Option Addr) (c : Nat) (qs : List (Row Int)) (B : Nat) (w : World) (hr : RdR LI w B A c qs) (hB : B ≤ w.heap.size) (hv : VR (dat qs)) :
    Calls Try.prog 60 #[.slice A qs.length c] w fun e w' => ∃ A1 c1 rs, e = .returned (.slice A1 rs.length c1) ∧ OwnR LI 24 2 w' w.heap.size A1 c1 rs ∧ dat rs = mat qs.length (Dw (dat qs)) ∧ Below w.heap.size w w' := by
  have hlen := hr.len63
  have hl8 : qs.length ≤ 8 := by have := hv.1.2; rw [dat_len] at this; exact this
  obtain ⟨n, hn⟩ : ∃ n, n = qs.length := ⟨_, rfl⟩
  have HX : Hid ((dat qs).length = n) := Lib.hid (by rw [dat_len, hn])
  have HL : Hid (∀ i (hi : i < qs.length), qs[i].2.2.length = n) := Lib.hid fun i hi => vr_dat hv HX.out hi
  have HG := Lib.hid fun i k (hi : i < qs.length) (hk : k < qs[i].2.2.length) => gt_dat qs i k hi hk
  have HV := Lib.hid hv
  have Hn := Lib.hid hn
  clear hv
  generalize dat qs = X at *
  rw [← hn] at hl8 hlen ⊢
  clear hn
  have hXa : n ≤ X.length := by have := HX.out; omega
  have hXb : X.length ≤ n := by have := HX.out; omega
  go_enter Try.func60, Try.ntmps60
  go_wp2_with fail
  go_loopw [4, 5, 6, 7, 8] (fun o i _ _ _ wr => ∃ (k : Nat) (A1 : Option Addr) (c1 : Nat) (rs : List (Row Int)) (L1 : List (Option Addr × Nat × Nat)), k ≤ n ∧ i = .int .i64 k ∧ o = .slice A1 L1.length c1 ∧ Hid (L1 = rs.map hd) ∧ OwnR LI 24 2 wr w.heap.size A1 c1 rs ∧ Hid (rs.length = k ∧ dat rs = (mat n (w0 X)).take k) ∧ Below w.heap.size w wr) (fun _ i _ _ _ _ => n - (intOf i).toNat)
  case atStart => exact ⟨0, _, _, [], [], by omega, rfl, rfl, Lib.hid rfl, ⟨Own.lit0 w (Nat.le_refl _) rfl, (fun r hr => by cases hr), List.Pairwise.nil⟩, Lib.hid ⟨rfl, rfl⟩, (Below.refl _ _).alloc (Nat.le_refl _) _⟩
  case round =>
    obtain ⟨k, A1, c1, rs, L1, hk, rfl, rfl, HL1, hO, Hrs, hbel⟩ := hrel
    have hsz := hbel.size
    by_cases hlt : k < n
    · have hkq : k < qs.length := by have := Hn.out; omega
      have hkl := HL.out k hkq
      have HGk : Hid (∀ j (hj : j < qs[k].2.2.length), gt X k j = qs[k].2.2[j]) := Lib.hid fun j hj => HG.out k j hkq hj
      have HKL := Lib.hid hkl
      have hRd : ∀ W, Below B w W → ∃ ad, A = some ad ∧ ad.block < B ∧ W.cell? (ad.add k) = some (.slice qs[k].1 qs[k].2.2.length qs[k].2.1) ∧ Rd LI W B qs[k].1 qs[k].2.1 qs[k].2.2 := fun W hW => (hr.below hW).at_ hkq
      rw [hkl] at hRd
      have HRd := Lib.hid hRd
      clear hRd hkl
      generalize qs[k].2.2 = ys at *
      generalize qs[k].1 = Ay at *
      generalize qs[k].2.1 = cy at *
      obtain ⟨wq, rfl⟩ : ∃ wq : World, wq = wr := ⟨_, rfl⟩
      go_wp2_with fail
      go_loopw [6, 7, 8] (fun r i _ wr => ∃ (j : Nat) (A2 : Option Addr) (c2 : Nat) (L : List Int), j ≤ n ∧ i = .int .i64 j ∧ r = .slice A2 L.length c2 ∧ Hid (L = (w0R X n k).take j) ∧ L.length ≤ j ∧ Own LI 2 wr wq.heap.size A2 c2 L ∧ Below wq.heap.size wq wr) (fun _ i _ _ => n - (intOf i).toNat)
      case atStart => exact ⟨0, _, _, [], by omega, rfl, rfl, Lib.hid rfl, by simp, Own.lit0 wq (Nat.le_refl _) rfl, (Below.refl _ _).alloc (Nat.le_refl _) _⟩
      case round =>
        obtain ⟨j, A2, c2, L, hj, rfl, rfl, HL2, hLj, ho, hbi⟩ := hrel
        have hsi := hbi.size
        by_cases hjn : j < n
        · have hjy : j < ys.length := by have := HKL.out; omega
          obtain ⟨ad, rfl, hab, hcell, hrk⟩ := HRd.out wr ((hbel.mono hB).trans (hbi.mono (by omega)))
          obtain ⟨ad2, rfl, hab2, hcj⟩ := hrk.int hjy
          have hk0 : (k : Int) < n := by omega
          have hj0 : (j : Int) < n := by omega
          have HW : Hid (w0 X k j = if ys[j] = 0 ∧ j ≠ k then -1 else ys[j]) := Lib.hid (by unfold w0; rw [HGk.out j hjy])
          have HS := Lib.hid (w0R_snoc X n k hjn)
          generalize ys[j] = v at *
          generalize w0 X k j = r at *
          by_cases hv : v = 0 ∧ j ≠ k
          · have HE : Hid (r = -1) := Lib.hid (by rw [HW.out, if_pos hv])
            obtain ⟨rfl, hjk⟩ := hv
            have hne : ((k : Int) != (j : Int)) = true := by simp; omega
            clear hjk
            go_wp2_with (at_builtin; go_loud (refine wpL_app1 (L := LI) rowI rfl rfl _ _ rfl rfl ho (-1) _ rfl rfl (by simp) (by unfold maxLen; omega) (by omega) (by omega) ?_); intro A4 c4 w4 ho4 hg4)
            go_roundw
            case rel => exact ⟨j + 1, A4, c4, L ++ [-1], by omega, by go_num, by simp, Lib.hid (by rw [HL2.out, HS.out, HE.out]), by simp; omega, ho4, Grew.below hbi hg4 hsi fun g' hg' => (ho.blk_lt g' hg').1⟩
            case measure => simp [intOf]; omega
          · have HE : Hid (r = v) := Lib.hid (by rw [HW.out, if_neg hv])
            by_cases hz : v = 0
            · subst hz
              have hjk : j = k := by omega
              subst hjk
              have hne : ((j : Int) != (j : Int)) = false := by simp
              clear hv
              go_wp2_with (at_builtin; go_loud (refine wpL_app1 (L := LI) rowI rfl rfl _ _ rfl rfl ho 0 _ rfl rfl (by simp) (by unfold maxLen; omega) (by omega) (by omega) ?_); intro A4 c4 w4 ho4 hg4)
              go_roundw
              case rel => exact ⟨j + 1, A4, c4, L ++ [0], by omega, by go_num, by simp, Lib.hid (by rw [HL2.out, HS.out, HE.out]), by simp; omega, ho4, Grew.below hbi hg4 hsi fun g' hg' => (ho.blk_lt g' hg').1⟩
              case measure => simp [intOf]; omega
            · have hvz : (v == 0) = false := by simpa using hz
              clear hv hz
              go_wp2_with (at_builtin; go_loud (refine wpL_app1 (L := LI) rowI rfl rfl _ _ rfl rfl ho v _ rfl rfl (by simp) (by unfold maxLen; omega) (by omega) (by omega) ?_); intro A4 c4 w4 ho4 hg4)
              go_roundw
              case rel => exact ⟨j + 1, A4, c4, L ++ [v], by omega, by go_num, by simp, Lib.hid (by rw [HL2.out, HS.out, HE.out]), by simp; omega, ho4, Grew.below hbi hg4 hsi fun g' hg' => (ho.blk_lt g' hg').1⟩
              case measure => simp [intOf]; omega
        · have hjj : j = n := by omega
          have HLe : Hid (L = w0R X n k) := Lib.hid (by rw [HL2.out, List.take_of_length_le (by rw [w0R_len]; omega)])
          have hO3 := hO.below hbi
          have hout : Own LV 24 wr w.heap.size A1 c1 L1 := by rw [HL1.out]; exact hO3.out
          have hLk : L1.length ≤ k := by rw [HL1.out, List.length_map]; have := Hrs.out.1; omega
          have HlO := Lib.hid hO.blk_lt
          go_wp2_with (at_builtin; go_loud (refine wpL_app1 (L := LV) rowV rfl rfl _ _ rfl rfl hout (A2, L.length, c2) _ rfl rfl (by simp) (by unfold maxLen; omega) (by omega) (by omega) ?_); intro A4 c4 w4 ho4 hg4)
          go_roundw
          case rel =>
            have hsn := OwnR.snoc (r := (A2, c2, L)) hO3 (by decide) (ho.lower hsz) (fun s hs g h1 h2 => by have := HlO.out.2 s hs g h1; have := ho.blk_lt g h2; omega) (by
              rw [HL1.out] at ho4
              exact ho4) hg4
            refine ⟨k + 1, A4, c4, _, L1 ++ [(A2, L.length, c2)], by omega, by go_num, by simp, Lib.hid ?_, hsn, Lib.hid ⟨?_, ?_⟩, ?_⟩
            · rw [HL1.out, List.map_append]; rfl
            · have := Hrs.out.1; simp; omega
            · rw [dat_append, Hrs.out.2, mat0_succ X hlt, HLe.out]; rfl
            · exact Grew.below (hbel.trans (hbi.mono hsz)) hg4 (by omega) fun g' hg' => (HlO.out.1 g' hg').1
          case measure => simp [intOf]; omega
    · have hkk : k = n := by omega
      subst hkk
      have hLn : L1.length = k := by rw [HL1.out, List.length_map]; exact Hrs.out.1
      rw [hLn]
      have hO0 := hO
      have hbl0 := hbel
      obtain ⟨rs0, rfl⟩ : ∃ rs0, rs0 = rs := ⟨_, rfl⟩
      obtain ⟨n, rfl⟩ : ∃ n, n = k := ⟨_, rfl⟩
      have Hd0 : Hid (dat rs0 = mat n (w0 X)) := Lib.hid (by rw [Hrs.out.2, List.take_of_length_le (by rw [mat_len]; exact Nat.le_refl _)])
      clear hO hbel Hrs HL1 hk HL HG hlt hLn
      go_wp2_with fail
      go_loopw [9,10,11,12] (fun a9 a10 a11 a12 wr => ∃ (m : Nat) (rs : List (Row Int)), m ≤ n ∧ a9 = .int .i64 m ∧ OwnR LI 24 2 wr w.heap.size A1 c1 rs ∧ Hid (dat rs = mat n (Fw X m 0 0)) ∧ Below w.heap.size w wr) (fun a9 a10 a11 a12 _ => n - (intOf a9).toNat)
      case atStart => exact ⟨0, rs0, by omega, rfl, hO0, Lib.hid (by rw [Hd0.out, Fw_start]; rfl), hbl0⟩
      case round =>
        obtain ⟨m, rs, hmn, rfl, hO, Hd, hbel⟩ := hrel
        by_cases hm : m < n
        · go_wp2_with fail
          go_loopw [10,11,12] (fun a10 a11 a12 wr => ∃ (i : Nat) (rs : List (Row Int)), i ≤ n ∧ a10 = .int .i64 i ∧ OwnR LI 24 2 wr w.heap.size A1 c1 rs ∧ Hid (dat rs = mat n (Fw X m i 0)) ∧ Below w.heap.size w wr) (fun a10 a11 a12 _ => n - (intOf a10).toNat)
          case atStart => exact ⟨0, rs, by omega, rfl, hO, Hd, hbel⟩
          case round =>
            obtain ⟨i, rs, hin, rfl, hO, Hd, hbel⟩ := hrel
            by_cases hi : i < n
            · go_wp2_with fail
              go_loopw [11,12] (fun a11 a12 wr => ∃ (k : Nat) (rs : List (Row Int)), k ≤ n ∧ a11 = .int .i64 k ∧ OwnR LI 24 2 wr w.heap.size A1 c1 rs ∧ Hid (dat rs = mat n (Fw X m i k)) ∧ Below w.heap.size w wr) (fun a11 a12 _ => n - (intOf a11).toNat)
              case atStart => exact ⟨0, rs, by omega, rfl, hO, Hd, hbel⟩
              case round =>
                obtain ⟨k, rs, hkn, rfl, hO, Hd, hbel⟩ := hrel
                have hsz := hbel.size
                by_cases hk : k < n
                · obtain ⟨g, gi, ci, hA, hg1, hg2, hci, hgi1, hgi2, hcc, hfr, hset⟩ := hO.cellsM (by decide) Hd.out hi
                  obtain ⟨g', gm, cm, hA', _, _, hcm, _, _, hccm, _, _⟩ := hO.cellsM (by decide) Hd.out hm
                  cases hA
                  cases hA'
                  have q1 := hcc m hm
                  have q2 := hccm k hk
                  have q3 := hcc k hk
                  have q4 := hfr k
                  rw [Fw_col HV.out (by omega)] at q1
                  rw [Fw_row HV.out (by omega)] at q2
                  rw [Fw_at] at q3
                  obtain ⟨a0, a1⟩ := Pw_bd HV.out (m := m) (by omega) (a := i) (b := m) (by omega) (by omega)
                  obtain ⟨b0, b1⟩ := Pw_bd HV.out (m := m) (by omega) (a := m) (b := k) (by omega) (by omega)
                  obtain ⟨x0, x1⟩ := Pw_bd HV.out (m := m) (by omega) (a := i) (b := k) (by omega) (by omega)
                  have HP : Hid (Pw X (m + 1) i k = if Pw X m i m < 0 ∨ Pw X m m k < 0 then Pw X m i k else if Pw X m i k < 0 ∨ Pw X m i m + Pw X m m k < Pw X m i k then Pw X m i m + Pw X m m k else Pw X m i k) := Lib.hid rfl
                  have HK := Lib.hid (Fw_keep (X := X) m i k)
                  have HU := Lib.hid (fun x => Fw_put (X := X) m i k (x := x))
                  have Hset := Lib.hid hset
                  have hi0 : (i : Int) < n := by omega
                  have hm0 : (m : Int) < n := by omega
                  have hk0 : (k : Int) < n := by omega
                  clear hcc hccm hfr hset
                  generalize Pw X m i m = a at *
                  generalize Pw X m m k = b at *
                  generalize Pw X m i k = x at *
                  by_cases ha : a < 0
                  · have HE := Lib.hid (HK.out (by rw [HP.out, if_pos (.inl ha)]))
                    go_wp2_with fail
                    go_roundw
                    case rel => exact ⟨k + 1, rs, by omega, by go_num, hO, Lib.hid (by rw [HE.out]; exact Hd.out), hbel⟩
                    case measure => simp [intOf]; omega
                  · have ha' : 0 ≤ a := by omega
                    by_cases hb : b < 0
                    · have HE := Lib.hid (HK.out (by rw [HP.out, if_pos (.inr hb)]))
                      clear ha
                      go_wp2_with fail
                      go_roundw
                      case rel => exact ⟨k + 1, rs, by omega, by go_num, hO, Lib.hid (by rw [HE.out]; exact Hd.out), hbel⟩
                      case measure => simp [intOf]; omega
                    · have hb' : 0 ≤ b := by omega
                      have HP2 : Hid (Pw X (m + 1) i k = if x < 0 ∨ a + b < x then a + b else x) := Lib.hid (by rw [HP.out, if_neg (by omega)])
                      by_cases hx : x < 0
                      · have HE := Lib.hid (HU.out (a + b) (by rw [HP2.out, if_pos (.inl hx)]))
                        clear ha hb
                        go_wp2_with fail
                        go_quiet (fail)
                        go_wp2_with fail
                        go_roundw
                        case rel =>
                          obtain ⟨rs', hO', hd'⟩ := Hset.out k (a + b) hk
                          exact ⟨k + 1, rs', by omega, by go_num, hO'.drewN _, Lib.hid (by rw [hd', HE.out]), below_drewN (hbel.setCell hgi1 _) _⟩
                        case measure => simp [intOf]; omega
                      · have hx' : 0 ≤ x := by omega
                        by_cases hl : a + b < x
                        · have HE := Lib.hid (HU.out (a + b) (by rw [HP2.out, if_pos (.inr hl)]))
                          clear ha hb hx
                          go_wp2_with fail
                          go_quiet (fail)
                          go_wp2_with fail
                          go_roundw
                          case rel =>
                            obtain ⟨rs', hO', hd'⟩ := Hset.out k (a + b) hk
                            exact ⟨k + 1, rs', by omega, by go_num, hO'.drewN _, Lib.hid (by rw [hd', HE.out]), below_drewN (hbel.setCell hgi1 _) _⟩
                          case measure => simp [intOf]; omega
                        · have HE := Lib.hid (HK.out (by rw [HP2.out, if_neg (by omega)]))
                          have hl' : x ≤ a + b := by omega
                          clear ha hb hx hl
                          go_wp2_with fail
                          go_quiet (fail)
                          go_wp2_with fail
                          go_roundw
                          case rel => exact ⟨k + 1, rs, by omega, by go_num, hO.drewN _, Lib.hid (by rw [HE.out]; exact Hd.out), below_drewN hbel _⟩
                          case measure => simp [intOf]; omega
                · have hkk : k = n := by omega
                  subst hkk
                  go_wp2_with fail
                  go_roundw
                  case rel => exact ⟨i + 1, rs, by omega, by go_num, hO, Lib.hid (by rw [Hd.out]; exact Fw_row_end X m i _), hbel⟩
                  case measure => simp [intOf]; omega
            · have hii : i = n := by omega
              subst hii
              go_wp2_with fail
              go_roundw
              case rel => exact ⟨m + 1, rs, by omega, by go_num, hO, Lib.hid (by rw [Hd.out]; exact Fw_end X m _), hbel⟩
              case measure => simp [intOf]; omega
        · have hmm : m = n := by omega
          subst hmm
          have HD : Hid (dat rs = mat m (Dw X)) := Lib.hid (by rw [Hd.out, Fw_start]; unfold Dw; rw [HX.out])
          go_wp2_with fail
          go_ret
          exact ⟨A1, c1, rs, by rw [mat_rows HD.out]; first | done | rfl, hO, HD.out, hbel⟩
end Go.Proofs.Ytcookepklcbfeaa
