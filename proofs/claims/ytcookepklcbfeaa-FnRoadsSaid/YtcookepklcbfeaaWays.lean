/-
  The table of the shortest ways: the program's ways, the reference's l21Ways.
-/
import Derived.Test.YtcookepklcbfeaaWaysPlain
import Derived.Test.YtcookepklcbfeaaClone
import Derived.Test.YtcookepklcbfeaaFlat0
import Derived.Deep.QuietTactic
import Derived.BigQuiet
namespace Go.Proofs.Ytcookepklcbfeaa
open Go.ChangeShapes Go.WideShapes Go.RowKit

theorem mat_rows {rs : List (Row Int)} {n : Nat} {M : Nat → Nat → Int} (h : dat rs = mat n M) : rs.length = n := by rw [← dat_len, h, mat_len]
theorem mat_row {rs : List (Row Int)} {n : Nat} {M : Nat → Nat → Int} (h : dat rs = mat n M) {i : Nat} (hi : i < rs.length) : rs[i].2.2 = (List.range n).map fun k => M i k := by
  have := dat_get rs i hi
  rw [← this]
  simp only [h]
  exact mat_get M _
theorem OwnR.cellsM {T1 T2 : TypeId} {w : World} {base c : Nat} {A : Option Addr} {rs : List (Row Int)} {n : Nat} {M : Nat → Nat → Int} (h : OwnR LI T1 T2 w base A c rs) (hT : T1 ≠ T2) (hd : dat rs = mat n M) {i : Nat} (hi : i < n) :
    ∃ g gi ci, A = some ⟨g, 0, none⟩ ∧ base ≤ g ∧ g < w.heap.size ∧ w.cell? ⟨g, i, none⟩ = some (.slice (some ⟨gi, 0, none⟩) n ci) ∧ base ≤ gi ∧ gi < w.heap.size ∧ (∀ b, b < n → w.cell? ⟨gi, b, none⟩ = some (.int .i64 (M i b))) ∧ (∀ b, w.frozen? ⟨gi, b, none⟩ = false) ∧
      ∀ k x, k < n → ∃ rs', OwnR LI T1 T2 (w.setCell ⟨gi, k, none⟩ (.int .i64 x)) base A c rs' ∧ dat rs' = mat n fun a b => if a = i ∧ b = k then x else M a b := by
  have hil : i < rs.length := by rw [mat_rows hd]; exact hi
  have hr := mat_row hd hil
  have hrl : rs[i].2.2.length = n := by rw [hr]; simp
  obtain ⟨g, hA, hg1, hg2, hc, hf, hri⟩ := h.at_ hil
  obtain ⟨gi, hgi, hb1, hb2⟩ := hri.ptr (by omega)
  rw [hgi, hrl] at hc
  refine ⟨g, gi, _, hA, hg1, hg2, hc, hb1, hb2, fun b hb => ?_, fun b => ?_, fun k x hk => ?_⟩
  · obtain ⟨g', e, _, _, hcb, _⟩ := hri.int (k := b) (by omega)
    rw [hgi] at e
    cases e
    rw [hcb]
    simp [hr]
  · have := hri
    rw [hgi] at this
    exact World.ownsRow.frozenAt this b
  · refine ⟨_, h.setInt hT hil hgi k x, ?_⟩
    rw [dat_set, hd, hr]
    exact mat_set M hi hk x
theorem paint_at {α : Type} (ys xs : List α) (h : ys.length = xs.length) {i : Nat} (hi : i < xs.length) : (ys.take i ++ xs.drop i)[i]'(by simp; omega) = xs[i] := by
  rw [List.getElem_append_right (by simp; omega)]
  have e : i + (i - (List.take i ys).length) = i := by simp; omega
  simp only [List.getElem_drop, e]
theorem paint_keep {α : Type} (ys xs : List α) (h : ys.length = xs.length) {i : Nat} (hi : i < xs.length) (he : ys[i]'(by omega) = xs[i]) : ys.take (i + 1) ++ xs.drop (i + 1) = ys.take i ++ xs.drop i := by
  rw [List.take_succ_eq_append_getElem (by omega), List.drop_eq_getElem_cons hi, he]
  simp
def w0R (X : List (List Int)) (n i : Nat) : List Int := (List.range n).map fun k => w0 X i k
theorem w0R_len (X : List (List Int)) (n i : Nat) : (w0R X n i).length = n := by simp [w0R]
theorem w0R_get (X : List (List Int)) (n i : Nat) {k : Nat} (h : k < (w0R X n i).length) : (w0R X n i)[k] = w0 X i k := by simp [w0R]
theorem mat0_succ (X : List (List Int)) {n i : Nat} (h : i < n) : (mat n (w0 X)).take (i + 1) = (mat n (w0 X)).take i ++ [w0R X n i] := by
  rw [List.take_succ_eq_append_getElem (by rw [mat_len]; exact h), mat_get]
  rfl
theorem vr_dat {rs : List (Row Int)} {n : Nat} (h : VR (dat rs)) (hn : (dat rs).length = n) {i : Nat} (hi : i < rs.length) : rs[i].2.2.length = n := by
  have := h.2.1 i (by rw [dat_len]; exact hi)
  rw [getD_dat rs i hi] at this
  omega

set_option maxRecDepth 100000 in
set_option maxHeartbeats 6400000 in
theorem ways_any (A : Option Addr) (c : Nat) (qs : List (Row Int)) (B : Nat) (w : World) (hr : RdR LI w B A c qs) (hB : B ≤ w.heap.size) (hv : VR (dat qs)) :
    Calls Try.prog 58 #[.slice A qs.length c] w fun e w' => ∃ A1 c1 rs, e = .returned (.slice A1 rs.length c1) ∧ OwnR LI 24 2 w' w.heap.size A1 c1 rs ∧ dat rs = mat qs.length (Dw (dat qs)) ∧ Below w.heap.size w w' := by
  have hlen := hr.len63
  have hl8 : qs.length ≤ 8 := by have := hv.1.2; rw [dat_len] at this; exact this
  obtain ⟨n, hn⟩ : ∃ n, n = qs.length := ⟨_, rfl⟩
  have HX : Hid ((dat qs).length = n) := Lib.hid (by rw [dat_len, hn])
  have HL : Hid (∀ i (hi : i < qs.length), qs[i].2.2.length = n) := Lib.hid fun i hi => vr_dat hv HX.out hi
  have HG := Lib.hid fun i k (hi : i < qs.length) (hk : k < qs[i].2.2.length) => gt_dat qs i k hi hk
  have HV := Lib.hid hv
  have Hn := Lib.hid hn
  clear hv
  generalize dat qs = X at *
  rw [← hn] at hl8 hlen ⊢
  clear hn
  have hXa : n ≤ X.length := by have := HX.out; omega
  have hXb : X.length ≤ n := by have := HX.out; omega
  go_enter Try.func58, Try.ntmps58
  go_wp2_with fail
  go_loopw [3, 4, 5, 6, 7, 15, 24] (fun o _ _ _ _ i _ wr => ∃ (k : Nat) (A1 : Option Addr) (c1 : Nat) (rs : List (Row Int)) (L1 : List (Option Addr × Nat × Nat)), k ≤ n ∧ i = .int .i64 k ∧ o = .slice A1 L1.length c1 ∧ Hid (L1 = rs.map hd) ∧ OwnR LI 24 2 wr w.heap.size A1 c1 rs ∧ Hid (rs.length = k ∧ dat rs = (mat n (w0 X)).take k) ∧ Below w.heap.size w wr) (fun _ _ _ _ _ i _ _ => n - (intOf i).toNat)
  case atStart => exact ⟨0, _, _, [], [], by omega, rfl, rfl, Lib.hid rfl, ⟨Own.lit0 w (Nat.le_refl _) rfl, (fun r hr => by cases hr), List.Pairwise.nil⟩, Lib.hid ⟨rfl, rfl⟩, (Below.refl _ _).alloc (Nat.le_refl _) _⟩
  case round =>
    obtain ⟨k, A1, c1, rs, L1, hk, rfl, rfl, HL1, hO, Hrs, hbel⟩ := hrel
    have hsz := hbel.size
    by_cases hlt : k < n
    · have hkq : k < qs.length := by have := Hn.out; omega
      obtain ⟨ad, rfl, hab, hcell, hrk⟩ := (hr.below (hbel.mono hB)).at_ hkq
      have hkl := HL.out k hkq
      have hcl := clone_any qs[k].1 qs[k].2.1 qs[k].2.2 B wr hrk (by omega) (by omega)
      have HGk : Hid (∀ j (hj : j < qs[k].2.2.length), gt X k j = qs[k].2.2[j]) := Lib.hid fun j hj => HG.out k j hkq hj
      have HKL := Lib.hid hkl
      rw [hkl] at hcell hcl
      clear hkl
      generalize qs[k].2.2 = ys at *
      generalize qs[k].1 = Ay at *
      generalize qs[k].2.1 = cy at *
      go_wp2_with fail
      refine hcl.mono ?_
      rintro e w1 ⟨A2, c2, rfl, ho2, hb2⟩
      clear hcl hcell
      have hs2 := hb2.size
      have hbel2 := bthen hbel (Nat.le_refl _) hb2
      have hO2 := hO.below hb2
      have hR := w0R_len X n k
      have HR := Lib.hid hR
      clear hR
      go_wp2_with fail
      obtain ⟨wo, rfl⟩ : ∃ wo : World, wo = w1 := ⟨_, rfl⟩
      obtain ⟨wq, rfl⟩ : ∃ wq : World, wq = wr := ⟨_, rfl⟩
      go_loopw [7, 24] (fun _ i wr => ∃ j : Nat, j ≤ n ∧ i = .int .i64 j ∧ Own LI 2 wr wq.heap.size A2 c2 ((w0R X n k).take j ++ ys.drop j) ∧ Kept (fun b => blk A2 = some b) wo wr) (fun _ i _ => n - (intOf i).toNat)
      case atStart => exact ⟨0, by omega, rfl, by simpa using ho2, Kept.refl _ _⟩
      case round =>
        obtain ⟨j, hj, rfl, ho, hK⟩ := hrel
        by_cases hjn : j < n
        · have hjy : j < ys.length := by have := HKL.out; omega
          have hjR : j < (w0R X n k).length := by have := HR.out; omega
          have hjl : j < ((w0R X n k).take j ++ ys.drop j).length := by simp; omega
          have hRy : (w0R X n k).length = ys.length := by have := HR.out; have := HKL.out; omega
          obtain ⟨g, rfl, hgb, hgl, hcj, hfz⟩ := ho.int hjl
          rw [paint_at _ _ hRy hjy] at hcj
          have HST : Hid (((w0R X n k).take j ++ ys.drop j).set j (w0 X k j) = (w0R X n k).take (j + 1) ++ ys.drop (j + 1)) := Lib.hid (by have := paint_step _ _ hRy hjy; rw [w0R_get] at this; exact this)
          have HKP : Hid (w0 X k j = ys[j] → (w0R X n k).take (j + 1) ++ ys.drop (j + 1) = (w0R X n k).take j ++ ys.drop j) := Lib.hid fun h => paint_keep _ _ hRy hjy (by rw [w0R_get]; exact h)
          have HW : Hid (w0 X k j = if ys[j] = 0 ∧ j ≠ k then -1 else ys[j]) := Lib.hid (by unfold w0; rw [HGk.out j hjy])
          clear hRy
          generalize ys[j] = v at *
          generalize w0 X k j = r at *
          by_cases hv : v = 0
          · subst hv
            by_cases hjk : j = k
            · subst hjk
              have hne : ((j : Int) != (j : Int)) = false := by simp
              have HE : Hid (r = 0) := Lib.hid (by rw [HW.out, if_neg (by omega)])
              go_wp2_with fail
              go_roundw
              case rel => exact ⟨j + 1, by omega, by go_num, by rw [HKP.out HE.out]; exact ho, hK⟩
              case measure => simp [intOf]; omega
            · have hne : ((j : Int) != (k : Int)) = true := by simp; omega
              have HE : Hid (r = -1) := Lib.hid (by rw [HW.out, if_pos ⟨rfl, hjk⟩])
              clear hjk
              go_wp2_with fail
              go_roundw
              case rel =>
                have ho' := ho.setInt j (-1)
                rw [← HE.out, HST.out, HE.out] at ho'
                exact ⟨j + 1, by omega, by go_num, ho', hK.trans ⟨rfl, rfl, rfl, by simp, fun b hb hne => Below.heap_setCell _ _ _ _ (fun e => hne (by rw [e]; rfl))⟩⟩
              case measure => simp [intOf]; omega
          · have hvz : (v == 0) = false := by simpa using hv
            have HE : Hid (r = v) := Lib.hid (by rw [HW.out, if_neg (fun h => hv h.1)])
            clear hv
            go_wp2_with fail
            go_roundw
            case rel => exact ⟨j + 1, by omega, by go_num, by rw [HKP.out HE.out]; exact ho, hK⟩
            case measure => simp [intOf]; omega
        · have hjj : j = n := by omega
          have hoR : Own LI 2 wr wq.heap.size A2 c2 (w0R X n k) := by
            have e : (w0R X n k).take j ++ ys.drop j = w0R X n k := by rw [List.take_of_length_le (by have := HR.out; omega), List.drop_of_length_le (by have := HKL.out; omega), List.append_nil]
            rw [e] at ho; exact ho
          clear ho
          subst hjj
          have hlA := ho2.blk_lt
          have hO3 := hK.ownR hO2 (fun g hg e => by have := hO.blk_lt.1 g hg; have := hlA g e; omega) (fun r hr' g hg e => by have := hO.blk_lt.2 r hr' g hg; have := hlA g e; omega)
          have hout : Own LV 24 wr w.heap.size A1 c1 L1 := by rw [HL1.out]; exact hO3.out
          have hLk : L1.length ≤ k := by rw [HL1.out, List.length_map]; have := Hrs.out.1; omega
          have hKs := hK.size
          have hlO := hO.blk_lt
          have HlO := Lib.hid hlO
          clear hlO
          go_wp2_with (at_builtin; go_loud (refine wpL_app1 (L := LV) rowV rfl rfl _ _ rfl rfl hout (A2, j, c2) _ rfl rfl (by simp) (by unfold maxLen; omega) (by omega) (by omega) ?_); intro A4 c4 w4 ho4 hg4)
          go_roundw
          case rel =>
            have hsn := OwnR.snoc (r := (A2, c2, w0R X j k)) hO3 (by decide) (hoR.lower hsz) (fun s hs g h1 h2 => by have := HlO.out.2 s hs g h1; have := hlA g h2; omega) (by
              rw [HL1.out] at ho4
              have e : hd (A2, c2, w0R X j k) = (A2, j, c2) := by unfold hd; simp only [w0R_len]
              rw [e]
              exact ho4) hg4
            refine ⟨k + 1, A4, c4, _, L1 ++ [(A2, j, c2)], by omega, by go_num, by simp, Lib.hid ?_, hsn, Lib.hid ⟨?_, ?_⟩, ?_⟩
            · rw [HL1.out, List.map_append]
              have e : hd (A2, c2, w0R X j k) = (A2, j, c2) := by unfold hd; simp only [w0R_len]
              simp [e]
            · have := Hrs.out.1; simp; omega
            · rw [dat_append, Hrs.out.2, mat0_succ X hlt]; rfl
            · refine Grew.below (hK.below hbel2 hbel2.size fun b e => ?_) hg4 (by omega) fun g' hg' => (HlO.out.1 g' hg').1
              have := hlA b e; omega
          case measure => simp [intOf]; omega
    · have hkk : k = n := by omega
      subst hkk
      have hLn : L1.length = k := by rw [HL1.out, List.length_map]; exact Hrs.out.1
      rw [hLn]
      have hO0 := hO
      have hbl0 := hbel
      obtain ⟨rs0, rfl⟩ : ∃ rs0, rs0 = rs := ⟨_, rfl⟩
      obtain ⟨n, rfl⟩ : ∃ n, n = k := ⟨_, rfl⟩
      have Hd0 : Hid (dat rs0 = mat n (w0 X)) := Lib.hid (by rw [Hrs.out.2, List.take_of_length_le (by rw [mat_len]; exact Nat.le_refl _)])
      clear hO hbel Hrs HL1 hk HL HG hlt hLn
      go_wp2_with fail
      go_loopw [8,9,10,11,48,53,58] (fun a8 a9 a10 a11 a48 a53 a58 wr => ∃ (m : Nat) (rs : List (Row Int)), m ≤ n ∧ a48 = .int .i64 m ∧ OwnR LI 24 2 wr w.heap.size A1 c1 rs ∧ Hid (dat rs = mat n (Fw X m 0 0)) ∧ Below w.heap.size w wr) (fun a8 a9 a10 a11 a48 a53 a58 _ => n - (intOf a48).toNat)
      case atStart => exact ⟨0, rs0, by omega, rfl, hO0, Lib.hid (by rw [Hd0.out, Fw_start]; rfl), hbl0⟩
      case round =>
        obtain ⟨m, rs, hmn, rfl, hO, Hd, hbel⟩ := hrel
        by_cases hm : m < n
        · go_wp2_with fail
          go_loopw [9,10,11,53,58] (fun a9 a10 a11 a53 a58 wr => ∃ (i : Nat) (rs : List (Row Int)), i ≤ n ∧ a53 = .int .i64 i ∧ OwnR LI 24 2 wr w.heap.size A1 c1 rs ∧ Hid (dat rs = mat n (Fw X m i 0)) ∧ Below w.heap.size w wr) (fun a9 a10 a11 a53 a58 _ => n - (intOf a53).toNat)
          case atStart => exact ⟨0, rs, by omega, rfl, hO, Hd, hbel⟩
          case round =>
            obtain ⟨i, rs, hin, rfl, hO, Hd, hbel⟩ := hrel
            by_cases hi : i < n
            · go_wp2_with fail
              go_loopw [10,11,58] (fun a10 a11 a58 wr => ∃ (k : Nat) (rs : List (Row Int)), k ≤ n ∧ a58 = .int .i64 k ∧ OwnR LI 24 2 wr w.heap.size A1 c1 rs ∧ Hid (dat rs = mat n (Fw X m i k)) ∧ Below w.heap.size w wr) (fun a10 a11 a58 _ => n - (intOf a58).toNat)
              case atStart => exact ⟨0, rs, by omega, rfl, hO, Hd, hbel⟩
              case round =>
                obtain ⟨k, rs, hkn, rfl, hO, Hd, hbel⟩ := hrel
                have hsz := hbel.size
                by_cases hk : k < n
                · obtain ⟨g, gi, ci, hA, hg1, hg2, hci, hgi1, hgi2, hcc, hfr, hset⟩ := hO.cellsM (by decide) Hd.out hi
                  obtain ⟨g', gm, cm, hA', _, _, hcm, _, _, hccm, _, _⟩ := hO.cellsM (by decide) Hd.out hm
                  cases hA
                  cases hA'
                  have q1 := hcc m hm
                  have q2 := hccm k hk
                  have q3 := hcc k hk
                  have q4 := hfr k
                  rw [Fw_col HV.out (by omega)] at q1
                  rw [Fw_row HV.out (by omega)] at q2
                  rw [Fw_at] at q3
                  obtain ⟨a0, a1⟩ := Pw_bd HV.out (m := m) (by omega) (a := i) (b := m) (by omega) (by omega)
                  obtain ⟨b0, b1⟩ := Pw_bd HV.out (m := m) (by omega) (a := m) (b := k) (by omega) (by omega)
                  obtain ⟨x0, x1⟩ := Pw_bd HV.out (m := m) (by omega) (a := i) (b := k) (by omega) (by omega)
                  have HP : Hid (Pw X (m + 1) i k = if Pw X m i m < 0 ∨ Pw X m m k < 0 then Pw X m i k else if Pw X m i k < 0 ∨ Pw X m i m + Pw X m m k < Pw X m i k then Pw X m i m + Pw X m m k else Pw X m i k) := Lib.hid rfl
                  have HK := Lib.hid (Fw_keep (X := X) m i k)
                  have HU := Lib.hid (fun x => Fw_put (X := X) m i k (x := x))
                  have Hset := Lib.hid hset
                  have hi0 : (i : Int) < n := by omega
                  have hm0 : (m : Int) < n := by omega
                  have hk0 : (k : Int) < n := by omega
                  clear hcc hccm hfr hset
                  generalize Pw X m i m = a at *
                  generalize Pw X m m k = b at *
                  generalize Pw X m i k = x at *
                  by_cases ha : a < 0
                  · have HE := Lib.hid (HK.out (by rw [HP.out, if_pos (.inl ha)]))
                    go_wp2_with fail
                    go_roundw
                    case rel => exact ⟨k + 1, rs, by omega, by go_num, hO, Lib.hid (by rw [HE.out]; exact Hd.out), hbel⟩
                    case measure => simp [intOf]; omega
                  · have ha' : 0 ≤ a := by omega
                    by_cases hb : b < 0
                    · have HE := Lib.hid (HK.out (by rw [HP.out, if_pos (.inr hb)]))
                      clear ha
                      go_wp2_with fail
                      go_roundw
                      case rel => exact ⟨k + 1, rs, by omega, by go_num, hO, Lib.hid (by rw [HE.out]; exact Hd.out), hbel⟩
                      case measure => simp [intOf]; omega
                    · have hb' : 0 ≤ b := by omega
                      have HP2 : Hid (Pw X (m + 1) i k = if x < 0 ∨ a + b < x then a + b else x) := Lib.hid (by rw [HP.out, if_neg (by omega)])
                      by_cases hx : x < 0
                      · have HE := Lib.hid (HU.out (a + b) (by rw [HP2.out, if_pos (.inl hx)]))
                        clear ha hb
                        go_wp2_with fail
                        go_quiet (fail)
                        go_wp2_with fail
                        go_roundw
                        case rel =>
                          obtain ⟨rs', hO', hd'⟩ := Hset.out k (a + b) hk
                          exact ⟨k + 1, rs', by omega, by go_num, hO'.drewN _, Lib.hid (by rw [hd', HE.out]), below_drewN (hbel.setCell hgi1 _) _⟩
                        case measure => simp [intOf]; omega
                      · have hx' : 0 ≤ x := by omega
                        by_cases hl : a + b < x
                        · have HE := Lib.hid (HU.out (a + b) (by rw [HP2.out, if_pos (.inr hl)]))
                          clear ha hb hx
                          go_wp2_with fail
                          go_quiet (fail)
                          go_wp2_with fail
                          go_roundw
                          case rel =>
                            obtain ⟨rs', hO', hd'⟩ := Hset.out k (a + b) hk
                            exact ⟨k + 1, rs', by omega, by go_num, hO'.drewN _, Lib.hid (by rw [hd', HE.out]), below_drewN (hbel.setCell hgi1 _) _⟩
                          case measure => simp [intOf]; omega
                        · have HE := Lib.hid (HK.out (by rw [HP2.out, if_neg (by omega)]))
                          have hl' : x ≤ a + b := by omega
                          clear ha hb hx hl
                          go_wp2_with fail
                          go_quiet (fail)
                          go_wp2_with fail
                          go_roundw
                          case rel => exact ⟨k + 1, rs, by omega, by go_num, hO.drewN _, Lib.hid (by rw [HE.out]; exact Hd.out), below_drewN hbel _⟩
                          case measure => simp [intOf]; omega
                · have hkk : k = n := by omega
                  subst hkk
                  go_wp2_with fail
                  go_roundw
                  case rel => exact ⟨i + 1, rs, by omega, by go_num, hO, Lib.hid (by rw [Hd.out]; exact Fw_row_end X m i _), hbel⟩
                  case measure => simp [intOf]; omega
            · have hii : i = n := by omega
              subst hii
              go_wp2_with fail
              go_roundw
              case rel => exact ⟨m + 1, rs, by omega, by go_num, hO, Lib.hid (by rw [Hd.out]; exact Fw_end X m _), hbel⟩
              case measure => simp [intOf]; omega
        · have hmm : m = n := by omega
          subst hmm
          have HD : Hid (dat rs = mat m (Dw X)) := Lib.hid (by rw [Hd.out, Fw_start]; unfold Dw; rw [HX.out])
          go_wp2_with fail
          go_ret
          exact ⟨A1, c1, rs, by rw [mat_rows HD.out]; first | done | rfl, hO, HD.out, hbel⟩
end Go.Proofs.Ytcookepklcbfeaa
