/-
  WayBetween: the reference's side.
-/
import Derived.Test.YtcookepklcbfeaaWayB
namespace Go.Proofs.Ytcookepklcbfeaa
open Go.ChangeShapes Go.WideShapes Go.RowKit

def NxS (X : List (List Int)) (t a1 n : Nat) (v : Value) (j : Nat) : Prop := (v = .int .i64 (-1) ∧ ∀ q, q < j → okW X t a1 q = false) ∨ ∃ j0 : Nat, j0 < n ∧ v = .int .i64 j0 ∧ nxW X t a1 = j0 ∧ okW X t a1 j0 = true
theorem okW_parts {X : List (List Int)} {t a j : Nat} (h : okW X t a j = true) : 0 < gt X a j ∧ 0 ≤ Dw X j t ∧ gt X a j + Dw X j t = Dw X a t := of_decide_eq_true h
set_option maxRecDepth 100000 in
set_option maxHeartbeats 6400000 in
theorem specWayBetween_any (A : Option Addr) (c : Nat) (qs : List (Row Int)) (f t : Int) (w : World) (hr : RdR LI w w.heap.size A c qs) :
    Calls Try.prog 26 #[.slice A qs.length c, .int .i64 f, .int .i64 t] w fun e w' => ∃ B d, e = .returned (.tuple #[.slice B (wbwP (dat qs) f t).1.length d, .int .i64 (wbwP (dat qs) f t).2]) ∧ Own LI 2 w' w.heap.size B d (wbwP (dat qs) f t).1 ∧ Below w.heap.size w w' := by
  have hlen := hr.len63
  have hcv := l21Roads_any A c qs w hr
  cases hv : vrB (dat qs)
  · have HP : Hid (wbwP (dat qs) f t = ([], 1)) := Lib.hid (by unfold wbwP; rw [if_neg (by simp [hv])])
    rw [hv] at hcv
    simp only [HP.out]
    go_enter Try.func26, Try.ntmps26
    go_wp2_with fail
    refine hcv.mono ?_
    rintro e w1 ⟨rfl, hb1⟩
    go_wp2_with fail
    go_ret2
    exact ⟨none, 0, rfl, Own.none_, hb1⟩
  · have Hv := Lib.hid hv
    have HV := Lib.hid (dB_true hv)
    rw [hv] at hcv
    clear hv
    have hl8 : qs.length ≤ 8 := by have := HV.out.1.2; rw [dat_len] at this; exact this
    have HX := Lib.hid (dat_len qs)
    cases hi : inB f 0 ((qs.length : Int) - 1)
    · have HP : Hid (wbwP (dat qs) f t = ([], 2)) := Lib.hid (by unfold wbwP; rw [if_pos Hv.out, HX.out, hi, if_neg (by simp)])
      simp only [HP.out]
      go_enter Try.func26, Try.ntmps26
      go_wp2_with fail
      refine hcv.mono ?_
      rintro e w1 ⟨rfl, hb1⟩
      go_wp2_with (go_at_call 54; refine (l00In_any _ _ _ _).mono ?_; rintro e w' ⟨rfl, rfl⟩)
      go_ret2
      exact ⟨none, 0, rfl, Own.none_, hb1⟩
    · cases hj : inB t 0 ((qs.length : Int) - 1)
      · have HP : Hid (wbwP (dat qs) f t = ([], 2)) := Lib.hid (by unfold wbwP; rw [if_pos Hv.out, HX.out, hi, hj, if_neg (by simp)])
        simp only [HP.out]
        go_enter Try.func26, Try.ntmps26
        go_wp2_with fail
        refine hcv.mono ?_
        rintro e w1 ⟨rfl, hb1⟩
        go_wp2_with (go_at_call 54; refine (l00In_any _ _ _ _).mono ?_; rintro e w' ⟨rfl, rfl⟩)
        go_ret2
        exact ⟨none, 0, rfl, Own.none_, hb1⟩
      · obtain ⟨f0, f1⟩ := inB_yes hi
        obtain ⟨t0, t1⟩ := inB_yes hj
        obtain ⟨a0, rfl⟩ : ∃ a0 : Nat, f = a0 := ⟨f.toNat, by omega⟩
        obtain ⟨t, rfl⟩ : ∃ t' : Nat, t = t' := ⟨t.toNat, by omega⟩
        have HP : Hid (wbwP (dat qs) a0 t = if Dw (dat qs) a0 t < 0 then ([], 3) else ((a0 : Int) :: wayL (dat qs) t (Dw (dat qs) a0 t).toNat a0, 0)) := Lib.hid (by unfold wbwP; rw [if_pos Hv.out, HX.out, hi, hj, if_pos ⟨rfl, rfl⟩]; rfl)
        have hway := fun W hR hB => l21Ways_any A c qs w.heap.size W hR hB HV.out
        have HRr := Lib.hid fun i (h : i < qs.length) W (hW : Below w.heap.size w W) => (hr.below hW).at_ h
        have HL := Lib.hid fun i (h : i < qs.length) => vr_dat HV.out (n := qs.length) HX.out h
        have HG := Lib.hid fun i k (h : i < qs.length) (hk : k < qs[i].2.2.length) => gt_dat qs i k h hk
        have HXl : Hid (∀ i, i < qs.length → i < (dat qs).length) := Lib.hid fun i h => by rw [HX.out]; exact h
        clear Hv
        generalize dat qs = X at *
        have ha0 : a0 < qs.length := by omega
        have ht : t < qs.length := by omega
        obtain ⟨d0, d1⟩ := Dw_bd HV.out (HXl.out a0 ha0) (HXl.out t ht)
        go_enter Try.func26, Try.ntmps26
        go_wp2_with fail
        refine hcv.mono ?_
        rintro e w1 ⟨rfl, hb1⟩
        go_wp2_with (go_at_call 54; refine (l00In_any _ _ _ _).mono ?_; rintro e w' ⟨rfl, rfl⟩)
        refine (hway _ (hr.below hb1) hb1.size).mono ?_
        rintro e w2 ⟨A1, c1, rs, rfl, hO, hd, hb2⟩
        have Hd := Lib.hid hd
        clear hd hway hcv
        have hbz := bthen hb1 (Nat.le_refl _) hb2
        have HLr := Lib.hid (mat_rows Hd.out)
        obtain ⟨g, ga, ca, rfl, hg1, hg2, hca, hga1, hga2, hcc, _, _⟩ := hO.cellsM (by decide) Hd.out ha0
        have hcat := hcc t ht
        have hra : (a0 : Int) < rs.length := by have := HLr.out; omega
        have hta : (t : Int) < qs.length := by omega
        have hrl : qs.length ≤ rs.length := by have := HLr.out; omega
        clear hcc
        by_cases hneg : Dw X a0 t < 0
        · have HE := Lib.hid (HP.out.trans (if_pos hneg))
          go_wp2_with fail
          go_ret2
          exact ⟨none, 0, ret_wb HE.out, by rw [HE.out]; exact Own.none_, hbz⟩
        · have hpos : 0 ≤ Dw X a0 t := by omega
          have HE := Lib.hid (HP.out.trans (if_neg hneg))
          clear hneg
          obtain ⟨F, hF⟩ : ∃ F : Nat, Dw X a0 t = F := ⟨(Dw X a0 t).toNat, by omega⟩
          have HF : Hid ((Dw X a0 t).toNat = F) := Lib.hid (by omega)
          have hF2 : F ≤ 256000 := by omega
          rw [HF.out] at HE
          have HDa : Hid (Dw X a0 t ≤ F ∧ 0 ≤ Dw X a0 t) := Lib.hid ⟨by omega, hpos⟩
          clear hF
          go_wp2_with fail
          clear hca hcat d0 d1 hpos
          go_loopw [10, 11, 12, 13] (fun o a _ _ wr => ∃ (a1 f : Nat) (A4 : Option Addr) (c4 : Nat) (L : List Int), a1 < qs.length ∧ a = .int .i64 a1 ∧ o = .slice A4 L.length c4 ∧ Hid ((a0 : Int) :: wayL X t F a0 = L ++ wayL X t f a1) ∧ Hid (Dw X a1 t ≤ f ∧ 0 ≤ Dw X a1 t) ∧ L.length + f ≤ 256001 ∧ Own LI 2 wr w2.heap.size A4 c4 L ∧ Below w2.heap.size w2 wr) (fun _ a _ _ _ => (Dw X (intOf a).toNat t).toNat)
          case atStart => exact ⟨a0, F, _, _, [(a0 : Int)], ha0, rfl, rfl, Lib.hid rfl, HDa, by simp; omega, Own.lit w2 (Nat.le_refl _) rfl [(a0 : Int)] _ 1 rfl (by decide) rfl, (Below.refl _ _).alloc (Nat.le_refl _) _⟩
          case round =>
            obtain ⟨a1, f, A4, c4, L, ha1, rfl, rfl, HQ, HD, hLf, ho, hbo⟩ := hrel
            have hso := hbo.size
            have hwr := hbz.trans (hbo.mono hbz.size)
            by_cases hat : a1 = t
            · subst hat
              have HL2 : Hid ((a0 : Int) :: wayL X a1 F a0 = L) := Lib.hid (by rw [HQ.out, wayL_end, List.append_nil])
              go_wp2_with fail
              go_ret2
              refine ⟨A4, c4, ?_, ?_, hwr⟩
              · rw [HE.out, HL2.out]; rfl
              · rw [HE.out, HL2.out]; exact ho.lower (by have := hbz.size; omega)
            · have hne : ((a1 : Int) != (t : Int)) = true := by simp; omega
              have HN := Lib.hid hat
              clear hat
              obtain ⟨wq, rfl⟩ : ∃ wq : World, wq = wr := ⟨_, rfl⟩
              go_wp2_with fail
              go_loopw [12, 13] (fun v i wr => ∃ j : Nat, j ≤ qs.length ∧ i = .int .i64 j ∧ NxS X t a1 qs.length v j ∧ Dr wq wr) (fun v i _ => 2 * qs.length + 2 - 2 * (intOf i).toNat)
              case atStart => exact ⟨0, by omega, rfl, .inl ⟨rfl, fun q h => by omega⟩, Dr.refl _⟩
              case round =>
                obtain ⟨j, hj, rfl, hnx, hdr⟩ := hrel
                rcases hnx with ⟨rfl, hno⟩ | ⟨j0, hj0n, rfl, hnx, hok⟩
                · have Hno := Lib.hid hno
                  clear hno
                  by_cases hjn : j < qs.length
                  · have hj0 : (j : Int) < qs.length := by omega
                    have hjr : (j : Int) < rs.length := by omega
                    have ha10 : (a1 : Int) < qs.length := by omega
                    have ha1r : (a1 : Int) < rs.length := by omega
                    have hbd : Below w2.heap.size w2 wr := hbo.trans hdr.below
                    have hOw := hO.below hbd
                    obtain ⟨ad, rfl, hab, hcell, hrk⟩ := HRr.out a1 ha1 wr (hbz.trans (hbd.mono hbz.size))
                    have hrl1 := HL.out a1 ha1
                    obtain ⟨ad2, hA2, hab2, hp⟩ := hrk.int (k := j) (by omega)
                    rw [hA2, hrl1] at hcell
                    rw [← HG.out a1 j ha1 (by omega)] at hp
                    obtain ⟨g', gj, cj, hg', _, _, hcj, _, _, hccj, _, _⟩ := hOw.cellsM (by decide) Hd.out hjn
                    cases hg'
                    obtain ⟨g', gb, cb, hg', _, _, hcb, _, _, hccb, _, _⟩ := hOw.cellsM (by decide) Hd.out ha1
                    cases hg'
                    have hq := hccj t ht
                    have hd := hccb t ht
                    obtain ⟨p0, p1⟩ := gt_bd HV.out (HXl.out a1 ha1) (HXl.out j hjn)
                    obtain ⟨q0, q1⟩ := Dw_bd HV.out (HXl.out j hjn) (HXl.out t ht)
                    obtain ⟨e0, e1⟩ := Dw_bd HV.out (HXl.out a1 ha1) (HXl.out t ht)
                    have HOK : Hid (okW X t a1 j = decide (0 < gt X a1 j ∧ 0 ≤ Dw X j t ∧ gt X a1 j + Dw X j t = Dw X a1 t)) := Lib.hid rfl
                    have HSN : Hid (okW X t a1 j = false → ∀ q, q < j + 1 → okW X t a1 q = false) := Lib.hid fun h q hq => by
                      by_cases e : q = j
                      · subst e; exact h
                      · exact Hno.out q (by omega)
                    have HNX := Lib.hid (nx_hit (HXl.out j hjn) Hno.out)
                    have HDj : Hid (Dw X j t = Dw X j t) := Lib.hid rfl
                    clear hccj hccb hA2 hrl1 hrk
                    generalize gt X a1 j = p at *
                    generalize hqd : Dw X j t = q at *
                    generalize hdd : Dw X a1 t = d at *
                    have Hqd := Lib.hid hqd
                    have Hdd := Lib.hid hdd
                    clear hqd hdd HDj
                    have hwr1 : IntKind.i64.wrap (p + q) = p + q := wrapS (by omega) (by omega)
                    by_cases c1 : 0 < p
                    · by_cases c2 : 0 ≤ q
                      · by_cases c3 : p + q = d
                        · have HK := Lib.hid (HNX.out (by rw [HOK.out]; exact decide_eq_true ⟨c1, c2, c3⟩))
                          have hc3 : ((p + q) == d) = true := by simpa using c3
                          have HC3 := Lib.hid c3
                          clear c3
                          clear Hno HSN
                          go_wp2_with fail
                          go_quiet (fail)
                          go_wp2_with fail
                          go_roundw
                          case rel => exact ⟨j + 1, by omega, by go_num, .inr ⟨j, hjn, rfl, HK.out, by rw [HOK.out]; exact decide_eq_true ⟨c1, c2, HC3.out⟩⟩, hdr.step _⟩
                          case measure => simp [intOf]; omega
                        · have HM := Lib.hid (HSN.out (by rw [HOK.out]; exact decide_eq_false (fun h => c3 h.2.2)))
                          have hc3 : ((p + q) == d) = false := by simpa using c3
                          clear c3
                          go_wp2_with fail
                          go_quiet (fail)
                          go_wp2_with fail
                          go_roundw
                          case rel => exact ⟨j + 1, by omega, by go_num, .inl ⟨rfl, HM.out⟩, hdr.step _⟩
                          case measure => simp [intOf]; omega
                      · have HM := Lib.hid (HSN.out (by rw [HOK.out]; exact decide_eq_false (fun h => c2 h.2.1)))
                        have c2n : decide (0 ≤ q) = false := by simp; omega
                        clear c2
                        go_wp2_with fail
                        go_quiet (fail)
                        go_wp2_with fail
                        go_roundw
                        case rel => exact ⟨j + 1, by omega, by go_num, .inl ⟨rfl, HM.out⟩, hdr.step _⟩
                        case measure => simp [intOf]; omega
                    · have HM := Lib.hid (HSN.out (by rw [HOK.out]; exact decide_eq_false (fun h => c1 h.1)))
                      have c1n : decide (0 < p) = false := by simp; omega
                      clear c1
                      go_wp2_with fail
                      go_quiet (fail)
                      go_wp2_with fail
                      go_roundw
                      case rel => exact ⟨j + 1, by omega, by go_num, .inl ⟨rfl, HM.out⟩, hdr.step _⟩
                      case measure => simp [intOf]; omega
                  · exfalso
                    have hXl := HX.out
                    have hDD := HD.out
                    exact nx_some HV.out (HXl.out a1 ha1) (HXl.out t ht) HN.out hDD.2 fun q hq => Hno.out q (by omega)
                · have HK := Lib.hid hnx
                  have HO := Lib.hid hok
                  clear hnx hok
                  have hj00 : (0 : Int) ≤ j0 := by omega
                  have hj0g : decide ((j0 : Int) < 0) = false := by simp
                  have hbd : Below w2.heap.size w2 wr := hbo.trans hdr.below
                  have hoW := Own.below ho hdr.below
                  have hsd : wq.heap.size ≤ wr.heap.size := (hdr.below (B := wq.heap.size)).size
                  by_cases hjn : j < qs.length
                  all_goals
                    go_wp2_with (at_builtin; go_loud (refine wpL_app1 (L := LI) rowI rfl rfl _ _ rfl rfl hoW (j0 : Int) _ rfl rfl (by simp) (by unfold maxLen; omega) (by omega) (by omega) ?_); intro A5 c5 w5 ho5 hg5)
                    go_roundw
                    case rel =>
                      have h1 := HD.out
                      have h2 := okW_parts HO.out
                      obtain ⟨f', rfl⟩ : ∃ f', f = f' + 1 := ⟨f - 1, by omega⟩
                      refine ⟨j0, f', A5, c5, L ++ [(j0 : Int)], hj0n, rfl, by simp, Lib.hid ?_, Lib.hid ?_, by simp; omega, ho5, Grew.below hbd hg5 (by omega) fun g' hg' => (ho.blk_lt g' hg').1⟩
                      · rw [HQ.out]
                        show L ++ (if a1 = t then [] else (nxW X t a1 : Int) :: wayL X t f' (nxW X t a1)) = _
                        rw [if_neg HN.out, HK.out]
                        simp
                      · omega
                    case measure =>
                      have h1 := HD.out
                      have h2 := okW_parts HO.out
                      simp [intOf]
                      omega
end Go.Proofs.Ytcookepklcbfeaa
