/-
  impl.divide: the first way with few enough trips.
-/
import Derived.Test.YtcookepklcbfeaaTripsU
namespace Go.Proofs.Ytcookepklcbfeaa
open Go.ChangeShapes Go.WideShapes Go.RowKit

def dvR : Option (List Int × Nat) → List Int × Bool
  | some l => (l.1, true)
  | none => ([], false)
theorem lvsFrom_find {most x : Int} {xs sums wh : List Int} {n k T : Nat} (hk : k < n) : (lvsFrom most x xs sums wh n (n - k)).find? (fun l => decide (l.2 ≤ T)) = (if sums.getD k 0 + x ≤ most then (lvs most xs (puts sums k x) (wh ++ [(k : Int)])).find? (fun l => decide (l.2 ≤ T)) else none).or ((lvsFrom most x xs sums wh n (n - (k + 1))).find? (fun l => decide (l.2 ≤ T))) := by
  obtain ⟨m, hm⟩ : ∃ m, n - k = m + 1 := ⟨n - k - 1, by omega⟩
  rw [hm, show n - (k + 1) = m by omega, lvsFrom, List.find?_append, show n - (m + 1) = k by omega]
  split <;> rfl
theorem lvsFrom_full {most x : Int} {xs sums wh : List Int} {T : Nat} (hT : sums.length = T) : (lvsFrom most x xs sums wh (sums.length + 1) (sums.length + 1 - T)).find? (fun l => decide (l.2 ≤ T)) = none := by
  rw [show sums.length + 1 - T = 0 + 1 by omega, lvsFrom, lvsFrom, List.append_nil, List.find?_eq_none]
  intro l hl
  split at hl
  · have h1 := lvs_ge hl
    have h2 := puts_len sums (sums.length + 1 - (0 + 1)) x
    rw [if_neg (by omega)] at h2
    simp; omega
  · cases hl

set_option maxRecDepth 100000 in
set_option maxHeartbeats 3200000 in
theorem divide_any (A : Option Addr) (c : Nat) (xs : List Int) (most : Int) (T : Nat) (hx : ∀ x ∈ xs, 1 ≤ x ∧ x ≤ most) (hm : most ≤ 1000000) (hn : xs.length ≤ 10) (hT : T ≤ 10) (m : Nat) :
    ∀ (w : World) (base : Nat) (Ad : Option Addr) (cd : Nat) (dn : List Int) (As : Option Addr) (cs : Nat) (sums : List Int), xs.length = dn.length + m → Rd LI w w.heap.size A c xs → Own LI 2 w base Ad cd dn → base ≤ w.heap.size → Rd LI w w.heap.size As cs sums →
      sums.length ≤ T → (∀ s ∈ sums, 0 ≤ s ∧ s ≤ most) →
      Calls Try.prog 37 #[.slice A xs.length c, .int .i64 most, .slice Ad dn.length cd, .slice As sums.length cs, .int .i64 T] w fun e w' => ∃ A' c', e = .returned (.tuple #[.slice A' (dvR ((lvs most (xs.drop dn.length) sums dn).find? (fun l => decide (l.2 ≤ T)))).1.length c', .bool (dvR ((lvs most (xs.drop dn.length) sums dn).find? (fun l => decide (l.2 ≤ T)))).2]) ∧ Own LI 2 w' base A' c' (dvR ((lvs most (xs.drop dn.length) sums dn).find? (fun l => decide (l.2 ≤ T)))).1 ∧ Below w.heap.size w w' := by
  induction m with
  | zero =>
    intro w base Ad cd dn As cs sums hxl hr hod hbase hrs hsl hss
    have HE : Hid ((lvs most (xs.drop dn.length) sums dn).find? (fun l => decide (l.2 ≤ T)) = some (dn, sums.length)) := Lib.hid (by
      rw [List.drop_of_length_le (by omega)]
      simp [lvs, hsl])
    rw [HE.out]
    have hz : ((dn.length : Int) == (xs.length : Int)) = true := by rw [beq_iff_eq]; omega
    have HOD := Lib.hid hod
    clear hod hss
    go_enter Try.func37, Try.ntmps37
    go_wp2_with fail
    go_ret2
    exact ⟨Ad, cd, rfl, HOD.out, Below.refl _ _⟩
  | succ m ih =>
    intro w base Ad cd dn As cs sums hxl hr hod hbase hrs hsl hss
    have hz : ((dn.length : Int) == (xs.length : Int)) = false := by rw [beq_eq_false_iff_ne]; omega
    have hdx : dn.length < xs.length := by omega
    have hdx0 : (dn.length : Int) < xs.length := by omega
    have HXL := Lib.hid hxl
    clear hxl
    obtain ⟨ad, rfl, hab, hcx⟩ := hr.int hdx
    obtain ⟨xs1, hxs1⟩ : ∃ xs1, xs1 = xs.drop (dn.length + 1) := ⟨_, rfl⟩
    have HX1 := Lib.hid hxs1.symm
    have HF0 : Hid (dvR ((lvs most (xs.drop dn.length) sums dn).find? (fun l => decide (l.2 ≤ T))) = dvR ((lvsFrom most xs[dn.length] xs1 sums dn (sums.length + 1) (sums.length + 1 - 0)).find? (fun l => decide (l.2 ≤ T)))) := Lib.hid (by
      rw [List.drop_eq_getElem_cons hdx, lvsFrom_all, hxs1, Nat.sub_zero])
    obtain ⟨hx1, hx2⟩ := hx _ (List.getElem_mem hdx)
    have HX := Lib.hid hx
    have HSS0 := Lib.hid hss
    have HOD := Lib.hid hod
    clear hxs1 hx hss hod
    generalize dvR ((lvs most (xs.drop dn.length) sums dn).find? (fun l => decide (l.2 ≤ T))) = FIN at *
    generalize xs[dn.length] = x at *
    go_enter Try.func37, Try.ntmps37
    go_wp2_with fail
    go_loopw [13] (fun i wr => ∃ t : Nat, t ≤ sums.length + 1 ∧ t ≤ T ∧ i = .int .i64 t ∧ Hid (FIN = dvR ((lvsFrom most x xs1 sums dn (sums.length + 1) (sums.length + 1 - t)).find? (fun l => decide (l.2 ≤ T)))) ∧ Below w.heap.size w wr) (fun i _ => sums.length + 1 - (intOf i).toNat)
    case atStart => exact ⟨0, by omega, by omega, rfl, HF0, Below.refl _ _⟩
    case round =>
      obtain ⟨t, ht, htT, rfl, HF, hbel⟩ := hrel
      clear HF0 hcx
      by_cases ht1 : t ≤ sums.length
      · by_cases ht2 : t < T
        · have HFS := Lib.hid (HF.out.trans (congrArg dvR (lvsFrom_find (most := most) (x := x) (xs := xs1) (sums := sums) (wh := dn) (n := sums.length + 1) (k := t) (T := T) (by omega))))
          have hsz := hbel.size
          have hcl := clone_any As cs sums wr.heap.size wr ((hrs.below hbel).more hsz) (Nat.le_refl _) (by omega)
          by_cases htl : t < sums.length
          · have htb : ((t : Int) == (sums.length : Int)) = false := by rw [beq_eq_false_iff_ne]; omega
            go_wp2_with fail
            refine hcl.mono ?_
            rintro e wn ⟨An, cn, rfl, hon, hb1⟩
            clear hcl
            have hbn : Below w.heap.size w wn := hbel.trans (hb1.mono hsz)
            obtain ⟨Sn, hSn⟩ : ∃ Sn, Sn = sums := ⟨_, rfl⟩
            have hkz : t < Sn.length := by rw [hSn]; exact htl
            have hlz : Sn.length = sums.length := by rw [hSn]
            have hSl : Sn.length ≤ T := by omega
            have hvz : sums.getD t 0 = Sn[t] := by subst hSn; simp [htl]
            have hpu : Sn.set t (Sn[t] + x) = puts sums t x := by subst hSn; unfold puts; rw [if_pos htl]; simp [htl]
            have hSb : ∀ s ∈ Sn, 0 ≤ s ∧ s ≤ most := by rw [hSn]; exact HSS0.out
            rw [← hSn] at hon
            have HLZ := Lib.hid hlz
            have htl0 : (t : Int) < sums.length := by omega
            clear hSn hlz
            obtain ⟨gn, rfl, hgn1, hgn2, hcv, hfv⟩ := hon.int hkz
            obtain ⟨v0, v1⟩ := hSb _ (List.getElem_mem hkz)
            obtain ⟨v, hvv⟩ : ∃ v, v = Sn[t] := ⟨_, rfl⟩
            rw [← hvv] at hcv v0 v1 hpu hvz
            rw [hvz] at HFS
            have hwr : IntKind.i64.wrap (v + x) = v + x := wrapS (by omega) (by omega)
            have hon2 := hon.setInt t (v + x)
            have hbw2 : Below w.heap.size w (wn.setCell ⟨gn, t, none⟩ (.int .i64 (v + x))) := hbn.setCell (by show w.heap.size ≤ gn; omega) _
            have HPu := Lib.hid hpu
            have HSb := Lib.hid hSb
            clear hvv hpu hvz hSb
            by_cases hle : v + x ≤ most
            · rw [if_pos hle] at HFS
              go_wp2_with fail
              generalize wn.setCell ⟨gn, t, none⟩ (.int .i64 (v + x)) = w2 at *
              have hs2 := hbw2.size
              have hod2 := HOD.out.below hbw2
              refine (clone_any Ad cd dn w2.heap.size w2 hod2.rd (Nat.le_refl _) (by omega)).mono ?_
              rintro e w3 ⟨A3, c3, rfl, ho3, hb3⟩
              have hs3 := hb3.size
              have hrs3 := (hon2.rd).below hb3
              have hrx3 := (((hr.below hbw2).more hs2).below hb3)
              go_wp2_with (at_builtin; go_loud (refine wpL_app1 (L := LI) rowI rfl rfl _ _ rfl rfl ho3 (t : Int) _ rfl rfl (by simp) (by unfold maxLen; omega) (by omega) (by omega) ?_); intro A4 c4 w4 ho4 hg4)
              have hs4 := hg4.size
              have hA3 : ∀ g, blk A3 = some g → w2.heap.size ≤ g := fun g e => (ho3.blk_lt g e).1
              have hbw4 : Below w.heap.size w w4 := Grew.below (hbw2.trans (hb3.mono hs2)) hg4 (by omega) (fun g e => by have := hA3 g e; omega)
              have hcall := ih w4 w.heap.size A4 c4 (dn ++ [(t : Int)]) (some ⟨gn, 0, none⟩) cn (Sn.set t (v + x)) (by have := HXL.out; simp; omega) ((hg4.rd hrx3 (by omega) hA3).more (by omega)) (ho4.lower hs2) (by omega) ((hg4.rd hrs3 (by omega) hA3).more (by omega)) (by rw [List.length_set]; exact hSl) (fun s hs => by
                rcases List.mem_or_eq_of_mem_set hs with h | h
                · exact HSb.out s h
                · omega)
              rw [List.length_set, HLZ.out, show (dn ++ [(t : Int)]).length = dn.length + 1 by simp, HPu.out, HX1.out] at hcall
              generalize hq : (lvs most xs1 (puts sums t x) (dn ++ [(t : Int)])).find? (fun l => decide (l.2 ≤ T)) = q at *
              cases q with
              | some l =>
                refine hcall.mono ?_
                rintro e w5 ⟨A5, c5, rfl, ho5, hb5⟩
                have hbw5 := hbw4.trans (hb5.mono (by omega))
                have HE : Hid (FIN = dvR (some l)) := Lib.hid (by rw [HFS.out, Option.some_or])
                clear hcall ho4 hg4 ho3 hb3 hon2 hrs3 hrx3 HFS HF
                go_wp2_with fail
                rw [HE.out]
                go_ret2
                exact ⟨A5, c5, rfl, ho5.lower hbase, hbw5⟩
              | none =>
                refine hcall.mono ?_
                rintro e w5 ⟨A5, c5, rfl, ho5, hb5⟩
                have hbw5 := hbw4.trans (hb5.mono (by omega))
                clear hcall ho4 hg4 ho3 hb3 hon2 hrs3 hrx3
                go_wp2_with fail
                go_roundw
                case rel => exact ⟨t + 1, by omega, by omega, by go_num, Lib.hid (by rw [HFS.out, Option.none_or]), hbw5⟩
                case measure => simp [intOf]; omega
            · rw [if_neg hle] at HFS
              have hle' : most < v + x := by omega
              go_wp2_with fail
              go_roundw
              case rel => exact ⟨t + 1, by omega, by omega, by go_num, Lib.hid (by rw [HFS.out, Option.none_or]), hbw2⟩
              case measure => simp [intOf]; omega
          · have hte : t = sums.length := by omega
            have htb : ((t : Int) == (sums.length : Int)) = true := by rw [beq_iff_eq]; omega
            have HTE := Lib.hid hte
            clear hte
            go_wp2_with fail
            refine hcl.mono ?_
            rintro e wn0 ⟨A0, c0, rfl, ho0, hb1⟩
            clear hcl
            have hs1 := hb1.size
            have hF2 : sums.getD t 0 = 0 := by simp [HTE.out]
            rw [hF2, if_pos (by omega)] at HFS
            obtain ⟨Sn, hSn⟩ : ∃ Sn, Sn = sums ++ [(0 : Int)] := ⟨_, rfl⟩
            have hkz : t < Sn.length := by have := HTE.out; rw [hSn]; simp; omega
            have hlz : Sn.length = sums.length + 1 := by rw [hSn]; simp
            have hSl : Sn.length ≤ T := by have := HTE.out; omega
            have hz0 : Sn[t] = 0 := by have := HTE.out; subst hSn; simp [this]
            have HPu : Hid (Sn.set t (0 + x) = puts sums t x) := Lib.hid (by
              have hte := HTE.out
              subst hSn; subst hte; unfold puts; rw [if_neg (by omega), List.set_append_right _ _ (Nat.le_refl _)]; simp)
            have HSb : Hid (∀ s ∈ Sn, 0 ≤ s ∧ s ≤ most) := Lib.hid (by
              rw [hSn]
              intro s hs
              rcases List.mem_append.1 hs with h | h
              · exact HSS0.out s h
              · simp at h; omega)
            have HLZ := Lib.hid hlz
            have HSN := Lib.hid hSn
            have htl0 : (t : Int) < sums.length + 1 := by omega
            have htl1 : t < sums.length + 1 := by omega
            obtain ⟨v, hv⟩ : ∃ v : Int, v = 0 := ⟨_, rfl⟩
            rw [← hv] at HPu hz0
            have v0 : 0 ≤ v := by omega
            have v1 : v ≤ most := by omega
            have hle : v + x ≤ most := by omega
            have hwr : IntKind.i64.wrap (v + x) = v + x := wrapS (by omega) (by omega)
            have HZ0 := Lib.hid hz0
            clear hSn hlz hz0 hv htb
            go_wp2_with (at_builtin; go_loud (refine wpL_app1 (L := LI) rowI rfl rfl _ _ rfl rfl ho0 0 _ rfl rfl rfl (by unfold maxLen; omega) (by omega) (by omega) ?_); intro An cn wn hon hg1; rw [← HSN.out] at hon; obtain ⟨gn, rfl, hgn1, hgn2, hcv, hfv⟩ := hon.int hkz; rw [HZ0.out] at hcv)
            have hbn : Below w.heap.size w wn := Grew.below (hbel.trans (hb1.mono hsz)) hg1 (by omega) (fun g e => by have := (ho0.blk_lt g e).1; omega)
            clear ho0 hg1
            have hon2 := hon.setInt t (v + x)
            have hbw2 : Below w.heap.size w (wn.setCell ⟨gn, t, none⟩ (.int .i64 (v + x))) := hbn.setCell (by show w.heap.size ≤ gn; omega) _
            generalize wn.setCell ⟨gn, t, none⟩ (.int .i64 (v + x)) = w2 at *
            have hs2 := hbw2.size
            have hod2 := HOD.out.below hbw2
            refine (clone_any Ad cd dn w2.heap.size w2 hod2.rd (Nat.le_refl _) (by omega)).mono ?_
            rintro e w3 ⟨A3, c3, rfl, ho3, hb3⟩
            have hs3 := hb3.size
            have hrs3 := (hon2.rd).below hb3
            have hrx3 := (((hr.below hbw2).more hs2).below hb3)
            go_wp2_with (at_builtin; go_loud (refine wpL_app1 (L := LI) rowI rfl rfl _ _ rfl rfl ho3 (t : Int) _ rfl rfl (by simp) (by unfold maxLen; omega) (by omega) (by omega) ?_); intro A4 c4 w4 ho4 hg4)
            have hs4 := hg4.size
            have hA3 : ∀ g, blk A3 = some g → w2.heap.size ≤ g := fun g e => (ho3.blk_lt g e).1
            have hbw4 : Below w.heap.size w w4 := Grew.below (hbw2.trans (hb3.mono hs2)) hg4 (by omega) (fun g e => by have := hA3 g e; omega)
            have hcall := ih w4 w.heap.size A4 c4 (dn ++ [(t : Int)]) (some ⟨gn, 0, none⟩) cn (Sn.set t (v + x)) (by have := HXL.out; simp; omega) ((hg4.rd hrx3 (by omega) hA3).more (by omega)) (ho4.lower hs2) (by omega) ((hg4.rd hrs3 (by omega) hA3).more (by omega)) (by rw [List.length_set]; exact hSl) (fun s hs => by
              rcases List.mem_or_eq_of_mem_set hs with h | h
              · exact HSb.out s h
              · omega)
            rw [List.length_set, HLZ.out, show (dn ++ [(t : Int)]).length = dn.length + 1 by simp, HPu.out, HX1.out] at hcall
            generalize hq : (lvs most xs1 (puts sums t x) (dn ++ [(t : Int)])).find? (fun l => decide (l.2 ≤ T)) = q at *
            cases q with
            | some l =>
              refine hcall.mono ?_
              rintro e w5 ⟨A5, c5, rfl, ho5, hb5⟩
              have hbw5 := hbw4.trans (hb5.mono (by omega))
              have HE : Hid (FIN = dvR (some l)) := Lib.hid (by rw [HFS.out, Option.some_or])
              clear hcall ho4 hg4 ho3 hb3 hon2 hrs3 hrx3 HFS HF
              go_wp2_with fail
              rw [HE.out]
              go_ret2
              exact ⟨A5, c5, rfl, ho5.lower hbase, hbw5⟩
            | none =>
              refine hcall.mono ?_
              rintro e w5 ⟨A5, c5, rfl, ho5, hb5⟩
              have hbw5 := hbw4.trans (hb5.mono (by omega))
              clear hcall ho4 hg4 ho3 hb3 hon2 hrs3 hrx3
              go_wp2_with fail
              go_roundw
              case rel => exact ⟨t + 1, by omega, by omega, by go_num, Lib.hid (by rw [HFS.out, Option.none_or]), hbw5⟩
              case measure => simp [intOf]; omega
        · have hF : FIN = dvR none := by rw [HF.out, show t = T by omega, lvsFrom_full (by omega)]
          have HFE := Lib.hid hF
          have ht3 : (T : Int) ≤ t := by omega
          clear hF HF
          go_wp2_with fail
          rw [HFE.out]
          go_ret2
          exact ⟨none, 0, rfl, Own.none_, hbel⟩
      · have hF : FIN = dvR none := by rw [HF.out, show sums.length + 1 - t = 0 by omega]; rfl
        have HFE := Lib.hid hF
        have ht3 : (sums.length : Int) < t := by omega
        clear hF HF
        go_wp2_with fail
        rw [HFE.out]
        go_ret2
        exact ⟨none, 0, rfl, Own.none_, hbel⟩
end Go.Proofs.Ytcookepklcbfeaa
