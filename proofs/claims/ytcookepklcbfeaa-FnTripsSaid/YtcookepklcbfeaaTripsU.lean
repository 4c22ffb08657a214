/-
  The reference's search over trips: the walk of (l21T).walk.
-/
import Derived.Test.YtcookepklcbfeaaTripsT
namespace Go.Proofs.Ytcookepklcbfeaa
open Go.ChangeShapes Go.WideShapes Go.RowKit

/-- what the search leaves -/
def WkP (base g : Nat) (A : Option Addr) (c : Nat) (xs : List Int) (most : Int) (sums wh : List Int) (st : Int × List Int) (w w' : World) : Prop :=
  ∃ As cs Aw cw Ab cb, TS w' base g A c xs most As cs sums Aw cw wh Ab cb st.2 st.1 ∧ Below base w w'
/-- the sums at the head of the loop's round k -/
def smAt (sums : List Int) (k : Nat) : List Int := if k ≤ sums.length then sums else sums ++ [0]
theorem lvsFrom_step {most x : Int} {xs sums wh : List Int} {n k : Nat} (hk : k < n) (st : Int × List Int) : (lvsFrom most x xs sums wh n (n - k)).foldl upd st = (lvsFrom most x xs sums wh n (n - (k + 1))).foldl upd (if sums.getD k 0 + x ≤ most then (lvs most xs (puts sums k x) (wh ++ [(k : Int)])).foldl upd st else st) := by
  obtain ⟨m, hm⟩ : ∃ m, n - k = m + 1 := ⟨n - k - 1, by omega⟩
  rw [hm, show n - (k + 1) = m by omega, lvsFrom, List.foldl_append, show n - (m + 1) = k by omega]
  split <;> rfl
theorem upd_lo {st : Int × List Int} (h : -1 ≤ st.1) (ls : List (List Int × Nat)) : -1 ≤ (ls.foldl upd st).1 := by
  induction ls generalizing st with
  | nil => exact h
  | cons l ls ih =>
    rw [List.foldl_cons]
    apply ih
    unfold upd
    split
    · simp only; omega
    · exact h

set_option maxRecDepth 100000 in
set_option maxHeartbeats 6400000 in
theorem walk_any (base g : Nat) (A : Option Addr) (c : Nat) (xs : List Int) (most : Int) (hx : ∀ x ∈ xs, 1 ≤ x ∧ x ≤ most) (hm : most ≤ 1000000) (hn : xs.length ≤ 10) (m : Nat) :
    ∀ (w : World) (As : Option Addr) (cs : Nat) (sums : List Int) (Aw : Option Addr) (cw : Nat) (wh : List Int) (Ab : Option Addr) (cb : Nat) (best : List Int) (few : Int), xs.length = wh.length + m → TS w base g A c xs most As cs sums Aw cw wh Ab cb best few →
      sums.length ≤ wh.length → (∀ s ∈ sums, 0 ≤ s ∧ s ≤ most) → -1 ≤ few →
      Calls Try.prog 68 #[.pointer (some ⟨g, 0, none⟩)] w fun e w' => e = .returned (.tuple #[]) ∧ WkP base g A c xs most sums wh ((lvs most (xs.drop wh.length) sums wh).foldl upd (few, best)) w w' := by
  induction m with
  | zero =>
    intro w As cs sums Aw cw wh Ab cb best few hxl hT hsl hss hfew
    have k2 := hT.c2
    have k3 := hT.c3
    have k5 := hT.c5
    have k0 := hT.c0
    have hg1 := hT.g1
    have hf4 := hT.f4
    have hf5 := hT.f5
    have k4 := hT.c4
    by_cases hp : 0 ≤ few ∧ few ≤ sums.length
    · obtain ⟨hp1, hp2⟩ := hp
      have HE : Hid ((lvs most (xs.drop wh.length) sums wh).foldl upd (few, best) = (few, best)) := Lib.hid (upd_skip hp1 fun l hl => by have := lvs_ge hl; simp only; omega)
      rw [HE.out]
      go_enter Try.func68, Try.ntmps68
      go_wp2_with fail
      refine bodyPost_ret (v := .tuple #[]) (by simp [results, Try.results68, go_sem]) rfl ⟨rfl, As, cs, Aw, cw, Ab, cb, hT, Below.refl _ _⟩
    · have HE : Hid ((lvs most (xs.drop wh.length) sums wh).foldl upd (few, best) = ((sums.length : Int), wh)) := Lib.hid (by
        rw [List.drop_of_length_le (by omega)]
        simp only [lvs, List.foldl_cons, List.foldl_nil]
        unfold upd
        rw [if_pos (by simp only; omega)])
      rw [HE.out]
      have hz : ((wh.length : Int) == (xs.length : Int)) = true := by rw [beq_iff_eq]; omega
      have hown := fun W h1 h2 => l00Own_any Aw cw wh W.heap.size W h1 (Nat.le_refl _) h2 hT.ow.nil0
      have hcase : few < 0 ∨ (0 ≤ few ∧ (sums.length : Int) < few) := by omega
      have hrd := hT.ow.rd
      have HT := Lib.hid hT
      have hwl : wh.length * 8 ≤ 140737488355328 := by omega
      clear hp hT
      rcases hcase with hc | ⟨hc, hc2⟩
      all_goals
        go_enter Try.func68, Try.ntmps68
        go_wp2_with fail
        refine (hown _ hrd hwl).mono ?_
        rintro e w1 ⟨Ab', cb', rfl, ho, hb⟩
        have hTb := HT.out.keepBest hb ho (sums.length : Int)
        have q4 := (hb.cell (p := ⟨g, 4, none⟩) hg1).trans k4
        have q5 := (hb.cell (p := ⟨g, 5, none⟩) hg1).trans k5
        have r4 := (hb.frozen (p := ⟨g, 4, none⟩) hg1).trans hf4
        have r5 := (hb.frozen (p := ⟨g, 5, none⟩) hg1).trans hf5
        have hbl : Below base w ((w1.setCell ⟨g, 4, none⟩ (.slice Ab' wh.length cb')).setCell ⟨g, 5, none⟩ (.int .i64 sums.length)) := ((hb.mono HT.out.base_le).setCell HT.out.g0 _).setCell HT.out.g0 _
        have Hbl := Lib.hid hbl
        have HTb := Lib.hid hTb
        clear hTb hbl
        go_wp2_with fail
        refine bodyPost_ret (v := .tuple #[]) (by simp [results, Try.results68, go_sem]) rfl ⟨rfl, As, cs, Aw, cw, Ab', cb', HTb.out, Hbl.out⟩
  | succ m ih =>
    intro w As cs sums Aw cw wh Ab cb best few hxl hT hsl hss hfew
    have hwx : wh.length < xs.length := by omega
    have HXL := Lib.hid hxl
    have hz : ((wh.length : Int) == (xs.length : Int)) = false := by rw [beq_eq_false_iff_ne]; omega
    clear hxl
    obtain ⟨ad, rfl, hab0, _⟩ := hT.rd.int hwx
    have k2 := hT.c2
    have k3 := hT.c3
    have k5 := hT.c5
    have k0 := hT.c0
    have hg1 := hT.g1
    by_cases hp : 0 ≤ few ∧ few ≤ sums.length
    · obtain ⟨hp1, hp2⟩ := hp
      have HE : Hid ((lvs most (xs.drop wh.length) sums wh).foldl upd (few, best) = (few, best)) := Lib.hid (upd_skip hp1 fun l hl => by have := lvs_ge hl; simp only; omega)
      rw [HE.out]
      have HT := Lib.hid hT
      clear hT
      go_enter Try.func68, Try.ntmps68
      go_wp2_with fail
      refine bodyPost_ret (v := .tuple #[]) (by simp [results, Try.results68, go_sem]) rfl ⟨rfl, As, cs, Aw, cw, Ab, cb, HT.out, Below.refl _ _⟩
    · have hcase : few < 0 ∨ (0 ≤ few ∧ (sums.length : Int) < few) := by omega
      obtain ⟨xs1, hxs1⟩ : ∃ xs1, xs1 = xs.drop (wh.length + 1) := ⟨_, rfl⟩
      have HX1 := Lib.hid hxs1
      have HF0 : Hid ((lvs most (xs.drop wh.length) sums wh).foldl upd (few, best) = (lvsFrom most xs[wh.length] xs1 sums wh (sums.length + 1) (sums.length + 1 - 0)).foldl upd (few, best)) := Lib.hid (by
        rw [List.drop_eq_getElem_cons hwx, lvsFrom_all, hxs1, Nat.sub_zero])
      obtain ⟨hx1, hx2⟩ := hx _ (List.getElem_mem hwx)
      obtain ⟨x, hxx⟩ : ∃ x, x = xs[wh.length] := ⟨_, rfl⟩
      have HXX := Lib.hid hxx
      rw [← hxx] at HF0 hx1 hx2
      clear hxx
      have HX := Lib.hid hx
      have HSS0 := Lib.hid hss
      have HT := Lib.hid hT
      clear hp hT hxs1 hx hss
      generalize (lvs most (xs.drop wh.length) sums wh).foldl upd (few, best) = FIN at *
      rcases hcase with hc | ⟨hc, hc2⟩
      all_goals
        go_enter Try.func68, Try.ntmps68
        go_wp2_with fail
        go_loopw [4] (fun i wr => ∃ (k : Nat) (As : Option Addr) (cs : Nat) (S1 : List Int) (Aw : Option Addr) (cw : Nat) (Ab : Option Addr) (cb : Nat) (st : Int × List Int), k ≤ sums.length + 1 ∧ i = .int .i64 k ∧ TS wr base g (some ad) c xs most As cs S1 Aw cw wh Ab cb st.2 st.1 ∧ Hid (S1 = smAt sums k) ∧ Hid (FIN = (lvsFrom most x xs1 sums wh (sums.length + 1) (sums.length + 1 - k)).foldl upd st) ∧ -1 ≤ st.1 ∧ Below base w wr) (fun i _ => sums.length + 1 - (intOf i).toNat)
        case atStart => exact ⟨0, As, cs, sums, Aw, cw, Ab, cb, (few, best), by omega, rfl, HT.out, Lib.hid (by unfold smAt; rw [if_pos (by omega)]), HF0, hfew, Below.refl _ _⟩
        case round =>
          obtain ⟨k, As, cs, S1, Aw, cw, Ab, cb, st, hk, rfl, hT, HS1, HF, hst, hbel⟩ := hrel
          by_cases hkn : k ≤ sums.length
          · have hS1 : S1 = sums := by rw [HS1.out]; unfold smAt; rw [if_pos hkn]
            have HFS := Lib.hid (HF.out.trans (lvsFrom_step (most := most) (x := x) (xs := xs1) (sums := sums) (wh := wh) (n := sums.length + 1) (k := k) (by omega) st))
            clear HF0
            by_cases hkt : k < sums.length
            · obtain ⟨Sz, hSz⟩ : ∃ Sz, Sz = sums := ⟨_, rfl⟩
              have hkz : k < Sz.length := by rw [hSz]; exact hkt
              have hlz : Sz.length = sums.length := by rw [hSz]
              have hvz : sums.getD k 0 = Sz[k] := by subst hSz; simp [hkt]
              have hpu : Sz.set k (Sz[k] + x) = puts sums k x := by subst hSz; unfold puts; rw [if_pos hkt]; simp [hkt]
              have hSb : ∀ s ∈ Sz, 0 ≤ s ∧ s ≤ most := by rw [hSz]; exact HSS0.out
              have hsm : Sz = smAt sums (k + 1) := by unfold smAt; rw [if_pos (by omega), hSz]
              rw [hS1, ← hSz] at hT
              have hkb : ((k : Int) == (sums.length : Int)) = false := by rw [beq_eq_false_iff_ne]; omega
              clear hS1 HS1 hSz
              obtain ⟨cz, hcz⟩ : ∃ cz, cz = cs := ⟨_, rfl⟩
              obtain ⟨Az, hAz⟩ : ∃ Az, Az = Aw := ⟨_, rfl⟩
              obtain ⟨cy, hcy⟩ : ∃ cy, cy = cw := ⟨_, rfl⟩
              rw [← hcz, ← hAz, ← hcy] at hT
              clear hcz hAz hcy
              go_wp2_with fail
              have hT1 := hT
              have hbz := hbel
              clear hT hbel
              have z0 := hT1.c0
              have z1 := hT1.c1
              have z2 := hT1.c2
              have z3 := hT1.c3
              have hg1 := hT1.g1
              obtain ⟨gs, rfl, hgs1, hgs2, hcv, hfv⟩ := hT1.os.int hkz
              obtain ⟨ad', had, hab, hcx⟩ := hT1.rd.int hwx
              cases had
              have hne : (ad.add wh.length).block ≠ gs := by rw [block_of_add]; omega
              have hgg : g ≠ gs := fun e => hT1.gs (by rw [e]; rfl)
              obtain ⟨v0, v1⟩ := hSb _ (List.getElem_mem hkz)
              have HPu := Lib.hid hpu
              have HSb := Lib.hid hSb
              have HSM := Lib.hid hsm
              have hk0 : (k : Int) < Sz.length := by omega
              have HSS : Hid ((Sz.set k (Sz[k] + x)).set k Sz[k] = Sz) := Lib.hid (by rw [List.set_set, List.set_getElem_self])
              have HT1 := Lib.hid hT1
              rw [hvz] at HFS
              clear hpu hSb hsm hT1 hvz
              obtain ⟨v, hvv⟩ : ∃ v, v = Sz[k] := ⟨_, rfl⟩
              rw [← HXX.out] at hcx
              rw [← hvv] at hcv v0 v1 HSS HPu HFS
              clear hvv
              have hwr : IntKind.i64.wrap (v + x) = v + x := wrapS (by omega) (by omega)
              have hwr2 : IntKind.i64.wrap (v + x - x) = v + x - x := wrapS (by omega) (by omega)
              by_cases hle : v + x ≤ most
              · rw [if_pos hle] at HFS
                go_quiet (fail)
                go_wp2_with fail
                go_region
                generalize hW2 : World.setCell (World.drewN _ _) ⟨gs, k, none⟩ (.int .i64 (v + x)) = w2
                have hT2 : TS w2 base g (some ad) c xs most (some ⟨gs, 0, none⟩) cz (Sz.set k (v + x)) Az cy wh Ab cb st.2 st.1 := by rw [← hW2]; exact (HT1.out.drewN _).setS k _
                have hb2 : Below base w w2 := by rw [← hW2]; exact (below_drewN hbz _).setCell hgs1 _
                clear hW2 hcv hfv hcx z0 z1 z2 z3
                have y3 := hT2.c3
                have HT2 := Lib.hid hT2
                have hg2 := hT2.g1
                have hbs2 := hT2.base_le
                have how := hT2.ow
                clear hT2
                go_wp2_with (at_builtin; go_loud (refine wpL_app1 (L := LI) rowI rfl rfl _ _ rfl rfl how (k : Int) _ rfl rfl (by simp) (by unfold maxLen; omega) (by omega) (by omega) ?_); intro A5 c5 w5 ho5 hg5; have q3 := (hg5.cell ⟨g, 3, none⟩ HT2.out.g1 HT2.out.gw).trans HT2.out.c3; have r3 := (hg5.frozen ⟨g, 3, none⟩ HT2.out.g1 HT2.out.gw).trans HT2.out.f3)
                have hT3 := HT2.out.growW ho5 hg5
                rw [show (wh ++ [(k : Int)]).length = wh.length + 1 by simp] at hT3
                have hb3 : Below base w (w5.setCell ⟨g, 3, none⟩ (.slice A5 (wh.length + 1) c5)) := (Grew.below hb2 hg5 hbs2 (fun g' e => (HT2.out.ow.blk_lt g' e).1)).setCell HT2.out.g0 _
                clear q3 r3 y3 ho5 hg5 how hg2
                generalize w5.setCell ⟨g, 3, none⟩ (.slice A5 (wh.length + 1) c5) = w6 at *
                have hcall := ih w6 (some ⟨gs, 0, none⟩) cz (Sz.set k (v + x)) A5 c5 (wh ++ [(k : Int)]) Ab cb st.2 st.1 (by have := HXL.out; simp; omega) hT3 (by simp; omega) (fun s hs => by
                  rcases List.mem_or_eq_of_mem_set hs with h | h
                  · exact HSb.out s h
                  · omega) hst
                clear hT3 HT2
                refine hcall.mono ?_
                rintro e w7 ⟨rfl, As7, cs7, Aw7, cw7, Ab7, cb7, hT7, hb7⟩
                clear hcall
                have hlo := upd_lo (st := (st.1, st.2)) hst (lvs most (xs.drop (wh ++ [(k : Int)]).length) (Sz.set k (v + x)) (wh ++ [(k : Int)]))
                have HST : Hid ((lvs most (xs.drop (wh ++ [(k : Int)]).length) (Sz.set k (v + x)) (wh ++ [(k : Int)])).foldl upd (st.1, st.2) = (lvs most xs1 (puts sums k x) (wh ++ [(k : Int)])).foldl upd st) := Lib.hid (by
                  rw [HX1.out, HPu.out]; simp)
                generalize (lvs most (xs.drop (wh ++ [(k : Int)]).length) (Sz.set k (v + x)) (wh ++ [(k : Int)])).foldl upd (st.1, st.2) = st7 at *
                have y3 := hT7.c3
                have s3 := hT7.f3
                have hcap := hT7.ow.le
                have hg7 := hT7.g1
                rw [show (wh ++ [(k : Int)]).length = wh.length + 1 by simp] at y3 hcap
                have hcap0 : (wh.length : Int) ≤ cw7 := by omega
                have hcap1 : wh.length ≤ cw7 := by omega
                have hT8 := hT7.takeW (n := wh.length) (by simp)
                rw [show (wh ++ [(k : Int)]).take wh.length = wh by simp] at hT8
                have hb8 : Below base w (w7.setCell ⟨g, 3, none⟩ (.slice Aw7 wh.length cw7)) := (hb3.trans hb7).setCell hT7.g0 _
                have HT8 := Lib.hid hT8
                have HB8 := Lib.hid hb8
                clear hT7 hb3 hb7 hT8 hb8 hb2
                go_wp2_with fail
                generalize w7.setCell ⟨g, 3, none⟩ (.slice Aw7 wh.length cw7) = w8 at *
                obtain ⟨gs8, rfl, hgs8, hgl8, hcv8, hfv8⟩ := HT8.out.os.int (k := k) (by simp; omega)
                rw [List.getElem_set_self] at hcv8
                obtain ⟨ad8, had8, hab8, hcx8⟩ := HT8.out.rd.int hwx
                cases had8
                rw [← HXX.out] at hcx8
                have z0 := HT8.out.c0
                have z2 := HT8.out.c2
                rw [List.length_set] at z2
                have hne8 : (ad.add wh.length).block ≠ gs8 := by rw [block_of_add]; omega
                have hgg8 : g ≠ gs8 := fun e => HT8.out.gs (by rw [e]; rfl)
                have hg8 := HT8.out.g1
                clear y3 s3
                go_region
                go_wp2_with fail
                go_roundw
                case rel =>
                  have hT9 := HT8.out.setS k v
                  rw [HSS.out] at hT9
                  exact ⟨k + 1, some ⟨gs8, 0, none⟩, cs7, Sz, Aw7, cw7, Ab7, cb7, st7, by omega, by go_num, hT9.drewN 1, HSM, Lib.hid (by rw [HST.out]; exact HFS.out), hlo, below_drewN (HB8.out.setCell hgs8 _) 1⟩
                case measure => simp [intOf]; omega
              · rw [if_neg hle] at HFS
                have hle' : most < v + x := by omega
                go_quiet (fail)
                go_wp2_with fail
                go_roundw
                case rel => exact ⟨k + 1, some ⟨gs, 0, none⟩, cz, Sz, Az, cy, Ab, cb, st, by omega, by go_num, HT1.out.drewN _, HSM, Lib.hid HFS.out, hst, below_drewN hbz _⟩
                case measure => simp [intOf]; omega
            · have hke : k = sums.length := by omega
              have hkb : ((k : Int) == (sums.length : Int)) = true := by rw [beq_iff_eq]; omega
              have HKE := Lib.hid hke
              rw [hS1] at hT
              have how := hT.os
              have hbs2 := hT.base_le
              have y2 := hT.c2
              have HT2 := Lib.hid hT
              have hg2 := hT.g1
              have hlz : sums.length ≤ 10 := by omega
              clear hS1 HS1 hT hke
              go_wp2_with (at_builtin; go_loud (refine wpL_app1 (L := LI) rowI rfl rfl _ _ rfl rfl how 0 _ rfl rfl rfl (by unfold maxLen; omega) (by omega) (by omega) ?_); intro A5 c5 w5 ho5 hg5; have q2 := (hg5.cell ⟨g, 2, none⟩ HT2.out.g1 HT2.out.gs).trans HT2.out.c2; have r2 := (hg5.frozen ⟨g, 2, none⟩ HT2.out.g1 HT2.out.gs).trans HT2.out.f2)
              have hke := HKE.out
              have hT1 := HT2.out.growS ho5 hg5
              rw [show (sums ++ [(0 : Int)]).length = sums.length + 1 by simp] at hT1
              have hbz : Below base w (w5.setCell ⟨g, 2, none⟩ (.slice A5 (sums.length + 1) c5)) := (Grew.below hbel hg5 hbs2 (fun g' e => (HT2.out.os.blk_lt g' e).1)).setCell HT2.out.g0 _
              clear q2 r2 y2 ho5 hg5 how hg2 HT2 hbel hbs2
              generalize w5.setCell ⟨g, 2, none⟩ (.slice A5 (sums.length + 1) c5) = wz at *
              obtain ⟨Sz, hSz⟩ : ∃ Sz, Sz = sums ++ [0] := ⟨_, rfl⟩
              have hkz : k < Sz.length := by rw [hSz]; simp; omega
              have hlz2 : Sz.length ≤ sums.length + 1 := by rw [hSz]; simp
              have hvz : sums.getD k 0 = Sz[k] := by subst hSz; simp [hke]
              have hpu : Sz.set k (Sz[k] + x) = puts sums k x := by
                subst hSz; subst hke; unfold puts; rw [if_neg (by omega), List.set_append_right _ _ (Nat.le_refl _)]; simp
              have hSb : ∀ s ∈ Sz, 0 ≤ s ∧ s ≤ most := by
                rw [hSz]
                intro s hs
                rcases List.mem_append.1 hs with h | h
                · exact HSS0.out s h
                · simp at h; omega
              have hsm : Sz = smAt sums (k + 1) := by unfold smAt; rw [if_neg (by omega), hSz]
              rw [← hSz] at hT1
              obtain ⟨cz, hcz⟩ : ∃ cz, cz = c5 := ⟨_, rfl⟩
              obtain ⟨Az, hAz⟩ : ∃ Az, Az = Aw := ⟨_, rfl⟩
              obtain ⟨cy, hcy⟩ : ∃ cy, cy = cw := ⟨_, rfl⟩
              rw [← hcz, ← hAz, ← hcy] at hT1
              have hke' : k ≤ sums.length := by omega
              clear hcz hAz hcy hSz hke hkb hkt
              go_wp2_with fail
              have z0 := hT1.c0
              have z1 := hT1.c1
              have z2 := hT1.c2
              have z3 := hT1.c3
              have hg1 := hT1.g1
              obtain ⟨gs, rfl, hgs1, hgs2, hcv, hfv⟩ := hT1.os.int hkz
              obtain ⟨ad', had, hab, hcx⟩ := hT1.rd.int hwx
              cases had
              have hne : (ad.add wh.length).block ≠ gs := by rw [block_of_add]; omega
              have hgg : g ≠ gs := fun e => hT1.gs (by rw [e]; rfl)
              obtain ⟨v0, v1⟩ := hSb _ (List.getElem_mem hkz)
              have HPu := Lib.hid hpu
              have HSb := Lib.hid hSb
              have HSM := Lib.hid hsm
              have hk0 : (k : Int) < Sz.length := by omega
              have HSS : Hid ((Sz.set k (Sz[k] + x)).set k Sz[k] = Sz) := Lib.hid (by rw [List.set_set, List.set_getElem_self])
              have HT1 := Lib.hid hT1
              rw [hvz] at HFS
              clear hpu hSb hsm hT1 hvz
              obtain ⟨v, hvv⟩ : ∃ v, v = Sz[k] := ⟨_, rfl⟩
              rw [← HXX.out] at hcx
              rw [← hvv] at hcv v0 v1 HSS HPu HFS
              clear hvv
              have hwr : IntKind.i64.wrap (v + x) = v + x := wrapS (by omega) (by omega)
              have hwr2 : IntKind.i64.wrap (v + x - x) = v + x - x := wrapS (by omega) (by omega)
              by_cases hle : v + x ≤ most
              · rw [if_pos hle] at HFS
                go_quiet (fail)
                go_wp2_with fail
                go_region
                generalize hW2 : World.setCell (World.drewN _ _) ⟨gs, k, none⟩ (.int .i64 (v + x)) = w2
                have hT2 : TS w2 base g (some ad) c xs most (some ⟨gs, 0, none⟩) cz (Sz.set k (v + x)) Az cy wh Ab cb st.2 st.1 := by rw [← hW2]; exact (HT1.out.drewN _).setS k _
                have hb2 : Below base w w2 := by rw [← hW2]; exact (below_drewN hbz _).setCell hgs1 _
                clear hW2 hcv hfv hcx z0 z1 z2 z3
                have y3 := hT2.c3
                have HT2 := Lib.hid hT2
                have hg2 := hT2.g1
                have hbs2 := hT2.base_le
                have how := hT2.ow
                clear hT2
                go_wp2_with (at_builtin; go_loud (refine wpL_app1 (L := LI) rowI rfl rfl _ _ rfl rfl how (k : Int) _ rfl rfl (by simp) (by unfold maxLen; omega) (by omega) (by omega) ?_); intro A5 c5 w5 ho5 hg5; have q3 := (hg5.cell ⟨g, 3, none⟩ HT2.out.g1 HT2.out.gw).trans HT2.out.c3; have r3 := (hg5.frozen ⟨g, 3, none⟩ HT2.out.g1 HT2.out.gw).trans HT2.out.f3)
                have hT3 := HT2.out.growW ho5 hg5
                rw [show (wh ++ [(k : Int)]).length = wh.length + 1 by simp] at hT3
                have hb3 : Below base w (w5.setCell ⟨g, 3, none⟩ (.slice A5 (wh.length + 1) c5)) := (Grew.below hb2 hg5 hbs2 (fun g' e => (HT2.out.ow.blk_lt g' e).1)).setCell HT2.out.g0 _
                clear q3 r3 y3 ho5 hg5 how hg2
                generalize w5.setCell ⟨g, 3, none⟩ (.slice A5 (wh.length + 1) c5) = w6 at *
                have hcall := ih w6 (some ⟨gs, 0, none⟩) cz (Sz.set k (v + x)) A5 c5 (wh ++ [(k : Int)]) Ab cb st.2 st.1 (by have := HXL.out; simp; omega) hT3 (by simp; omega) (fun s hs => by
                  rcases List.mem_or_eq_of_mem_set hs with h | h
                  · exact HSb.out s h
                  · omega) hst
                clear hT3 HT2
                refine hcall.mono ?_
                rintro e w7 ⟨rfl, As7, cs7, Aw7, cw7, Ab7, cb7, hT7, hb7⟩
                clear hcall
                have hlo := upd_lo (st := (st.1, st.2)) hst (lvs most (xs.drop (wh ++ [(k : Int)]).length) (Sz.set k (v + x)) (wh ++ [(k : Int)]))
                have HST : Hid ((lvs most (xs.drop (wh ++ [(k : Int)]).length) (Sz.set k (v + x)) (wh ++ [(k : Int)])).foldl upd (st.1, st.2) = (lvs most xs1 (puts sums k x) (wh ++ [(k : Int)])).foldl upd st) := Lib.hid (by
                  rw [HX1.out, HPu.out]; simp)
                generalize (lvs most (xs.drop (wh ++ [(k : Int)]).length) (Sz.set k (v + x)) (wh ++ [(k : Int)])).foldl upd (st.1, st.2) = st7 at *
                have y3 := hT7.c3
                have s3 := hT7.f3
                have hcap := hT7.ow.le
                have hg7 := hT7.g1
                rw [show (wh ++ [(k : Int)]).length = wh.length + 1 by simp] at y3 hcap
                have hcap0 : (wh.length : Int) ≤ cw7 := by omega
                have hcap1 : wh.length ≤ cw7 := by omega
                have hT8 := hT7.takeW (n := wh.length) (by simp)
                rw [show (wh ++ [(k : Int)]).take wh.length = wh by simp] at hT8
                have hb8 : Below base w (w7.setCell ⟨g, 3, none⟩ (.slice Aw7 wh.length cw7)) := (hb3.trans hb7).setCell hT7.g0 _
                have HT8 := Lib.hid hT8
                have HB8 := Lib.hid hb8
                clear hT7 hb3 hb7 hT8 hb8 hb2
                go_wp2_with fail
                generalize w7.setCell ⟨g, 3, none⟩ (.slice Aw7 wh.length cw7) = w8 at *
                obtain ⟨gs8, rfl, hgs8, hgl8, hcv8, hfv8⟩ := HT8.out.os.int (k := k) (by simp; omega)
                rw [List.getElem_set_self] at hcv8
                obtain ⟨ad8, had8, hab8, hcx8⟩ := HT8.out.rd.int hwx
                cases had8
                rw [← HXX.out] at hcx8
                have z0 := HT8.out.c0
                have z2 := HT8.out.c2
                rw [List.length_set] at z2
                have hne8 : (ad.add wh.length).block ≠ gs8 := by rw [block_of_add]; omega
                have hgg8 : g ≠ gs8 := fun e => HT8.out.gs (by rw [e]; rfl)
                have hg8 := HT8.out.g1
                clear y3 s3
                go_region
                go_wp2_with fail
                go_roundw
                case rel =>
                  have hT9 := HT8.out.setS k v
                  rw [HSS.out] at hT9
                  exact ⟨k + 1, some ⟨gs8, 0, none⟩, cs7, Sz, Aw7, cw7, Ab7, cb7, st7, by omega, by go_num, hT9.drewN 1, HSM, Lib.hid (by rw [HST.out]; exact HFS.out), hlo, below_drewN (HB8.out.setCell hgs8 _) 1⟩
                case measure => simp [intOf]; omega
              · rw [if_neg hle] at HFS
                have hle' : most < v + x := by omega
                go_quiet (fail)
                go_wp2_with fail
                go_roundw
                case rel => exact ⟨k + 1, some ⟨gs, 0, none⟩, cz, Sz, Az, cy, Ab, cb, st, by omega, by go_num, HT1.out.drewN _, HSM, Lib.hid HFS.out, hst, below_drewN hbz _⟩
                case measure => simp [intOf]; omega
          · have hke : k = sums.length + 1 := by omega
            subst hke
            have hS1 : S1 = sums ++ [0] := by rw [HS1.out]; unfold smAt; rw [if_neg (by omega)]
            have hF : FIN = st := by rw [HF.out, Nat.sub_self]; rfl
            subst hS1
            have y2 := hT.c2
            have s2 := hT.f2
            have hcap := hT.os.le
            have hg2 := hT.g1
            rw [show (sums ++ [(0 : Int)]).length = sums.length + 1 by simp] at y2 hcap
            have hcap0 : (sums.length : Int) ≤ cs := by omega
            have hcap1 : sums.length ≤ cs := by omega
            have hT8 := hT.takeS (n := sums.length) (by simp)
            rw [show (sums ++ [(0 : Int)]).take sums.length = sums by simp] at hT8
            have hb8 : Below base w (wr.setCell ⟨g, 2, none⟩ (.slice As sums.length cs)) := hbel.setCell hT.g0 _
            have HT8 := Lib.hid hT8
            have HB8 := Lib.hid hb8
            have HFE := Lib.hid hF
            clear hT hT8 hb8 hF HS1 HF HF0 hbel
            go_wp2_with fail
            rw [HFE.out]
            refine bodyPost_end (v := .tuple #[]) (by simp [results, Try.results68, go_sem]) rfl ⟨rfl, As, cs, Aw, cw, Ab, cb, HT8.out, HB8.out⟩
end Go.Proofs.Ytcookepklcbfeaa
