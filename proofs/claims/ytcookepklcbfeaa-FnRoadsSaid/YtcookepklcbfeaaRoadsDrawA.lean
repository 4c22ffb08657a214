/-
  Draws of tables of roads: l21DrawRoads.
-/
import Derived.Test.YtcookepklcbfeaaRoadsDraw
namespace Go.Proofs.Ytcookepklcbfeaa
open Go.ChangeShapes Go.WideShapes Go.RowKit

theorem Hi.lower {b b' : Nat} {A : Option Addr} {rs : List (Row Int)} (h : Hi b A rs) (hb : b' ≤ b) : Hi b' A rs := ⟨fun k e => by have := h.1 k e; omega, fun r hr k e => by have := h.2 r hr k e; omega⟩
set_option maxRecDepth 100000 in
set_option maxHeartbeats 12800000 in
theorem l21DrawRoads_any (g : Nat) (A : Option Addr) (c : Nat) (cs : List Int) (m : Nat) (w : World) (h : Sr w g A c cs m) (hm : m ≤ 1000000) :
    Calls Try.prog 57 #[.pointer (some ⟨g, 0, none⟩)] w (DrewRo g A c cs (m + 500) w) := by
  have hg := h.g1
  have hc := pick_any 6 g A c cs m w h (by omega) (by omega)
  clear h
  go_enter Try.func57, Try.ntmps57
  go_wp2_with fail
  refine hc.mono ?_
  rintro e w1 ⟨x, rfl, x0, x1, hS, hF⟩
  have HF1 := Lib.hid hF
  have hc2 := one_any 20 g A c cs _ w1 hS (by omega) (by omega)
  clear hc hS hF
  go_wp2_with fail
  refine hc2.mono ?_
  rintro e w2 ⟨q, rfl, hS, hF⟩
  have HF2 := Lib.hid (HF1.out.trans hF)
  have HS2 := Lib.hid hS
  clear hc2 hS hF HF1
  obtain ⟨n0, hn0⟩ : ∃ n : Nat, (n : Int) = 1 + x := ⟨(1 + x).toNat, by omega⟩
  go_upto_if 13 with fail
  rw [← hn0]
  go_cut [3] from 12 to 16 (fun s wx => ∃ n : Nat, s = .int .i64 n ∧ 1 ≤ n ∧ n ≤ 9 ∧ Sr wx g A c cs (m + 6) ∧ Fs g w wx)
  case first =>
    have hn1 : 1 ≤ n0 ∧ n0 ≤ 6 := by omega
    clear hn0 x0 x1
    cases q
    · go_wp2_with fail
      go_meet
      case rel => exact ⟨n0, rfl, by omega, by omega, HS2.out.more (by omega), HF2.out⟩
    · have hp := pick_any 2 g A c cs _ w2 HS2.out (by omega) (by omega)
      clear HS2
      go_wp2_with fail
      refine hp.mono ?_
      rintro e w3 ⟨y, rfl, y0, y1, hS, hF⟩
      obtain ⟨n2, hn2⟩ : ∃ n : Nat, (n : Int) = 8 + y := ⟨(8 + y).toNat, by omega⟩
      have e1 : IntKind.i64.wrap (8 + y) = n2 := by rw [hn2]; exact wrapS (by omega) (by omega)
      have hn3 : n2 ≤ 9 ∧ 1 ≤ n2 := by omega
      have HS3 := Lib.hid hS
      have HF3 := Lib.hid (HF2.out.trans hF)
      clear hp hS hF hn2 y0 y1 HF2
      go_wp2_with fail
      go_meet
      case rel => exact ⟨n2, by first | rfl | (rw [e1]; done) | simp [e1], by omega, by omega, HS3.out.more (by omega), HF3.out⟩
  case rest =>
  clear HS2 HF2 hn0 x0 x1
  obtain ⟨n, rfl, n1, n9, hS, hF⟩ := hcut
  have hwc := hF.size
  have hbz : Below wc.heap.size wc (wc.alloc (.cells #[] 24)) := (Below.refl _ wc).alloc (Nat.le_refl _) _
  have HS := Lib.hid (hS.below hbz)
  have HF := Lib.hid (hF.then_ hbz hwc)
  have HR : Hid (OwnR LI 24 2 (wc.alloc (.cells #[] 24)) wc.heap.size (some ⟨wc.heap.size, 0, none⟩) 0 ([] : List (Row Int))) := Lib.hid ⟨Own.lit0 _ (Nat.le_refl _) rfl, (fun r hr => by cases hr), List.Pairwise.nil⟩
  have hgc : g < wc.heap.size := by omega
  clear hS hF hbz
  go_wp2_with fail
  go_loopw [4, 5] (fun o i wr => ∃ (k : Nat) (A1 : Option Addr) (c1 : Nat) (L1 : List (Option Addr × Nat × Nat)) (rs : List (Row Int)), k ≤ n ∧ i = .int .i64 k ∧ o = .slice A1 L1.length c1 ∧ Hid (L1 = rs.map hd) ∧ Hid (L1.length = k) ∧ Hid (∀ r ∈ rs, r.2.2.length = n) ∧ Hid (OwnR LI 24 2 wr wc.heap.size A1 c1 rs) ∧ Hid (Sr wr g A c cs (m + 6)) ∧ Hid (Fs g w wr) ∧ Hid (wc.heap.size ≤ wr.heap.size)) (fun _ i _ => n - (intOf i).toNat)
  case atStart => exact ⟨0, _, _, [], [], by omega, rfl, rfl, Lib.hid rfl, Lib.hid rfl, Lib.hid (fun r hr => by cases hr), HR, HS, HF, Lib.hid (by simp)⟩
  case round =>
    clear HS HF HR
    obtain ⟨k, A1, c1, L1, rs, hk, rfl, rfl, HL1, HLK, HD, HR, HS, HF, HZ⟩ := hrel
    have hLk : L1.length ≤ 9 := by have := HLK.out; omega
    have hz := HZ.out
    by_cases hlt : k < n
    · have hki : (k : Int) < n := by omega
      go_wp2_with (first | (at_make; refine wpL_make (L := LI) rowI rfl _ _ rfl .i64 .i64 _ _ n rfl rfl rfl rfl (by omega) (by unfold maxLen; omega) 0 rfl ?_; intro w3 hrow hb3; have hs3 := hb3.size; have HR3 := Lib.hid (HR.out.below hb3); have hout : Own LV 24 w3 wc.heap.size A1 c1 L1 := (by rw [HL1.out]; exact HR3.out.out)) | (at_builtin; go_loud (refine wpL_app1 (L := LV) rowV rfl rfl _ _ rfl rfl hout (some ⟨wr.heap.size, 0, none⟩, n, n) _ rfl rfl (by simp) (by unfold maxLen; omega) (by omega) (by omega) ?_); intro A6 c6 w6 ho6 hg6))
      have hsn : OwnR LI 24 2 w6 wc.heap.size A6 c6 (rs ++ [(some ⟨wr.heap.size, 0, none⟩, n, List.replicate n 0)]) := OwnR.snoc (r := (some ⟨wr.heap.size, 0, none⟩, n, List.replicate n 0)) HR3.out (by decide) (hrow.lower hz) (fun s hs b h1 h2 => by have := (HR.out.blk_lt.2 s hs b h1).2; simp [blk] at h2; omega) (by
        rw [HL1.out] at ho6
        simpa [hd] using ho6) hg6
      have hbz : Below wc.heap.size wr w6 := (hb3.mono hz).trans (hg6.below' (by omega) (fun b e => (hout.blk_lt b e).1))
      have HS6 := Lib.hid (HS.out.belowB hbz hgc)
      have HF6 := Lib.hid (HF.out.then_ hbz hwc)
      have HR6 := Lib.hid hsn
      have HD6 : Hid (∀ r ∈ rs ++ [((some ⟨wr.heap.size, 0, none⟩, n, List.replicate n 0) : Row Int)], r.2.2.length = n) := Lib.hid (fun r hr => by
        rcases List.mem_append.1 hr with h | h
        · exact HD.out r h
        · simp at h; rw [h]; simp)
      have HE6 : Hid (L1 ++ [(some ⟨wr.heap.size, 0, none⟩, n, n)] = (rs ++ [((some ⟨wr.heap.size, 0, none⟩, n, List.replicate n 0) : Row Int)]).map hd) := Lib.hid (by rw [HL1.out, List.map_append]; simp [hd])
      have HZ6 := Lib.hid (show wc.heap.size ≤ w6.heap.size by have := hbz.size; omega)
      have HK6 : Hid ((L1 ++ [((some ⟨wr.heap.size, 0, none⟩, n, n) : Option Addr × Nat × Nat)]).length = k + 1) := Lib.hid (by rw [List.length_append, HLK.out]; rfl)
      clear hsn hbz ho6 hg6 hout hrow hb3 HR3 HR HS HF
      go_roundw
      case rel => exact ⟨k + 1, A6, c6, L1 ++ [(some ⟨wr.heap.size, 0, none⟩, n, n)], _, by omega, by go_num, by simp, HE6, HK6, HD6, HR6, HS6, HF6, HZ6⟩
      case measure => simp [intOf]; omega
    · have hki : (n : Int) ≤ k := by omega
      have hl : L1.length = n := by have := HLK.out; omega
      have hrl : rs.length = n := by rw [← hl, HL1.out]; simp
      have HM : Hid (Mx n wr wc.heap.size A1 c1) := Lib.hid ⟨rs, hrl, HD.out, HR.out⟩
      rw [hl]
      clear hl hrl HR HD HLK HL1 hLk
      obtain ⟨wq, rfl⟩ : ∃ q, q = wr := ⟨_, rfl⟩
      have HS0 := Lib.hid (HS.out.more (show m + 6 ≤ m + 10 + 40 * 0 by omega))
      clear HS
      go_wp2_with fail
      go_loopw [6] (fun i wr => ∃ (j : Nat), j ≤ n ∧ i = .int .i64 j ∧ Hid (Mx n wr wc.heap.size A1 c1) ∧ Hid (Sr wr g A c cs (m + 10 + 40 * j)) ∧ Hid (Fs g w wr)) (fun i _ => n - (intOf i).toNat)
      case atStart => exact ⟨0, by omega, rfl, HM, HS0, HF⟩
      case round =>
        clear HM HS0 HF
        obtain ⟨j, hj, rfl, HM, HS, HF⟩ := hrel
        obtain ⟨wu, rfl⟩ : ∃ q, q = wr := ⟨_, rfl⟩
        by_cases hlt1 : j < n
        · have hji : (j : Int) < n := by omega
          have HS0 := Lib.hid (HS.out.more (show m + 10 + 40 * j ≤ m + 10 + 40 * j + 4 * 0 by omega))
          clear HS
          go_wp2_with fail
          go_loopw [7] (fun i wr => ∃ (k : Nat), k ≤ j ∧ i = .int .i64 k ∧ Hid (Mx n wr wc.heap.size A1 c1) ∧ Hid (Sr wr g A c cs (m + 10 + 40 * j + 4 * k)) ∧ Hid (Fs g w wr)) (fun i _ => j - (intOf i).toNat)
          case atStart => exact ⟨0, by omega, rfl, HM, HS0, HF⟩
          case round =>
            clear HM HS0 HF
            obtain ⟨k, hk, rfl, HM, HS, HF⟩ := hrel
            by_cases hlt2 : k < j
            · have hkj : (k : Int) < j := by omega
              have ho := one_any 3 g A c cs _ wr HS.out (by omega) (by omega)
              clear HS
              go_wp2_with fail
              refine ho.mono ?_
              rintro e w4 ⟨q, rfl, hS, hF⟩
              have HM4 := Lib.hid (HM.out.fs hF hgc)
              have HF4 := Lib.hid (HF.out.trans hF)
              have HS4 := Lib.hid hS
              clear ho hS hF HM HF
              cases q
              rotate_left
              · go_wp2_with fail
                go_roundw
                case rel => exact ⟨k + 1, by omega, by go_num, HM4, Lib.hid (HS4.out.more (by omega)), HF4⟩
                case measure => simp [intOf]; omega
              have hp := pick_any 40 g A c cs _ w4 HS4.out (by omega) (by omega)
              clear HS4
              go_wp2_with fail
              refine hp.mono ?_
              rintro e w5 ⟨y, rfl, y0, y1, hS, hF⟩
              obtain ⟨z, hz2⟩ : ∃ z, z = 1 + y := ⟨_, rfl⟩
              have e1 : IntKind.i64.wrap (1 + y) = z := by rw [hz2]; exact wrapS (by omega) (by omega)
              have HM5 := Lib.hid (HM4.out.fs hF hgc)
              have HF5 := Lib.hid (HF4.out.trans hF)
              have HS5 := Lib.hid hS
              clear hp hS hF HM4 HF4 hz2 y0 y1
              have hkn : k < n := by omega
              have hkni : (k : Int) < n := by omega
              obtain ⟨G, Gi, ci, hA, hGb, hGl, hGib, hGil, hcG, _, hne, hcell, hput⟩ := HM5.out.row hlt1
              subst hA
              obtain ⟨old, hco, hfo⟩ := hcell k hkn
              have HM6 := Lib.hid (hput k z hkn)
              have hb6 : Below wc.heap.size w5 (w5.setCell ⟨Gi, k, none⟩ (.int .i64 z)) := (Below.refl _ w5).setCell (p := ⟨Gi, k, none⟩) hGib _
              have HS6 := Lib.hid (HS5.out.belowB hb6 hgc)
              have HF6 := Lib.hid (HF5.out.then_ hb6 hwc)
              clear hcell hput hb6 HS5 HF5 HM5
              go_upto_region 18 with fail
              obtain ⟨w7, hw7⟩ : ∃ w7, w7 = w5.setCell ⟨Gi, k, none⟩ (.int .i64 z) := ⟨_, rfl⟩
              have hs7 : w7.heap.size = w5.heap.size := by rw [hw7]; simp
              rw [← hw7] at HM6 HS6 HF6
              rw [← hw7]
              clear hw7 hcG hco hfo
              obtain ⟨G', Gk, ck, hA, hGb2, hGl2, hGkb, hGkl, hcG2, _, hne2, hcell, hput⟩ := HM6.out.row hkn
              cases hA
              obtain ⟨old2, hco2, hfo2⟩ := hcell j hlt1
              have HM8 := Lib.hid (hput j z hlt1)
              have hb8 : Below wc.heap.size w7 (w7.setCell ⟨Gk, j, none⟩ (.int .i64 z)) := (Below.refl _ w7).setCell (p := ⟨Gk, j, none⟩) hGkb _
              have HS8 := Lib.hid (HS6.out.belowB hb8 hgc)
              have HF8 := Lib.hid (HF6.out.then_ hb8 hwc)
              clear hcell hput hb8 HS6 HF6 HM6 hs7
              go_wp2_with fail
              go_roundw
              case rel => exact ⟨k + 1, by omega, by go_num, HM8, Lib.hid (HS8.out.more (by omega)), HF8⟩
              case measure => simp [intOf]; omega
            · have hkj : (j : Int) ≤ k := by omega
              go_wp2_with fail
              go_roundw
              case rel => exact ⟨j + 1, by omega, by go_num, HM, Lib.hid (HS.out.more (by omega)), HF⟩
              case measure => simp [intOf]; omega
        · have hji : (n : Int) ≤ j := by omega
          have HSz := Lib.hid (HS.out.more (show m + 10 + 40 * j ≤ m + 400 by omega))
          clear HS
          by_cases hn1 : 1 < n
          rotate_left
          · have hn1i : (n : Int) ≤ 1 := by omega
            obtain ⟨rsz, hrz, hrd, hhi⟩ := HM.out.rd
            have HRD := Lib.hid hrd
            have HHI := Lib.hid hhi
            have HRZ := Lib.hid hrz
            clear hrd hhi hrz
            go_wp2_with fail
            go_ret
            exact ⟨A1, c1, rsz, by rw [HRZ.out]; rfl, by rw [HRZ.out]; omega, by rw [HRZ.out]; omega, HRD.out, HHI.out.lower (by omega), HSz.out.more (by omega), HF.out⟩
          have hn1i : (1 : Int) < n := by omega
          have hn0i : (0 : Int) < n := by omega
          have hn0 : 0 < n := by omega
          have hp := pick_any 24 g A c cs _ wu HSz.out (by omega) (by omega)
          clear HSz
          go_wp2_with fail
          refine hp.mono ?_
          rintro e w3 ⟨q, rfl, q0, q1, hS, hF⟩
          have HM3 := Lib.hid (HM.out.fs hF hgc)
          have HF3 := Lib.hid (HF.out.trans hF)
          have HS3 := Lib.hid hS
          have hs3 := hF.size
          clear hp hS hF HM HF
          by_cases t0 : q = 0
          · subst t0
            obtain ⟨G, G1, ci, hA, hGb, hGl, hG1b, hG1l, hcG, _, hne, hcell, hput⟩ := HM3.out.row hn1
            subst hA
            obtain ⟨old, hco, hfo⟩ := hcell 0 hn0
            clear hcell hput
            have HSd := Lib.hid HS3.out.dr
            have HMd := Lib.hid HM3.out.dr
            have HFd := Lib.hid HF3.out.drew
            have hca := fun o => (World.cell?_alloc_lt w3 o ⟨G, 1, none⟩ hGl).trans hcG
            clear HS3 HF3
            go_upto_region 22 with fail
            go_region_law (first
              | (go_simp; go_at_call 49; refine (amongLit_any [-1, 0, 1000, 1001] 4 _ rfl rfl (by omega) (by omega) g A c cs _ _ HSd.out (by omega)).mono ?_; rintro e w6 ⟨v, rfl, hv, hS, hF⟩; have hs6 := hF.size; (try simp at hs6); have HM6 := Lib.hid (HMd.out.fs hF hgc); have HF6 := Lib.hid (HFd.out.trans hF); have HS6 := Lib.hid hS; have hcG6 : w6.cell? ⟨G, 1, none⟩ = some (.slice (some ⟨G1, 0, none⟩) n ci) := (hF.cell ⟨G, 1, none⟩ (by simp; omega) (by simp; omega)).trans hcG; have hc26 : w6.cell? ⟨G1, 0, none⟩ = some (.int .i64 old) := (hF.cell ⟨G1, 0, none⟩ (by simp; omega) (by simp; omega)).trans hco; have hf26 : w6.frozen? ⟨G1, 0, none⟩ = false := (hF.frozen ⟨G1, 0, none⟩ (by simp; omega) (by simp; omega)).trans hfo; clear hS hF))
            all_goals
              obtain ⟨G', G1', ci', hA, _, _, hG1b', _, hcG7, _, _, _, hput⟩ := HM6.out.row hn1
              cases hA
              rw [hcG6] at hcG7
              cases hcG7
              have HM7 := Lib.hid (hput 0 v hn0)
              have hb7 : Below wc.heap.size w6 (w6.setCell ⟨G1, 0, none⟩ (.int .i64 v)) := (Below.refl _ w6).setCell (p := ⟨G1, 0, none⟩) hG1b _
              have HS7 := Lib.hid (HS6.out.belowB hb7 hgc)
              have HF7 := Lib.hid (HF6.out.then_ hb7 hwc)
              clear hput hb7 HS6 HF6 HM6
              go_upto_region 23 with fail
              obtain ⟨w7, hw7⟩ : ∃ w7, w7 = w6.setCell ⟨G1, 0, none⟩ (.int .i64 v) := ⟨_, rfl⟩
              rw [← hw7] at HM7 HS7 HF7
              rw [← hw7]
              clear hw7 hcG6 hc26 hf26 hcG hco hfo hca
              obtain ⟨G', G0, c0, hA, _, _, hG0b, hG0l, hcG0, _, _, hcell0, hput0⟩ := HM7.out.row hn0
              cases hA
              obtain ⟨G', G2, c2, hA, _, _, hG2b, hG2l, hcG1, _, _, hcell1, _⟩ := HM7.out.row hn1
              cases hA
              obtain ⟨old3, hco3, hfo3⟩ := hcell0 1 hn1
              obtain ⟨old4, hco4, hfo4⟩ := hcell1 0 hn0
              have HMf := Lib.hid (hput0 1 old4 hn1)
              have hbf : Below wc.heap.size w7 (w7.setCell ⟨G0, 1, none⟩ (.int .i64 old4)) := (Below.refl _ w7).setCell (p := ⟨G0, 1, none⟩) hG0b _
              have HSf := Lib.hid (HS7.out.belowB hbf hgc)
              have HFf := Lib.hid (HF7.out.then_ hbf hwc)
              clear hcell0 hput0 hcell1 hbf HS7 HF7 HM7
              go_region_law (fail)
              all_goals
                obtain ⟨wz, hwz⟩ : ∃ wz, wz = w7.setCell ⟨G0, 1, none⟩ (.int .i64 old4) := ⟨_, rfl⟩
                rw [← hwz] at HMf HSf HFf
                rw [← hwz]
                clear hwz hco3 hfo3 hco4 hfo4 hcG0 hcG1
                have HMg := Lib.hid HMf.out.dr
                have HSg := Lib.hid HSf.out.dr
                have HFg := Lib.hid HFf.out.drew
                obtain ⟨rsz, hrz, hrd, hhi⟩ := HMg.out.rd
                have HRD := Lib.hid hrd
                have HHI := Lib.hid hhi
                have HRZ := Lib.hid hrz
                clear hrd hhi hrz
                go_wp2_with fail
                go_ret
                exact ⟨some ⟨G, 0, none⟩, c1, rsz, by rw [HRZ.out]; rfl, by rw [HRZ.out]; omega, by rw [HRZ.out]; omega, HRD.out, HHI.out.lower (by omega), HSg.out.more (by omega), HFg.out⟩
          by_cases t1 : q = 1
          · subst t1
            obtain ⟨G, G1, ci, hA, hGb, hGl, hG1b, hG1l, hcG, _, hne, hcell, hput⟩ := HM3.out.row hn1
            subst hA
            obtain ⟨old, hco, hfo⟩ := hcell 0 hn0
            obtain ⟨z, hz3⟩ : ∃ z, z = IntKind.i64.wrap (old + 1) := ⟨_, rfl⟩
            have e1 : IntKind.i64.wrap (old + 1) = z := hz3.symm
            clear hz3
            have HMf := Lib.hid (hput 0 z hn0)
            have hbf : Below wc.heap.size w3 (w3.setCell ⟨G1, 0, none⟩ (.int .i64 z)) := (Below.refl _ w3).setCell (p := ⟨G1, 0, none⟩) hG1b _
            have HSf := Lib.hid (HS3.out.belowB hbf hgc)
            have HFf := Lib.hid (HF3.out.then_ hbf hwc)
            clear hcell hput hbf HS3 HF3 HM3
            go_upto_region 30 with fail
            obtain ⟨wz, hwz⟩ : ∃ wz, wz = w3.setCell ⟨G1, 0, none⟩ (.int .i64 z) := ⟨_, rfl⟩
            rw [← hwz] at HMf HSf HFf
            rw [← hwz]
            clear hwz hco hfo hcG
            obtain ⟨rsz, hrz, hrd, hhi⟩ := HMf.out.rd
            have HRD := Lib.hid hrd
            have HHI := Lib.hid hhi
            have HRZ := Lib.hid hrz
            clear hrd hhi hrz
            go_wp2_with fail
            go_ret
            exact ⟨some ⟨G, 0, none⟩, c1, rsz, by rw [HRZ.out]; rfl, by rw [HRZ.out]; omega, by rw [HRZ.out]; omega, HRD.out, HHI.out.lower (by omega), HSf.out.more (by omega), HFf.out⟩
          by_cases t2 : q = 2
          · subst t2
            obtain ⟨G, G1, ci, hA, hGb, hGl, hG1b, hG1l, hcG, _, hne, hcell, hput⟩ := HM3.out.row hn0
            subst hA
            obtain ⟨old, hco, hfo⟩ := hcell 0 hn0
            have HMf := Lib.hid (hput 0 1 hn0)
            have hbf : Below wc.heap.size w3 (w3.setCell ⟨G1, 0, none⟩ (.int .i64 1)) := (Below.refl _ w3).setCell (p := ⟨G1, 0, none⟩) hG1b _
            have HSf := Lib.hid (HS3.out.belowB hbf hgc)
            have HFf := Lib.hid (HF3.out.then_ hbf hwc)
            clear hcell hput hbf HS3 HF3 HM3
            go_upto_region 30 with fail
            obtain ⟨wz, hwz⟩ : ∃ wz, wz = w3.setCell ⟨G1, 0, none⟩ (.int .i64 1) := ⟨_, rfl⟩
            rw [← hwz] at HMf HSf HFf
            rw [← hwz]
            clear hwz hco hfo hcG
            obtain ⟨rsz, hrz, hrd, hhi⟩ := HMf.out.rd
            have HRD := Lib.hid hrd
            have HHI := Lib.hid hhi
            have HRZ := Lib.hid hrz
            clear hrd hhi hrz
            go_wp2_with fail
            go_ret
            exact ⟨some ⟨G, 0, none⟩, c1, rsz, by rw [HRZ.out]; rfl, by rw [HRZ.out]; omega, by rw [HRZ.out]; omega, HRD.out, HHI.out.lower (by omega), HSf.out.more (by omega), HFf.out⟩
          by_cases t3 : q = 3
          · subst t3
            obtain ⟨G, Gi, ci, hA, hGb, hGl, hcG, hfG, hnc, hcm, hall⟩ := HM3.out.cut0 hn0
            subst hA
            have hcne : ¬ ci = 1 := by omega
            obtain ⟨rsz, hrz, hrd, hhi⟩ := hall ⟨Gi, 1, none⟩ (by rw [if_neg hcne])
            have hbf : Below wc.heap.size w3 (w3.setCell ⟨G, 0, none⟩ (.slice (some ⟨Gi, 1, none⟩) (n - 1) (ci - 1))) := (Below.refl _ w3).setCell (p := ⟨G, 0, none⟩) hGb _
            have HSf := Lib.hid (HS3.out.belowB hbf hgc)
            have HFf := Lib.hid (HF3.out.then_ hbf hwc)
            have HRD := Lib.hid hrd
            have HHI := Lib.hid hhi
            have HRZ := Lib.hid hrz
            have hnci : (n : Int) ≤ ci := by omega
            have hcmi : ci ≤ 9223372036854775807 := by unfold maxLen at hcm; omega
            clear hall hrd hhi hrz hbf HS3 HF3 HM3
            go_wp2_with fail
            go_ret
            exact ⟨some ⟨G, 0, none⟩, c1, rsz, by rw [HRZ.out]; rfl, by rw [HRZ.out]; omega, by rw [HRZ.out]; omega, by simpa using HRD.out, HHI.out.lower (by omega), HSf.out.more (by omega), HFf.out⟩
          have f0 : (q == 0) = false := by rw [beq_eq_false_iff_ne]; exact t0
          have f1 : (q == 1) = false := by rw [beq_eq_false_iff_ne]; exact t1
          have f2 : (q == 2) = false := by rw [beq_eq_false_iff_ne]; exact t2
          have f3 : (q == 3) = false := by rw [beq_eq_false_iff_ne]; exact t3
          obtain ⟨rsz, hrz, hrd, hhi⟩ := HM3.out.rd
          have HRD := Lib.hid hrd
          have HHI := Lib.hid hhi
          have HRZ := Lib.hid hrz
          clear hrd hhi hrz
          go_wp2_with fail
          go_ret
          exact ⟨A1, c1, rsz, by rw [HRZ.out]; rfl, by rw [HRZ.out]; omega, by rw [HRZ.out]; omega, HRD.out, HHI.out.lower (by omega), HS3.out.more (by omega), HF3.out⟩
end Go.Proofs.Ytcookepklcbfeaa
