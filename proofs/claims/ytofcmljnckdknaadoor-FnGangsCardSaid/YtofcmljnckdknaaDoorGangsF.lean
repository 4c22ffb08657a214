/-
  Gangs: BestDay.
-/
import Derived.Test.YtofcmljnckdknaaDoorGangsE
namespace Go.Proofs.YtofcmljnckdknaaDoor
open Go.ChangeShapes Go.WideShapes Go.RowKit

def dsum (ws : List WorkD) (d : Int) : Int := sm ((ws.filter fun x => x.2.1 == d).map fun x => x.2.2.1)
theorem dsum_succ (ws : List WorkD) (d : Int) {k : Nat} (h : k < ws.length) : dsum (ws.take (k + 1)) d = dsum (ws.take k) d + if (ws[k].2.1 == d) = true then ws[k].2.2.1 else 0 := by
  unfold dsum
  rw [List.take_succ_eq_append_getElem h, List.filter_append, List.map_append, sm_append]
  cases hc : (ws[k].2.1 == d) <;> simp [hc, sm]
theorem dsum_bd {ws : List WorkD} (h : ∀ x ∈ ws, 0 ≤ fLaid x ∧ fLaid x ≤ 100000) (hn : ws.length ≤ 100) (d : Int) (k : Nat) : 0 ≤ dsum (ws.take k) d ∧ dsum (ws.take k) d ≤ 10000000 := by
  have h1 : ∀ y ∈ ((ws.take k).filter fun x => x.2.1 == d).map (fun x => x.2.2.1), 0 ≤ y ∧ y ≤ 100000 := by
    intro y hy
    obtain ⟨x, hx, rfl⟩ := List.mem_map.1 hy
    exact h x (List.mem_of_mem_take (List.mem_filter.1 hx).1)
  have hl : (((ws.take k).filter fun x => x.2.1 == d).map (fun x => x.2.2.1)).length ≤ 100 := by
    rw [List.length_map]
    have := List.length_filter_le (fun x : WorkD => x.2.1 == d) (ws.take k)
    have : (ws.take k).length ≤ ws.length := by simp; omega
    omega
  refine ⟨sm_nonneg fun y hy => (h1 y hy).1, ?_⟩
  have := sm_bound (M := 100000) (n := 100) (by omega) (fun y hy => (h1 y hy).2) hl
  unfold dsum
  omega
def bdS (ws : List WorkD) (st : Int × Int) (x : WorkD) : Int × Int := if st.2 < dsum ws x.2.1 ∨ (dsum ws x.2.1 = st.2 ∧ 0 < dsum ws x.2.1 ∧ x.2.1 < st.1) then (x.2.1, dsum ws x.2.1) else st
def bdF (ws : List WorkD) (k : Nat) : Int × Int := (ws.take k).foldl (bdS ws) (0, 0)
theorem bdF_succ (ws : List WorkD) {k : Nat} (h : k < ws.length) : bdF ws (k + 1) = bdS ws (bdF ws k) ws[k] := by
  unfold bdF
  rw [List.take_succ_eq_append_getElem h, List.foldl_append]
  rfl
def bdP (xs : List HandD) (ws : List WorkD) : Int × Int := if vwB xs ws = true then (if (bdF ws ws.length).2 = 0 then (0, 3) else ((bdF ws ws.length).1, 0)) else (0, 1)

set_option maxHeartbeats 3200000 in
theorem implBestDay_any (A : Option Addr) (c : Nat) (xs : List HandD) (A2 : Option Addr) (c2 : Nat) (ws : List WorkD) (w : World) (hr : Rd LHand w w.heap.size A c xs) (hr2 : Rd LWork w w.heap.size A2 c2 ws) (hok : ∀ n ∈ xs, OkHand n) :
    Calls Tryd.prog 9 #[.slice A xs.length c, .slice A2 ws.length c2] w fun e w' => e = .returned (.tuple #[.int .i64 (bdP xs ws).1, .int .i64 (bdP xs ws).2]) ∧ Below w.heap.size w w' := by
  have hcv := implValidWork_any A c xs A2 c2 ws w hr hr2 hok
  cases hv : vwB xs ws
  · have HP : Hid (bdP xs ws = (0, 1)) := Lib.hid (by unfold bdP; rw [hv]; rfl)
    rw [HP.out]
    rw [hv] at hcv
    go_enter Tryd.func9, Tryd.ntmps9
    go_wp2_with fail
    refine hcv.mono ?_
    rintro e w1 ⟨rfl, hb1⟩
    go_wp2_with fail
    go_ret2
    exact ⟨rfl, hb1⟩
  · have HP : Hid (bdP xs ws = if (bdF ws ws.length).2 = 0 then (0, 3) else ((bdF ws ws.length).1, 0)) := Lib.hid (by unfold bdP; rw [hv]; rfl)
    obtain ⟨_, hw, _, hf, _⟩ := vw_bds hv
    have HF := Lib.hid hf
    rw [hv] at hcv
    clear hv hf
    go_enter Tryd.func9, Tryd.ntmps9
    go_wp2_with fail
    refine hcv.mono ?_
    rintro e w1 ⟨rfl, hb1⟩
    clear hcv
    go_wp2_with fail
    go_loopw [6, 7, 9, 10, 12, 19, 25] (fun b m _ _ _ i _ wr => ∃ k : Nat, k ≤ ws.length ∧ i = .int .i64 k ∧ b = .int .i64 (bdF ws k).1 ∧ m = .int .i64 (bdF ws k).2 ∧ Below w.heap.size w wr) (fun _ _ _ _ _ i _ _ => ws.length - (intOf i).toNat)
    case atStart => exact ⟨0, by omega, rfl, rfl, rfl, hb1⟩
    case round =>
      obtain ⟨k, hk, rfl, rfl, rfl, hbel⟩ := hrel
      have hsz := hbel.size
      by_cases hlt : k < ws.length
      · obtain ⟨ad, rfl, hab, d0, d1, d2, d3⟩ := rdWork (hr2.below hbel) hlt
        have HS := Lib.hid (bdF_succ ws hlt)
        have HQ := Lib.hid (fun (st : Int × Int) => show bdS ws st ws[k] = _ from rfl)
        obtain ⟨s0, s1⟩ := dsum_bd HF.out hw ws[k].2.1 ws.length
        rw [List.take_of_length_le (Nat.le_refl _)] at s0 s1
        have HB : Hid (∀ j : Nat, 0 ≤ dsum (ws.take j) ws[k].2.1 ∧ dsum (ws.take j) ws[k].2.1 ≤ 10000000) := Lib.hid fun j => dsum_bd HF.out hw ws[k].2.1 j
        have HU : Hid (∀ (j : Nat) (hj : j < ws.length), dsum (ws.take (j + 1)) ws[k].2.1 = dsum (ws.take j) ws[k].2.1 + if (ws[j].2.1 == ws[k].2.1) = true then ws[j].2.2.1 else 0) := Lib.hid fun j hj => dsum_succ ws _ hj
        have HW : Hid (∀ st : Int × Int, bdS ws st ws[k] = if st.2 < dsum ws ws[k].2.1 ∨ (dsum ws ws[k].2.1 = st.2 ∧ 0 < dsum ws ws[k].2.1 ∧ ws[k].2.1 < st.1) then (ws[k].2.1, dsum ws ws[k].2.1) else st) := Lib.hid fun st => rfl
        clear HQ
        have hb2 : Below w.heap.size w (wr.alloc (.cells #[.int .i64 ws[k].1, .int .i64 ws[k].2.1, .int .i64 ws[k].2.2.1, .int .i64 ws[k].2.2.2] 56)) := hbel.alloc hsz _
        have kb : (wr.alloc (.cells #[.int .i64 ws[k].1, .int .i64 ws[k].2.1, .int .i64 ws[k].2.2.1, .int .i64 ws[k].2.2.2] 56)).cell? ⟨wr.heap.size, 1, none⟩ = some (.int .i64 ws[k].2.1) := by go_simp
        have kz : wr.heap.size < (wr.alloc (.cells #[.int .i64 ws[k].1, .int .i64 ws[k].2.1, .int .i64 ws[k].2.2.1, .int .i64 ws[k].2.2.2] 56)).heap.size := by simp
        go_wp2_with fail
        generalize wr.alloc (.cells #[.int .i64 ws[k].1, .int .i64 ws[k].2.1, .int .i64 ws[k].2.2.1, .int .i64 ws[k].2.2.2] 56) = wo at *
        clear d0 d1 d2 d3
        generalize ws[k].2.1 = day at *
        obtain ⟨wq, rfl⟩ : ∃ wq : World, wq = wr := ⟨_, rfl⟩
        go_loopw [10, 12, 25] (fun s _ i wr => ∃ j : Nat, j ≤ ws.length ∧ i = .int .i64 j ∧ s = .int .i64 (dsum (ws.take j) day) ∧ Below wo.heap.size wo wr) (fun _ _ i _ => ws.length - (intOf i).toNat)
        case atStart => exact ⟨0, by omega, rfl, rfl, Below.refl _ _⟩
        case round =>
          obtain ⟨j, hj, rfl, rfl, hbi⟩ := hrel
          have hsi := hbi.size
          have kb2 := (hbi.cell (p := ⟨wq.heap.size, 1, none⟩) (by simp; omega)).trans kb
          have kz2 : wq.heap.size < wr.heap.size := by omega
          obtain ⟨t0, t1⟩ := HB.out j
          by_cases hjn : j < ws.length
          · obtain ⟨ad2, he2, hab2, e0, e1, e2, e3⟩ := rdWork (hr2.below (hb2.trans (hbi.mono (by omega)))) hjn
            cases he2
            have HE := Lib.hid (HU.out j hjn)
            obtain ⟨l0, l1⟩ := HF.out _ (List.getElem_mem hjn)
            unfold fLaid at l0 l1
            cases hd : (ws[j].2.1 == day)
            · go_wp2_with fail
              go_roundw
              case rel => exact ⟨j + 1, by omega, by go_num, by rw [HE.out, hd]; simp, hbi.alloc hsi _⟩
              case measure => simp [intOf]; omega
            · go_wp2_with fail
              go_roundw
              case rel => exact ⟨j + 1, by omega, by go_num, by rw [HE.out, hd]; simp, hbi.alloc hsi _⟩
              case measure => simp [intOf]; omega
          · have HJ : Hid (dsum (ws.take j) day = dsum ws day) := Lib.hid (by rw [List.take_of_length_le (by omega)])
            rw [HJ.out] at t0 t1
            rw [HJ.out]
            have hbz := hb2.trans (hbi.mono (by omega))
            have HWk := Lib.hid (HW.out (bdF ws k))
            generalize bdF ws k = st at *
            obtain ⟨best, most⟩ := st
            generalize dsum ws day = s at *
            by_cases c1 : most < s
            · have HE : Hid (bdF ws (k + 1) = (day, s)) := Lib.hid (by rw [HS.out, HWk.out, if_pos (.inl c1)])
              go_wp2_with fail
              go_roundw
              case rel => exact ⟨k + 1, by omega, by go_num, by rw [HE.out], by rw [HE.out], hbz⟩
              case measure => simp [intOf]; omega
            · have c1' : s ≤ most := by omega
              by_cases c2 : s = most
              · subst c2
                by_cases c3 : 0 < s
                · by_cases c4 : day < best
                  · have HE : Hid (bdF ws (k + 1) = (day, s)) := Lib.hid (by rw [HS.out, HWk.out, if_pos (.inr ⟨rfl, c3, c4⟩)])
                    clear c1
                    go_wp2_with fail
                    go_roundw
                    case rel => exact ⟨k + 1, by omega, by go_num, by rw [HE.out], by rw [HE.out], hbz⟩
                    case measure => simp [intOf]; omega
                  · have c4' : best ≤ day := by omega
                    have HE : Hid (bdF ws (k + 1) = (best, s)) := Lib.hid (by rw [HS.out, HWk.out, if_neg (by simp; omega)])
                    clear c1 c4
                    go_wp2_with fail
                    go_roundw
                    case rel => exact ⟨k + 1, by omega, by go_num, by rw [HE.out], by rw [HE.out], hbz⟩
                    case measure => simp [intOf]; omega
                · have c3' : s ≤ 0 := by omega
                  have HE : Hid (bdF ws (k + 1) = (best, s)) := Lib.hid (by rw [HS.out, HWk.out, if_neg (by simp; omega)])
                  clear c1 c3
                  go_wp2_with fail
                  go_roundw
                  case rel => exact ⟨k + 1, by omega, by go_num, by rw [HE.out], by rw [HE.out], hbz⟩
                  case measure => simp [intOf]; omega
              · have c2' : (s == most) = false := by simpa using c2
                have HE : Hid (bdF ws (k + 1) = (best, most)) := Lib.hid (by rw [HS.out, HWk.out, if_neg (by simp; omega)])
                clear c1 c2
                go_wp2_with fail
                go_roundw
                case rel => exact ⟨k + 1, by omega, by go_num, by rw [HE.out], by rw [HE.out], hbz⟩
                case measure => simp [intOf]; omega
      · have hkk : k = ws.length := by omega
        subst hkk
        by_cases hz : (bdF ws ws.length).2 = 0
        · have HE : Hid (bdP xs ws = (0, 3)) := Lib.hid (by rw [HP.out, if_pos hz])
          have hz' : ((bdF ws ws.length).2 == 0) = true := by simpa using hz
          clear hz
          go_wp2_with fail
          go_ret2
          exact ⟨ret_ii (by rw [HE.out]) (by rw [HE.out]), hbel⟩
        · have HE : Hid (bdP xs ws = ((bdF ws ws.length).1, 0)) := Lib.hid (by rw [HP.out, if_neg hz])
          have hz' : ((bdF ws ws.length).2 == 0) = false := by simpa using hz
          clear hz
          go_wp2_with fail
          go_ret2
          exact ⟨ret_ii (by rw [HE.out]) (by rw [HE.out]), hbel⟩
set_option maxHeartbeats 3200000 in
theorem specBestDay_any (A : Option Addr) (c : Nat) (xs : List HandD) (A2 : Option Addr) (c2 : Nat) (ws : List WorkD) (w : World) (hr : Rd LHand w w.heap.size A c xs) (hr2 : Rd LWork w w.heap.size A2 c2 ws) (hok : ∀ n ∈ xs, OkHand n) :
    Calls Tryd.prog 10 #[.slice A xs.length c, .slice A2 ws.length c2] w fun e w' => e = .returned (.tuple #[.int .i64 (bdP xs ws).1, .int .i64 (bdP xs ws).2]) ∧ Below w.heap.size w w' := by
  have hcv := l23Work_any A c xs A2 c2 ws _ w hr hr2 hok
  cases hv : vwB xs ws
  · have HP : Hid (bdP xs ws = (0, 1)) := Lib.hid (by unfold bdP; rw [hv]; rfl)
    rw [HP.out]
    rw [hv] at hcv
    go_enter Tryd.func10, Tryd.ntmps10
    go_wp2_with fail
    refine hcv.mono ?_
    rintro e w1 ⟨rfl, hd⟩
    have hb1 : Below w.heap.size w w1 := hd.below
    clear hd
    go_wp2_with fail
    go_ret2
    exact ⟨rfl, hb1⟩
  · have HP : Hid (bdP xs ws = if (bdF ws ws.length).2 = 0 then (0, 3) else ((bdF ws ws.length).1, 0)) := Lib.hid (by unfold bdP; rw [hv]; rfl)
    obtain ⟨_, hw, _, hf, _⟩ := vw_bds hv
    have HF := Lib.hid hf
    rw [hv] at hcv
    clear hv hf
    go_enter Tryd.func10, Tryd.ntmps10
    go_wp2_with fail
    refine hcv.mono ?_
    rintro e w1 ⟨rfl, hd⟩
    have hb1 : Below w.heap.size w w1 := hd.below
    clear hd
    clear hcv
    go_wp2_with fail
    go_loop [6, 7, 8, 9, 10, 11] (fun b m i _ _ _ => ∃ k : Nat, k ≤ ws.length ∧ i = .int .i64 k ∧ b = .int .i64 (bdF ws k).1 ∧ m = .int .i64 (bdF ws k).2) (fun _ _ i _ _ _ => ws.length - (intOf i).toNat)
    case atStart => exact ⟨0, by omega, rfl, rfl, rfl⟩
    case round =>
      obtain ⟨k, hk, rfl, rfl, rfl⟩ := hrel
      by_cases hlt : k < ws.length
      · obtain ⟨ad, rfl, hab, d0, d1, d2, d3⟩ := rdWork (hr2.below hb1) hlt
        have HS := Lib.hid (bdF_succ ws hlt)
        have HQ := Lib.hid (fun (st : Int × Int) => show bdS ws st ws[k] = _ from rfl)
        obtain ⟨s0, s1⟩ := dsum_bd HF.out hw ws[k].2.1 ws.length
        rw [List.take_of_length_le (Nat.le_refl _)] at s0 s1
        have HB : Hid (∀ j : Nat, 0 ≤ dsum (ws.take j) ws[k].2.1 ∧ dsum (ws.take j) ws[k].2.1 ≤ 10000000) := Lib.hid fun j => dsum_bd HF.out hw ws[k].2.1 j
        have HU : Hid (∀ (j : Nat) (hj : j < ws.length), dsum (ws.take (j + 1)) ws[k].2.1 = dsum (ws.take j) ws[k].2.1 + if (ws[j].2.1 == ws[k].2.1) = true then ws[j].2.2.1 else 0) := Lib.hid fun j hj => dsum_succ ws _ hj
        have HW : Hid (∀ st : Int × Int, bdS ws st ws[k] = if st.2 < dsum ws ws[k].2.1 ∨ (dsum ws ws[k].2.1 = st.2 ∧ 0 < dsum ws ws[k].2.1 ∧ ws[k].2.1 < st.1) then (ws[k].2.1, dsum ws ws[k].2.1) else st) := Lib.hid fun st => rfl
        clear HQ
        generalize ws[k].2.1 = day at *
        go_wp2_with fail
        go_loop [10, 11] (fun s i => ∃ j : Nat, j ≤ ws.length ∧ i = .int .i64 j ∧ s = .int .i64 (dsum (ws.take j) day)) (fun _ i => ws.length - (intOf i).toNat)
        case atStart => exact ⟨0, by omega, rfl, rfl⟩
        case round =>
          obtain ⟨j, hj, rfl, rfl⟩ := hrel
          obtain ⟨t0, t1⟩ := HB.out j
          by_cases hjn : j < ws.length
          · obtain ⟨ad2, he2, hab2, e0, e1, e2, e3⟩ := rdWork (hr2.below hb1) hjn
            cases he2
            have hj0 : (j : Int) < ws.length := by omega
            have HE := Lib.hid (HU.out j hjn)
            obtain ⟨l0, l1⟩ := HF.out _ (List.getElem_mem hjn)
            unfold fLaid at l0 l1
            cases hd : (ws[j].2.1 == day)
            · go_wp2_with fail
              go_round
              case rel => exact ⟨j + 1, by omega, by go_num, by rw [HE.out, hd]; simp⟩
              case measure => simp [intOf]; omega
            · go_wp2_with fail
              go_round
              case rel => exact ⟨j + 1, by omega, by go_num, by rw [HE.out, hd]; simp⟩
              case measure => simp [intOf]; omega
          · have HJ : Hid (dsum (ws.take j) day = dsum ws day) := Lib.hid (by rw [List.take_of_length_le (by omega)])
            rw [HJ.out] at t0 t1
            rw [HJ.out]
            have HWk := Lib.hid (HW.out (bdF ws k))
            generalize bdF ws k = st at *
            obtain ⟨best, most⟩ := st
            generalize dsum ws day = s at *
            by_cases c1 : most < s
            · have HE : Hid (bdF ws (k + 1) = (day, s)) := Lib.hid (by rw [HS.out, HWk.out, if_pos (.inl c1)])
              go_wp2_with fail
              go_round
              case rel => exact ⟨k + 1, by omega, by go_num, by rw [HE.out], by rw [HE.out]⟩
              case measure => simp [intOf]; omega
            · have c1' : s ≤ most := by omega
              by_cases c2 : s = most
              · subst c2
                by_cases c3 : 0 < s
                · by_cases c4 : day < best
                  · have HE : Hid (bdF ws (k + 1) = (day, s)) := Lib.hid (by rw [HS.out, HWk.out, if_pos (.inr ⟨rfl, c3, c4⟩)])
                    clear c1
                    go_wp2_with fail
                    go_round
                    case rel => exact ⟨k + 1, by omega, by go_num, by rw [HE.out], by rw [HE.out]⟩
                    case measure => simp [intOf]; omega
                  · have c4' : best ≤ day := by omega
                    have HE : Hid (bdF ws (k + 1) = (best, s)) := Lib.hid (by rw [HS.out, HWk.out, if_neg (by simp; omega)])
                    clear c1 c4
                    go_wp2_with fail
                    go_round
                    case rel => exact ⟨k + 1, by omega, by go_num, by rw [HE.out], by rw [HE.out]⟩
                    case measure => simp [intOf]; omega
                · have c3' : s ≤ 0 := by omega
                  have HE : Hid (bdF ws (k + 1) = (best, s)) := Lib.hid (by rw [HS.out, HWk.out, if_neg (by simp; omega)])
                  clear c1 c3
                  go_wp2_with fail
                  go_round
                  case rel => exact ⟨k + 1, by omega, by go_num, by rw [HE.out], by rw [HE.out]⟩
                  case measure => simp [intOf]; omega
              · have c2' : (s == most) = false := by simpa using c2
                have HE : Hid (bdF ws (k + 1) = (best, most)) := Lib.hid (by rw [HS.out, HWk.out, if_neg (by simp; omega)])
                clear c1 c2
                go_wp2_with fail
                go_round
                case rel => exact ⟨k + 1, by omega, by go_num, by rw [HE.out], by rw [HE.out]⟩
                case measure => simp [intOf]; omega
      · have hkk : k = ws.length := by omega
        subst hkk
        by_cases hz : (bdF ws ws.length).2 = 0
        · have HE : Hid (bdP xs ws = (0, 3)) := Lib.hid (by rw [HP.out, if_pos hz])
          have hz' : ((bdF ws ws.length).2 == 0) = true := by simpa using hz
          clear hz
          go_wp2_with fail
          go_ret2
          exact ⟨ret_ii (by rw [HE.out]) (by rw [HE.out]), hb1⟩
        · have HE : Hid (bdP xs ws = ((bdF ws ws.length).1, 0)) := Lib.hid (by rw [HP.out, if_neg hz])
          have hz' : ((bdF ws ws.length).2 == 0) = false := by simpa using hz
          clear hz
          go_wp2_with fail
          go_ret2
          exact ⟨ret_ii (by rw [HE.out]) (by rw [HE.out]), hb1⟩
end Go.Proofs.YtofcmljnckdknaaDoor
