/-
  Gangs: LaidBy, HoursBy, PayFor, both sides.
-/
import Derived.Test.YtofcmljnckdknaaDoorGangsD
import Derived.RegionTactic
namespace Go.Proofs.YtofcmljnckdknaaDoor
open Go.ChangeShapes Go.WideShapes Go.RowKit

theorem ret_slc {A : Option Addr} {m m' c : Nat} {a b : Int} (h : m = m') (h2 : a = b) : Ending.returned (.tuple #[.slice A m c, .int .i64 a]) = .returned (.tuple #[.slice A m' c, .int .i64 b]) := by rw [h, h2]
set_option maxHeartbeats 1600000 in
theorem l23Laid_any (A : Option Addr) (c : Nat) (xs : List HandD) (A2 : Option Addr) (c2 : Nat) (ws : List WorkD) (w : World) (hr2 : Rd LWork w w.heap.size A2 c2 ws) (hv : vwB xs ws = true) :
    Calls Tryd.prog 46 #[.slice A xs.length c, .slice A2 ws.length c2] w fun e w' => ∃ B d, e = .returned (.slice B (wbG fLaid xs.length ws).length d) ∧ Own LI 2 w' w.heap.size B d (wbG fLaid xs.length ws) ∧ Below w.heap.size w w' := by
  obtain ⟨hx, hw, hh, hf2, hf3⟩ := vw_bds hv
  have HL := Lib.hid (wbG_len fLaid xs.length ws)
  rw [HL.out]
  have HF : Hid (∀ x ∈ ws, 0 ≤ fLaid x ∧ fLaid x ≤ 100000) := Lib.hid (by first | exact hf2 | exact hf3)
  have HB := Lib.hid (fun k hk => wbG_bd (f := fLaid) (M := 100000) xs.length (ws := ws) (by omega) HF.out k hk)
  have HH := Lib.hid hh
  clear hh hf2 hf3 hv
  go_enter Tryd.func46, Tryd.ntmps46
  go_wp2_with (at_make; refine wpL_make (L := LI) rowI rfl _ _ rfl .i64 .i64 _ _ xs.length rfl rfl rfl rfl (by omega) (by unfold maxLen; omega) 0 rfl ?_; intro w1 hown hb)
  go_loopw [6] (fun i wr => ∃ k : Nat, k ≤ ws.length ∧ i = .int .i64 k ∧ Own LI 2 wr w.heap.size (some ⟨w.heap.size, 0, none⟩) xs.length (wbG fLaid xs.length (ws.take k)) ∧ Below w.heap.size w wr ∧ w.heap.size < wr.heap.size) (fun i _ => ws.length - (intOf i).toNat)
  case atStart => exact ⟨0, by omega, rfl, by simpa [wbG] using hown, hb, by have := hown.blk_lt w.heap.size rfl; omega⟩
  case round =>
    obtain ⟨k, hk, rfl, ho, hbel, hgt⟩ := hrel
    have hsz := hbel.size
    by_cases hlt : k < ws.length
    · obtain ⟨ad, rfl, hab, d0, d1, d2, d3⟩ := rdWork (hr2.below hbel) hlt
      have hk0 : (k : Int) < ws.length := by omega
      have hmem : ws[k] ∈ ws := List.getElem_mem hlt
      obtain ⟨h0, h1⟩ := HH.out _ hmem
      obtain ⟨f0, f1⟩ : 0 ≤ ws[k].2.2.1 ∧ ws[k].2.2.1 ≤ 100000 := HF.out _ hmem
      obtain ⟨h, hhe⟩ : ∃ h : Nat, ws[k].1 = h := ⟨ws[k].1.toNat, by omega⟩
      have hhl : h < (wbG fLaid xs.length (ws.take k)).length := by rw [wbG_len]; omega
      have hhx : h < xs.length := by omega
      have hhx0 : (h : Int) < xs.length := by omega
      have HS : Hid (wbG fLaid xs.length (ws.take (k + 1)) = (wbG fLaid xs.length (ws.take k)).set h ((wbG fLaid xs.length (ws.take k))[h] + ws[k].2.2.1)) := Lib.hid ((wbG_succ fLaid xs.length ws hlt).trans (wbS_set hhe hhl))
      obtain ⟨v0, v1⟩ := HB.out k hk _ (List.getElem_mem hhl)
      have hk1 : (k : Int) ≤ 100 := by omega
      obtain ⟨g, hg, _, _, hc, hfz⟩ := ho.int hhl
      cases hg
      rw [hhe] at d0
      have dd : w.heap.size ≠ (ad.add (k * 4)).block := by rw [block_of_add]; omega
      clear hhe h0 h1 HB hab
      generalize ws[k].2.1 = z1 at *
      generalize ws[k].2.2.1 = z2 at *
      generalize ws[k].2.2.2 = z3 at *
      generalize wbG fLaid xs.length (ws.take k) = acc at *
      generalize acc[h] = old at *
      go_wp2_with fail
      go_region
      all_goals
        go_wp2_with fail
        go_roundw
        case rel =>
          have ho3 := Own.setInt ho h (old + z2)
          exact ⟨k + 1, by omega, by go_num, by rw [HS.out]; exact ho3.drewN _, below_drewN (hbel.setCell (p := ⟨w.heap.size, h, none⟩) (Nat.le_refl _) _) _, by simp; omega⟩
        case measure => simp [intOf]; omega
    · go_wp2_with fail
      go_ret
      rw [List.take_of_length_le (by omega)] at ho
      exact ⟨_, _, rfl, ho, hbel⟩
set_option maxHeartbeats 1600000 in
theorem l23Hours_any (A : Option Addr) (c : Nat) (xs : List HandD) (A2 : Option Addr) (c2 : Nat) (ws : List WorkD) (w : World) (hr2 : Rd LWork w w.heap.size A2 c2 ws) (hv : vwB xs ws = true) :
    Calls Tryd.prog 48 #[.slice A xs.length c, .slice A2 ws.length c2] w fun e w' => ∃ B d, e = .returned (.slice B (wbG fHours xs.length ws).length d) ∧ Own LI 2 w' w.heap.size B d (wbG fHours xs.length ws) ∧ Below w.heap.size w w' := by
  obtain ⟨hx, hw, hh, hf2, hf3⟩ := vw_bds hv
  have HL := Lib.hid (wbG_len fHours xs.length ws)
  rw [HL.out]
  have HF : Hid (∀ x ∈ ws, 0 ≤ fHours x ∧ fHours x ≤ 100000) := Lib.hid (by first | exact hf2 | exact hf3)
  have HB := Lib.hid (fun k hk => wbG_bd (f := fHours) (M := 100000) xs.length (ws := ws) (by omega) HF.out k hk)
  have HH := Lib.hid hh
  clear hh hf2 hf3 hv
  go_enter Tryd.func48, Tryd.ntmps48
  go_wp2_with (at_make; refine wpL_make (L := LI) rowI rfl _ _ rfl .i64 .i64 _ _ xs.length rfl rfl rfl rfl (by omega) (by unfold maxLen; omega) 0 rfl ?_; intro w1 hown hb)
  go_loopw [6] (fun i wr => ∃ k : Nat, k ≤ ws.length ∧ i = .int .i64 k ∧ Own LI 2 wr w.heap.size (some ⟨w.heap.size, 0, none⟩) xs.length (wbG fHours xs.length (ws.take k)) ∧ Below w.heap.size w wr ∧ w.heap.size < wr.heap.size) (fun i _ => ws.length - (intOf i).toNat)
  case atStart => exact ⟨0, by omega, rfl, by simpa [wbG] using hown, hb, by have := hown.blk_lt w.heap.size rfl; omega⟩
  case round =>
    obtain ⟨k, hk, rfl, ho, hbel, hgt⟩ := hrel
    have hsz := hbel.size
    by_cases hlt : k < ws.length
    · obtain ⟨ad, rfl, hab, d0, d1, d2, d3⟩ := rdWork (hr2.below hbel) hlt
      have hk0 : (k : Int) < ws.length := by omega
      have hmem : ws[k] ∈ ws := List.getElem_mem hlt
      obtain ⟨h0, h1⟩ := HH.out _ hmem
      obtain ⟨f0, f1⟩ : 0 ≤ ws[k].2.2.2 ∧ ws[k].2.2.2 ≤ 100000 := HF.out _ hmem
      obtain ⟨h, hhe⟩ : ∃ h : Nat, ws[k].1 = h := ⟨ws[k].1.toNat, by omega⟩
      have hhl : h < (wbG fHours xs.length (ws.take k)).length := by rw [wbG_len]; omega
      have hhx : h < xs.length := by omega
      have hhx0 : (h : Int) < xs.length := by omega
      have HS : Hid (wbG fHours xs.length (ws.take (k + 1)) = (wbG fHours xs.length (ws.take k)).set h ((wbG fHours xs.length (ws.take k))[h] + ws[k].2.2.2)) := Lib.hid ((wbG_succ fHours xs.length ws hlt).trans (wbS_set hhe hhl))
      obtain ⟨v0, v1⟩ := HB.out k hk _ (List.getElem_mem hhl)
      have hk1 : (k : Int) ≤ 100 := by omega
      obtain ⟨g, hg, _, _, hc, hfz⟩ := ho.int hhl
      cases hg
      rw [hhe] at d0
      have dd : w.heap.size ≠ (ad.add (k * 4)).block := by rw [block_of_add]; omega
      clear hhe h0 h1 HB hab
      generalize ws[k].2.1 = z1 at *
      generalize ws[k].2.2.1 = z2 at *
      generalize ws[k].2.2.2 = z3 at *
      generalize wbG fHours xs.length (ws.take k) = acc at *
      generalize acc[h] = old at *
      go_wp2_with fail
      go_region
      all_goals
        go_wp2_with fail
        go_roundw
        case rel =>
          have ho3 := Own.setInt ho h (old + z3)
          exact ⟨k + 1, by omega, by go_num, by rw [HS.out]; exact ho3.drewN _, below_drewN (hbel.setCell (p := ⟨w.heap.size, h, none⟩) (Nat.le_refl _) _) _, by simp; omega⟩
        case measure => simp [intOf]; omega
    · go_wp2_with fail
      go_ret
      rw [List.take_of_length_le (by omega)] at ho
      exact ⟨_, _, rfl, ho, hbel⟩

theorem wbG_sum {f : WorkD → Int} {n : Nat} {ws : List WorkD} (hn : n ≤ 20) (hw : ws.length ≤ 100) (hf : ∀ x ∈ ws, 0 ≤ f x ∧ f x ≤ 100000) : (∀ x ∈ wbG f n ws, 0 ≤ x ∧ x ≤ 10000000) ∧ 0 ≤ sm (wbG f n ws) ∧ sm (wbG f n ws) ≤ 200000000 := by
  have h1 : ∀ x ∈ wbG f n ws, 0 ≤ x ∧ x ≤ 10000000 := fun x hx => by
    have := wbG_bd (M := 100000) n (by omega) hf ws.length (Nat.le_refl _) x (by rw [List.take_of_length_le (Nat.le_refl _)]; exact hx)
    omega
  refine ⟨h1, sm_nonneg fun x hx => (h1 x hx).1, ?_⟩
  have := sm_bound (M := 10000000) (n := 20) (by omega) (fun x hx => (h1 x hx).2) (by rw [wbG_len]; exact hn)
  omega
set_option maxHeartbeats 800000 in
theorem implLaidBy_any (A : Option Addr) (c : Nat) (xs : List HandD) (A2 : Option Addr) (c2 : Nat) (ws : List WorkD) (w : World) (hr : Rd LHand w w.heap.size A c xs) (hr2 : Rd LWork w w.heap.size A2 c2 ws) (hok : ∀ n ∈ xs, OkHand n) :
    Calls Tryd.prog 11 #[.slice A xs.length c, .slice A2 ws.length c2] w fun e w' => ∃ B d, e = .returned (.tuple #[.slice B (wbP fLaid xs ws).1.length d, .int .i64 (wbP fLaid xs ws).2]) ∧ Own LI 2 w' w.heap.size B d (wbP fLaid xs ws).1 ∧ Below w.heap.size w w' := by
  have hcv := implValidWork_any A c xs A2 c2 ws w hr hr2 hok
  cases hv : vwB xs ws
  · have HP : Hid (wbP fLaid xs ws = ([], 1)) := Lib.hid (by unfold wbP; rw [hv]; rfl)
    rw [HP.out]
    rw [hv] at hcv
    go_enter Tryd.func11, Tryd.ntmps11
    go_wp2_with fail
    refine hcv.mono ?_
    rintro e w1 ⟨rfl, hb1⟩
    go_wp2_with fail
    go_ret2
    exact ⟨none, 0, rfl, Own.none_, hb1⟩
  · have HP : Hid (wbP fLaid xs ws = (wbG fLaid xs.length ws, 0)) := Lib.hid (by unfold wbP; rw [hv]; rfl)
    rw [HP.out]
    have Hv := Lib.hid hv
    rw [hv] at hcv
    clear hv
    go_enter Tryd.func11, Tryd.ntmps11
    go_wp2_with fail
    refine hcv.mono ?_
    rintro e w1 ⟨rfl, hb1⟩
    have hcc := laidBy_any A c xs A2 c2 ws w1 ((hr2.below hb1).more hb1.size) Hv.out
    go_wp2_with fail
    refine hcc.mono ?_
    rintro e w2 ⟨B, d, rfl, ho, hb2⟩
    go_wp2_with fail
    go_ret2
    exact ⟨B, d, rfl, ho.lower hb1.size, bthen hb1 (Nat.le_refl _) hb2⟩
set_option maxHeartbeats 800000 in
theorem implHoursBy_any (A : Option Addr) (c : Nat) (xs : List HandD) (A2 : Option Addr) (c2 : Nat) (ws : List WorkD) (w : World) (hr : Rd LHand w w.heap.size A c xs) (hr2 : Rd LWork w w.heap.size A2 c2 ws) (hok : ∀ n ∈ xs, OkHand n) :
    Calls Tryd.prog 13 #[.slice A xs.length c, .slice A2 ws.length c2] w fun e w' => ∃ B d, e = .returned (.tuple #[.slice B (wbP fHours xs ws).1.length d, .int .i64 (wbP fHours xs ws).2]) ∧ Own LI 2 w' w.heap.size B d (wbP fHours xs ws).1 ∧ Below w.heap.size w w' := by
  have hcv := implValidWork_any A c xs A2 c2 ws w hr hr2 hok
  cases hv : vwB xs ws
  · have HP : Hid (wbP fHours xs ws = ([], 1)) := Lib.hid (by unfold wbP; rw [hv]; rfl)
    rw [HP.out]
    rw [hv] at hcv
    go_enter Tryd.func13, Tryd.ntmps13
    go_wp2_with fail
    refine hcv.mono ?_
    rintro e w1 ⟨rfl, hb1⟩
    go_wp2_with fail
    go_ret2
    exact ⟨none, 0, rfl, Own.none_, hb1⟩
  · have HP : Hid (wbP fHours xs ws = (wbG fHours xs.length ws, 0)) := Lib.hid (by unfold wbP; rw [hv]; rfl)
    rw [HP.out]
    have Hv := Lib.hid hv
    rw [hv] at hcv
    clear hv
    go_enter Tryd.func13, Tryd.ntmps13
    go_wp2_with fail
    refine hcv.mono ?_
    rintro e w1 ⟨rfl, hb1⟩
    have hcc := hoursBy_any A c xs A2 c2 ws w1 ((hr2.below hb1).more hb1.size) Hv.out
    go_wp2_with fail
    refine hcc.mono ?_
    rintro e w2 ⟨B, d, rfl, ho, hb2⟩
    go_wp2_with fail
    go_ret2
    exact ⟨B, d, rfl, ho.lower hb1.size, bthen hb1 (Nat.le_refl _) hb2⟩
set_option maxHeartbeats 800000 in
theorem specLaidBy_any (A : Option Addr) (c : Nat) (xs : List HandD) (A2 : Option Addr) (c2 : Nat) (ws : List WorkD) (w : World) (hr : Rd LHand w w.heap.size A c xs) (hr2 : Rd LWork w w.heap.size A2 c2 ws) (hok : ∀ n ∈ xs, OkHand n) :
    Calls Tryd.prog 12 #[.slice A xs.length c, .slice A2 ws.length c2] w fun e w' => ∃ B d, e = .returned (.tuple #[.slice B (wbP fLaid xs ws).1.length d, .int .i64 (wbP fLaid xs ws).2]) ∧ Own LI 2 w' w.heap.size B d (wbP fLaid xs ws).1 ∧ Below w.heap.size w w' := by
  have hcv := l23Work_any A c xs A2 c2 ws _ w hr hr2 hok
  cases hv : vwB xs ws
  · have HP : Hid (wbP fLaid xs ws = ([], 1)) := Lib.hid (by unfold wbP; rw [hv]; rfl)
    rw [HP.out]
    rw [hv] at hcv
    go_enter Tryd.func12, Tryd.ntmps12
    go_wp2_with fail
    refine hcv.mono ?_
    rintro e w1 ⟨rfl, hd⟩
    go_wp2_with fail
    go_ret2
    exact ⟨none, 0, rfl, Own.none_, hd.below⟩
  · have HP : Hid (wbP fLaid xs ws = (wbG fLaid xs.length ws, 0)) := Lib.hid (by unfold wbP; rw [hv]; rfl)
    rw [HP.out]
    have Hv := Lib.hid hv
    rw [hv] at hcv
    clear hv
    go_enter Tryd.func12, Tryd.ntmps12
    go_wp2_with fail
    refine hcv.mono ?_
    rintro e w1 ⟨rfl, hd⟩
    have hb1 : Below w.heap.size w w1 := hd.below
    have hcc := l23Laid_any A c xs A2 c2 ws w1 ((hr2.below hb1).more hb1.size) Hv.out
    clear hd
    go_wp2_with fail
    refine hcc.mono ?_
    rintro e w2 ⟨B, d, rfl, ho, hb2⟩
    go_wp2_with fail
    go_ret2
    exact ⟨B, d, rfl, ho.lower hb1.size, bthen hb1 (Nat.le_refl _) hb2⟩
set_option maxHeartbeats 800000 in
theorem specHoursBy_any (A : Option Addr) (c : Nat) (xs : List HandD) (A2 : Option Addr) (c2 : Nat) (ws : List WorkD) (w : World) (hr : Rd LHand w w.heap.size A c xs) (hr2 : Rd LWork w w.heap.size A2 c2 ws) (hok : ∀ n ∈ xs, OkHand n) :
    Calls Tryd.prog 14 #[.slice A xs.length c, .slice A2 ws.length c2] w fun e w' => ∃ B d, e = .returned (.tuple #[.slice B (wbP fHours xs ws).1.length d, .int .i64 (wbP fHours xs ws).2]) ∧ Own LI 2 w' w.heap.size B d (wbP fHours xs ws).1 ∧ Below w.heap.size w w' := by
  have hcv := l23Work_any A c xs A2 c2 ws _ w hr hr2 hok
  cases hv : vwB xs ws
  · have HP : Hid (wbP fHours xs ws = ([], 1)) := Lib.hid (by unfold wbP; rw [hv]; rfl)
    rw [HP.out]
    rw [hv] at hcv
    go_enter Tryd.func14, Tryd.ntmps14
    go_wp2_with fail
    refine hcv.mono ?_
    rintro e w1 ⟨rfl, hd⟩
    go_wp2_with fail
    go_ret2
    exact ⟨none, 0, rfl, Own.none_, hd.below⟩
  · have HP : Hid (wbP fHours xs ws = (wbG fHours xs.length ws, 0)) := Lib.hid (by unfold wbP; rw [hv]; rfl)
    rw [HP.out]
    have Hv := Lib.hid hv
    rw [hv] at hcv
    clear hv
    go_enter Tryd.func14, Tryd.ntmps14
    go_wp2_with fail
    refine hcv.mono ?_
    rintro e w1 ⟨rfl, hd⟩
    have hb1 : Below w.heap.size w w1 := hd.below
    have hcc := l23Hours_any A c xs A2 c2 ws w1 ((hr2.below hb1).more hb1.size) Hv.out
    clear hd
    go_wp2_with fail
    refine hcc.mono ?_
    rintro e w2 ⟨B, d, rfl, ho, hb2⟩
    go_wp2_with fail
    go_ret2
    exact ⟨B, d, rfl, ho.lower hb1.size, bthen hb1 (Nat.le_refl _) hb2⟩
def pfP (xs : List HandD) (ws : List WorkD) (rate : Int) : Int × Int := if vwB xs ws = true then (if inB rate 0 10000 = true then (sm (wbG fLaid xs.length ws) * rate / 1000, 0) else (0, 2)) else (0, 1)
theorem pf_bd {s r : Int} (h0 : 0 ≤ s) (h1 : s ≤ 200000000) (h2 : 0 ≤ r) (h3 : r ≤ 10000) : 0 ≤ s * r ∧ s * r ≤ 2000000000000 :=
  ⟨Int.mul_nonneg h0 h2, by have := Int.mul_le_mul h1 h3 h2 (by omega : (0 : Int) ≤ 200000000); omega⟩


end Go.Proofs.YtofcmljnckdknaaDoor
