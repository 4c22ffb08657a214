/-
  Gangs: LaidEachHour.
-/
import Derived.Test.YtofcmljnckdknaaDoorGangsE
import Derived.Test.YtofcmljnckdknaaDoorGcd
namespace Go.Proofs.YtofcmljnckdknaaDoor
open Go.ChangeShapes Go.WideShapes Go.RowKit

/-- what a hand has of a sum, as a natural number -/
def wbN (f : WorkD → Int) (n : Nat) (ws : List WorkD) (hand : Int) : Nat := ((wbG f n ws).getD hand.toNat 0).toNat
def lhP (xs : List HandD) (ws : List WorkD) (hand : Int) : (Int × Int) × Int :=
  if vwB xs ws = true then (if inB hand 0 ((xs.length : Int) - 1) = true then (if wbN fHours xs.length ws hand = 0 then ((0, 0), 3) else
    ((((wbN fLaid xs.length ws hand / Nat.gcd (wbN fLaid xs.length ws hand) (wbN fHours xs.length ws hand) : Nat) : Int), ((wbN fHours xs.length ws hand / Nat.gcd (wbN fLaid xs.length ws hand) (wbN fHours xs.length ws hand) : Nat) : Int)), 0)) else ((0, 0), 2)) else ((0, 0), 1)
theorem wbN_at {f : WorkD → Int} {n : Nat} {ws : List WorkD} (h : ∀ x ∈ wbG f n ws, 0 ≤ x ∧ x ≤ 10000000) {k : Nat} (hk : k < (wbG f n ws).length) : (wbG f n ws)[k] = (wbN f n ws (k : Int) : Int) ∧ wbN f n ws (k : Int) ≤ 10000000 := by
  have := h _ (List.getElem_mem hk)
  unfold wbN
  rw [Int.toNat_natCast, getD_lt _ _ hk]
  omega
theorem ret_fi {a b c : Int} {p : (Int × Int) × Int} (h : p = ((a, b), c)) : Ending.returned (.tuple #[.agg #[.int .i64 a, .int .i64 b], .int .i64 c]) = .returned (.tuple #[.agg #[.int .i64 p.1.1, .int .i64 p.1.2], .int .i64 p.2]) := by rw [h]
set_option maxHeartbeats 1600000 in
theorem implLaidEachHour_any (A : Option Addr) (c : Nat) (xs : List HandD) (A2 : Option Addr) (c2 : Nat) (ws : List WorkD) (hand : Int) (w : World) (hr : Rd LHand w w.heap.size A c xs) (hr2 : Rd LWork w w.heap.size A2 c2 ws) (hok : ∀ n ∈ xs, OkHand n) :
    Calls Tryd.prog 16 #[.slice A xs.length c, .slice A2 ws.length c2, .int .i64 hand] w fun e w' => e = .returned (.tuple #[.agg #[.int .i64 (lhP xs ws hand).1.1, .int .i64 (lhP xs ws hand).1.2], .int .i64 (lhP xs ws hand).2]) ∧ Below w.heap.size w w' := by
  have hlen := hr.len63
  have hb0 : Below w.heap.size w (w.alloc (.cells #[.int .i64 0, .int .i64 0] 42)) := (Below.refl _ w).alloc (Nat.le_refl _) _
  have hz : (w.alloc (.cells #[.int .i64 0, .int .i64 0] 42)).heap.size = w.heap.size + 1 := by simp
  have hcv := implValidWork_any A c xs A2 c2 ws (w.alloc (.cells #[.int .i64 0, .int .i64 0] 42)) (hr.al _) (hr2.al _) hok
  cases hv : vwB xs ws
  · have HP : Hid (lhP xs ws hand = ((0, 0), 1)) := Lib.hid (by unfold lhP; rw [hv]; rfl)
    rw [hv] at hcv
    go_enter Tryd.func16, Tryd.ntmps16
    go_wp2_with fail
    refine hcv.mono ?_
    rintro e w1 ⟨rfl, hb1⟩
    have r0 : w1.cell? ⟨w.heap.size, 0, none⟩ = some (.int .i64 0) := (hb1.cell (by simp)).trans (by go_simp)
    have r1 : w1.cell? ⟨w.heap.size, 1, none⟩ = some (.int .i64 0) := (hb1.cell (by simp)).trans (by go_simp)
    have f0 : w1.frozen? ⟨w.heap.size, 0, none⟩ = false := (hb1.frozen (by simp)).trans (by go_simp)
    have f1 : w1.frozen? ⟨w.heap.size, 1, none⟩ = false := (hb1.frozen (by simp)).trans (by go_simp)
    have hbz := bthen hb0 (Nat.le_refl _) hb1
    go_wp2_with fail
    refine bodyPost_ret (v := .tuple #[.agg #[.int .i64 0, .int .i64 0], .int .i64 1]) (by simp [results, Tryd.results16, go_sem, r0, r1, f0, f1]) rfl ⟨ret_fi HP.out, ?_⟩
    repeat' (first | exact hbz | (refine Below.setCell ?_ ?_ _) | (refine below_drewN ?_ _) | (simp; done) | (simp; omega))
  · have Hv := Lib.hid hv
    rw [hv] at hcv
    clear hv
    cases hi : inB hand 0 ((xs.length : Int) - 1)
    · have HP : Hid (lhP xs ws hand = ((0, 0), 2)) := Lib.hid (by unfold lhP; rw [Hv.out, hi]; rfl)
      go_enter Tryd.func16, Tryd.ntmps16
      go_wp2_with fail
      refine hcv.mono ?_
      rintro e w1 ⟨rfl, hb1⟩
      have r0 : w1.cell? ⟨w.heap.size, 0, none⟩ = some (.int .i64 0) := (hb1.cell (by simp)).trans (by go_simp)
      have r1 : w1.cell? ⟨w.heap.size, 1, none⟩ = some (.int .i64 0) := (hb1.cell (by simp)).trans (by go_simp)
      have f0 : w1.frozen? ⟨w.heap.size, 0, none⟩ = false := (hb1.frozen (by simp)).trans (by go_simp)
      have f1 : w1.frozen? ⟨w.heap.size, 1, none⟩ = false := (hb1.frozen (by simp)).trans (by go_simp)
      have hbz := bthen hb0 (Nat.le_refl _) hb1
      have hs1 := hb1.size
      simp at hs1
      go_wp2_with (go_at_call 52; refine (within_any _ _ _ _).mono ?_; rintro e w' ⟨rfl, rfl⟩)
      refine bodyPost_ret (v := .tuple #[.agg #[.int .i64 0, .int .i64 0], .int .i64 2]) (by simp [results, Tryd.results16, go_sem, r0, r1, f0, f1]) rfl ⟨ret_fi HP.out, ?_⟩
      repeat' (first | exact hbz | (refine Below.setCell ?_ ?_ _) | (refine below_drewN ?_ _) | (simp; done) | (simp; omega))
    · obtain ⟨h0, h1⟩ := inB_yes hi
      obtain ⟨k, rfl⟩ : ∃ k : Nat, hand = k := ⟨hand.toNat, by omega⟩
      obtain ⟨hx, hw, hh, hf, hf2⟩ := vw_bds Hv.out
      have hkx : k < xs.length := by omega
      have hk0 : (k : Int) < xs.length := by omega
      have HN := Lib.hid (wbN_at (n := xs.length) (wbG_sum hx hw hf2).1 (k := k) (by rw [wbG_len]; exact hkx))
      have HM := Lib.hid (wbN_at (n := xs.length) (wbG_sum hx hw hf).1 (k := k) (by rw [wbG_len]; exact hkx))
      have HL := Lib.hid (wbG_len fHours xs.length ws)
      have HL2 := Lib.hid (wbG_len fLaid xs.length ws)
      have HQ : Hid (lhP xs ws k = if wbN fHours xs.length ws k = 0 then ((0, 0), 3) else ((((wbN fLaid xs.length ws k / Nat.gcd (wbN fLaid xs.length ws k) (wbN fHours xs.length ws k) : Nat) : Int), ((wbN fHours xs.length ws k / Nat.gcd (wbN fLaid xs.length ws k) (wbN fHours xs.length ws k) : Nat) : Int)), 0)) := Lib.hid (by unfold lhP; rw [Hv.out, hi, if_pos rfl, if_pos rfl])
      clear hf hf2 hh
      go_enter Tryd.func16, Tryd.ntmps16
      go_wp2_with fail
      refine hcv.mono ?_
      rintro e w1 ⟨rfl, hb1⟩
      have r0 : w1.cell? ⟨w.heap.size, 0, none⟩ = some (.int .i64 0) := (hb1.cell (by simp)).trans (by go_simp)
      have r1 : w1.cell? ⟨w.heap.size, 1, none⟩ = some (.int .i64 0) := (hb1.cell (by simp)).trans (by go_simp)
      have f0 : w1.frozen? ⟨w.heap.size, 0, none⟩ = false := (hb1.frozen (by simp)).trans (by go_simp)
      have f1 : w1.frozen? ⟨w.heap.size, 1, none⟩ = false := (hb1.frozen (by simp)).trans (by go_simp)
      have hbz := bthen hb0 (Nat.le_refl _) hb1
      have hs1 := hb1.size
      simp at hs1
      have hcc := hoursBy_any A c xs A2 c2 ws w1 ((hr2.below hbz).more hbz.size) Hv.out
      have hcl := fun W hR => laidBy_any A c xs A2 c2 ws W hR Hv.out
      rw [HL.out] at hcc
      rw [HL2.out] at hcl
      go_wp2_with (go_at_call 52; refine (within_any _ _ _ _).mono ?_; rintro e w' ⟨rfl, rfl⟩)
      refine hcc.mono ?_
      rintro e w2 ⟨B, d, rfl, ho, hb2⟩
      obtain ⟨g, rfl, hg1, hg2, hcg, _⟩ := ho.int (k := k) (by rw [HL.out]; exact hkx)
      rw [HN.out.1] at hcg
      have hbd := HN.out.2
      have hbd2 := HM.out.2
      have r0' := (hb2.cell (p := ⟨w.heap.size, 0, none⟩) (by simp; omega)).trans r0
      have r1' := (hb2.cell (p := ⟨w.heap.size, 1, none⟩) (by simp; omega)).trans r1
      have f0' := (hb2.frozen (p := ⟨w.heap.size, 0, none⟩) (by simp; omega)).trans f0
      have f1' := (hb2.frozen (p := ⟨w.heap.size, 1, none⟩) (by simp; omega)).trans f1
      have hbz2 := bthen hbz (Nat.le_refl _) hb2
      have hs2 := hb2.size
      by_cases hz0 : wbN fHours xs.length ws k = 0
      · have HP : Hid (lhP xs ws k = ((0, 0), 3)) := Lib.hid (by rw [HQ.out, if_pos hz0])
        rw [hz0] at hcg
        clear hz0
        go_wp2_with fail
        refine bodyPost_ret (v := .tuple #[.agg #[.int .i64 0, .int .i64 0], .int .i64 3]) (by simp [results, Tryd.results16, go_sem, r0', r1', f0', f1']) rfl ⟨ret_fi HP.out, ?_⟩
        repeat' (first | exact hbz2 | (refine Below.setCell ?_ ?_ _) | (refine below_drewN ?_ _) | (simp; done) | (simp; omega))
      · have HP := Lib.hid (HQ.out.trans (if_neg hz0))
        have hcw := fun W => lowest_any (wbN fLaid xs.length ws k) (wbN fHours xs.length ws k) W (by omega) (by omega) (by omega)
        have hne : ((wbN fHours xs.length ws k : Int) == 0) = false := by simp; omega
        have HM1 := Lib.hid HM.out.1
        generalize wbN fHours xs.length ws k = b at *
        generalize wbN fLaid xs.length ws k = a at *
        go_wp2_with fail
        refine (hcl _ ((hr2.below hbz2).more hbz2.size)).mono ?_
        rintro e w3 ⟨B3, d3, rfl, ho3, hb3⟩
        obtain ⟨g3, rfl, hg3, hg4, hcg3, _⟩ := ho3.int (k := k) (by rw [HL2.out]; exact hkx)
        rw [HM1.out] at hcg3
        have hbz3 := bthen hbz2 (Nat.le_refl _) hb3
        have hs3 := hb3.size
        go_wp2_with fail
        refine (hcw _).mono ?_
        rintro e w4 ⟨rfl, hb4⟩
        have hb24 := bthen hb3 (Nat.le_refl _) hb4
        have r0'' := (hb24.cell (p := ⟨w.heap.size, 0, none⟩) (by simp; omega)).trans r0'
        have r1'' := (hb24.cell (p := ⟨w.heap.size, 1, none⟩) (by simp; omega)).trans r1'
        have f0'' := (hb24.frozen (p := ⟨w.heap.size, 0, none⟩) (by simp; omega)).trans f0'
        have f1'' := (hb24.frozen (p := ⟨w.heap.size, 1, none⟩) (by simp; omega)).trans f1'
        have hbz4 := bthen hbz2 (Nat.le_refl _) hb24
        go_wp2_with fail
        refine bodyPost_ret (v := .tuple #[.agg #[.int .i64 ((a / Nat.gcd a b : Nat) : Int), .int .i64 ((b / Nat.gcd a b : Nat) : Int)], .int .i64 0]) (by simp [results, Tryd.results16, go_sem, r0'', r1'', f0'', f1'']) rfl ⟨ret_fi HP.out, ?_⟩
        repeat' (first | exact hbz4 | (refine Below.setCell ?_ ?_ _) | (refine below_drewN ?_ _) | (simp; done) | (simp; omega))
set_option maxHeartbeats 1600000 in
theorem specLaidEachHour_any (A : Option Addr) (c : Nat) (xs : List HandD) (A2 : Option Addr) (c2 : Nat) (ws : List WorkD) (hand : Int) (w : World) (hr : Rd LHand w w.heap.size A c xs) (hr2 : Rd LWork w w.heap.size A2 c2 ws) (hok : ∀ n ∈ xs, OkHand n) :
    Calls Tryd.prog 17 #[.slice A xs.length c, .slice A2 ws.length c2, .int .i64 hand] w fun e w' => e = .returned (.tuple #[.agg #[.int .i64 (lhP xs ws hand).1.1, .int .i64 (lhP xs ws hand).1.2], .int .i64 (lhP xs ws hand).2]) ∧ Below w.heap.size w w' := by
  have hlen := hr.len63
  have hb0 : Below w.heap.size w (w.alloc (.cells #[.int .i64 0, .int .i64 0] 42)) := (Below.refl _ w).alloc (Nat.le_refl _) _
  have hz : (w.alloc (.cells #[.int .i64 0, .int .i64 0] 42)).heap.size = w.heap.size + 1 := by simp
  have hcv := l23Work_any A c xs A2 c2 ws _ (w.alloc (.cells #[.int .i64 0, .int .i64 0] 42)) (hr.al _) (hr2.al _) hok
  cases hv : vwB xs ws
  · have HP : Hid (lhP xs ws hand = ((0, 0), 1)) := Lib.hid (by unfold lhP; rw [hv]; rfl)
    rw [hv] at hcv
    go_enter Tryd.func17, Tryd.ntmps17
    go_wp2_with fail
    refine hcv.mono ?_
    rintro e w1 ⟨rfl, hd⟩
    have hb1 := hd.below (B := (w.alloc (.cells #[.int .i64 0, .int .i64 0] 42)).heap.size)
    clear hd
    have r0 : w1.cell? ⟨w.heap.size, 0, none⟩ = some (.int .i64 0) := (hb1.cell (by simp)).trans (by go_simp)
    have r1 : w1.cell? ⟨w.heap.size, 1, none⟩ = some (.int .i64 0) := (hb1.cell (by simp)).trans (by go_simp)
    have f0 : w1.frozen? ⟨w.heap.size, 0, none⟩ = false := (hb1.frozen (by simp)).trans (by go_simp)
    have f1 : w1.frozen? ⟨w.heap.size, 1, none⟩ = false := (hb1.frozen (by simp)).trans (by go_simp)
    have hbz := bthen hb0 (Nat.le_refl _) hb1
    go_wp2_with fail
    refine bodyPost_ret (v := .tuple #[.agg #[.int .i64 0, .int .i64 0], .int .i64 1]) (by simp [results, Tryd.results17, go_sem, r0, r1, f0, f1]) rfl ⟨ret_fi HP.out, ?_⟩
    repeat' (first | exact hbz | (refine Below.setCell ?_ ?_ _) | (refine below_drewN ?_ _) | (simp; done) | (simp; omega))
  · have Hv := Lib.hid hv
    rw [hv] at hcv
    clear hv
    cases hi : inB hand 0 ((xs.length : Int) - 1)
    · have HP : Hid (lhP xs ws hand = ((0, 0), 2)) := Lib.hid (by unfold lhP; rw [Hv.out, hi]; rfl)
      go_enter Tryd.func17, Tryd.ntmps17
      go_wp2_with fail
      refine hcv.mono ?_
      rintro e w1 ⟨rfl, hd⟩
      have hb1 := hd.below (B := (w.alloc (.cells #[.int .i64 0, .int .i64 0] 42)).heap.size)
      clear hd
      have r0 : w1.cell? ⟨w.heap.size, 0, none⟩ = some (.int .i64 0) := (hb1.cell (by simp)).trans (by go_simp)
      have r1 : w1.cell? ⟨w.heap.size, 1, none⟩ = some (.int .i64 0) := (hb1.cell (by simp)).trans (by go_simp)
      have f0 : w1.frozen? ⟨w.heap.size, 0, none⟩ = false := (hb1.frozen (by simp)).trans (by go_simp)
      have f1 : w1.frozen? ⟨w.heap.size, 1, none⟩ = false := (hb1.frozen (by simp)).trans (by go_simp)
      have hbz := bthen hb0 (Nat.le_refl _) hb1
      have hs1 := hb1.size
      simp at hs1
      go_wp2_with (go_at_call 54; refine (l00In_any _ _ _ _).mono ?_; rintro e w' ⟨rfl, rfl⟩)
      refine bodyPost_ret (v := .tuple #[.agg #[.int .i64 0, .int .i64 0], .int .i64 2]) (by simp [results, Tryd.results17, go_sem, r0, r1, f0, f1]) rfl ⟨ret_fi HP.out, ?_⟩
      repeat' (first | exact hbz | (refine Below.setCell ?_ ?_ _) | (refine below_drewN ?_ _) | (simp; done) | (simp; omega))
    · obtain ⟨h0, h1⟩ := inB_yes hi
      obtain ⟨k, rfl⟩ : ∃ k : Nat, hand = k := ⟨hand.toNat, by omega⟩
      obtain ⟨hx, hw, hh, hf, hf2⟩ := vw_bds Hv.out
      have hkx : k < xs.length := by omega
      have hk0 : (k : Int) < xs.length := by omega
      have HN := Lib.hid (wbN_at (n := xs.length) (wbG_sum hx hw hf2).1 (k := k) (by rw [wbG_len]; exact hkx))
      have HM := Lib.hid (wbN_at (n := xs.length) (wbG_sum hx hw hf).1 (k := k) (by rw [wbG_len]; exact hkx))
      have HL := Lib.hid (wbG_len fHours xs.length ws)
      have HL2 := Lib.hid (wbG_len fLaid xs.length ws)
      have HQ : Hid (lhP xs ws k = if wbN fHours xs.length ws k = 0 then ((0, 0), 3) else ((((wbN fLaid xs.length ws k / Nat.gcd (wbN fLaid xs.length ws k) (wbN fHours xs.length ws k) : Nat) : Int), ((wbN fHours xs.length ws k / Nat.gcd (wbN fLaid xs.length ws k) (wbN fHours xs.length ws k) : Nat) : Int)), 0)) := Lib.hid (by unfold lhP; rw [Hv.out, hi, if_pos rfl, if_pos rfl])
      clear hf hf2 hh
      go_enter Tryd.func17, Tryd.ntmps17
      go_wp2_with fail
      refine hcv.mono ?_
      rintro e w1 ⟨rfl, hd⟩
      have hb1 := hd.below (B := (w.alloc (.cells #[.int .i64 0, .int .i64 0] 42)).heap.size)
      clear hd
      have r0 : w1.cell? ⟨w.heap.size, 0, none⟩ = some (.int .i64 0) := (hb1.cell (by simp)).trans (by go_simp)
      have r1 : w1.cell? ⟨w.heap.size, 1, none⟩ = some (.int .i64 0) := (hb1.cell (by simp)).trans (by go_simp)
      have f0 : w1.frozen? ⟨w.heap.size, 0, none⟩ = false := (hb1.frozen (by simp)).trans (by go_simp)
      have f1 : w1.frozen? ⟨w.heap.size, 1, none⟩ = false := (hb1.frozen (by simp)).trans (by go_simp)
      have hbz := bthen hb0 (Nat.le_refl _) hb1
      have hs1 := hb1.size
      simp at hs1
      have hcc := l23Hours_any A c xs A2 c2 ws w1 ((hr2.below hbz).more hbz.size) Hv.out
      have hcl := fun W hR => l23Laid_any A c xs A2 c2 ws W hR Hv.out
      rw [HL.out] at hcc
      rw [HL2.out] at hcl
      go_wp2_with (go_at_call 54; refine (l00In_any _ _ _ _).mono ?_; rintro e w' ⟨rfl, rfl⟩)
      refine hcc.mono ?_
      rintro e w2 ⟨B, d, rfl, ho, hb2⟩
      obtain ⟨g, rfl, hg1, hg2, hcg, _⟩ := ho.int (k := k) (by rw [HL.out]; exact hkx)
      rw [HN.out.1] at hcg
      have hbd := HN.out.2
      have hbd2 := HM.out.2
      have r0' := (hb2.cell (p := ⟨w.heap.size, 0, none⟩) (by simp; omega)).trans r0
      have r1' := (hb2.cell (p := ⟨w.heap.size, 1, none⟩) (by simp; omega)).trans r1
      have f0' := (hb2.frozen (p := ⟨w.heap.size, 0, none⟩) (by simp; omega)).trans f0
      have f1' := (hb2.frozen (p := ⟨w.heap.size, 1, none⟩) (by simp; omega)).trans f1
      have hbz2 := bthen hbz (Nat.le_refl _) hb2
      have hs2 := hb2.size
      by_cases hz0 : wbN fHours xs.length ws k = 0
      · have HP : Hid (lhP xs ws k = ((0, 0), 3)) := Lib.hid (by rw [HQ.out, if_pos hz0])
        rw [hz0] at hcg
        clear hz0
        go_wp2_with fail
        refine bodyPost_ret (v := .tuple #[.agg #[.int .i64 0, .int .i64 0], .int .i64 3]) (by simp [results, Tryd.results17, go_sem, r0', r1', f0', f1']) rfl ⟨ret_fi HP.out, ?_⟩
        repeat' (first | exact hbz2 | (refine Below.setCell ?_ ?_ _) | (refine below_drewN ?_ _) | (simp; done) | (simp; omega))
      · have HP := Lib.hid (HQ.out.trans (if_neg hz0))
        have hcw := fun W => l02Make_any (wbN fLaid xs.length ws k) (wbN fHours xs.length ws k) W (by omega) (by omega) (by omega)
        have hne : ((wbN fHours xs.length ws k : Int) == 0) = false := by simp; omega
        have HM1 := Lib.hid HM.out.1
        generalize wbN fHours xs.length ws k = b at *
        generalize wbN fLaid xs.length ws k = a at *
        go_wp2_with fail
        refine (hcl _ ((hr2.below hbz2).more hbz2.size)).mono ?_
        rintro e w3 ⟨B3, d3, rfl, ho3, hb3⟩
        obtain ⟨g3, rfl, hg3, hg4, hcg3, _⟩ := ho3.int (k := k) (by rw [HL2.out]; exact hkx)
        rw [HM1.out] at hcg3
        have hbz3 := bthen hbz2 (Nat.le_refl _) hb3
        have hs3 := hb3.size
        go_wp2_with fail
        refine (hcw _).mono ?_
        rintro e w4 ⟨rfl, hb4⟩
        have hb24 := bthen hb3 (Nat.le_refl _) hb4
        have r0'' := (hb24.cell (p := ⟨w.heap.size, 0, none⟩) (by simp; omega)).trans r0'
        have r1'' := (hb24.cell (p := ⟨w.heap.size, 1, none⟩) (by simp; omega)).trans r1'
        have f0'' := (hb24.frozen (p := ⟨w.heap.size, 0, none⟩) (by simp; omega)).trans f0'
        have f1'' := (hb24.frozen (p := ⟨w.heap.size, 1, none⟩) (by simp; omega)).trans f1'
        have hbz4 := bthen hbz2 (Nat.le_refl _) hb24
        go_wp2_with fail
        refine bodyPost_ret (v := .tuple #[.agg #[.int .i64 ((a / Nat.gcd a b : Nat) : Int), .int .i64 ((b / Nat.gcd a b : Nat) : Int)], .int .i64 0]) (by simp [results, Tryd.results17, go_sem, r0'', r1'', f0'', f1'']) rfl ⟨ret_fi HP.out, ?_⟩
        repeat' (first | exact hbz4 | (refine Below.setCell ?_ ?_ _) | (refine below_drewN ?_ _) | (simp; done) | (simp; omega))
end Go.Proofs.YtofcmljnckdknaaDoor
