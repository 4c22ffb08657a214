/-
  Tested bricks: MeanStrength, WeakestTested, CountWeak, SameTested of both.
-/
import Derived.Test.YtehmghlhljocbaaGreatDoorMedian
import Derived.Test.YtehmghlhljocbaaGreatDoorGcd
import Derived.Deep.RegionHeld3
import Derived.Deep.QuietTactic
import Derived.BigQuiet
namespace Go.Proofs.YtehmghlhljocbaaGreatDoor
open Go.ChangeShapes Go.WideShapes Go.RowKit

/-- the mean of the strengths -/
def msG (xs : List TestedD) : Nat := Nat.gcd (stg xs).toNat xs.length
def msN (xs : List TestedD) : Nat := if tcP xs = 0 then (stg xs).toNat / msG xs else 0
def msD (xs : List TestedD) : Nat := if tcP xs = 0 then xs.length / msG xs else 0
/-- the place of the weakest of the first k -/
def wkB (xs : List TestedD) : Nat → Nat
  | 0 => 0
  | k + 1 => if (xs.getD k (0, 0)).1 < (xs.getD (wkB xs k) (0, 0)).1 then k else wkB xs k
theorem wkB_le (xs : List TestedD) (k : Nat) : wkB xs k ≤ k := by
  induction k with
  | zero => exact Nat.le_refl _
  | succ k ih => unfold wkB; split <;> omega
theorem wkB_lt (xs : List TestedD) (k : Nat) (h : 0 < xs.length) (hk : k ≤ xs.length) : wkB xs k < xs.length := by
  induction k with
  | zero => exact h
  | succ k ih =>
    unfold wkB
    split
    · omega
    · exact ih (by omega)
theorem wkB_min (xs : List TestedD) (k : Nat) : ∀ i, i < k → (xs.getD (wkB xs k) (0, 0)).1 ≤ (xs.getD i (0, 0)).1 := by
  induction k with
  | zero => intro i h; omega
  | succ k ih =>
    intro i h
    unfold wkB
    split
    · rename_i hlt
      by_cases e : i = k
      · subst e; exact Int.le_refl _
      · have := ih i (by omega); omega
    · rename_i hge
      by_cases e : i = k
      · subst e; omega
      · exact ih i (by omega)
def wkP (xs : List TestedD) : Int × Int := if tcP xs = 0 then ((wkB xs xs.length : Nat), 0) else (0, tcP xs)
def cwN (xs : List TestedD) (s : Int) (k : Nat) : Nat := ((xs.take k).filter fun x => decide (x.1 < s)).length
theorem cwN_le (xs : List TestedD) (s : Int) (k : Nat) : cwN xs s k ≤ k := by
  unfold cwN
  have h1 := List.length_filter_le (fun x : TestedD => decide (x.1 < s)) (xs.take k)
  rw [List.length_take] at h1
  omega
theorem cwN_succ (xs : List TestedD) (s : Int) {k : Nat} (h : k < xs.length) : cwN xs s (k + 1) = cwN xs s k + if xs[k].1 < s then 1 else 0 := by
  unfold cwN
  rw [List.take_succ_eq_append_getElem h, List.filter_append, List.length_append]
  by_cases hs : xs[k].1 < s <;> simp [hs]
def cwP (xs : List TestedD) (s : Int) : Int × Int := if vtB xs = true then (if 0 ≤ s ∧ s ≤ 100000 then ((cwN xs s xs.length : Nat), 0) else (0, 2)) else (0, 1)
theorem tc_zero {xs : List TestedD} (h : tcP xs = 0) : vtB xs = true ∧ 0 < xs.length := by
  unfold tcP at h
  split at h
  · split at h
    · cases h
    · exact ⟨by assumption, by omega⟩
  · cases h
theorem stg_nat {xs : List TestedD} (hv : vtB xs = true) : 0 ≤ stg xs ∧ stg xs ≤ 2000000 := by
  have h := stg_bd hv xs.length
  have h2 := (vt_parts hv).1
  rw [List.take_of_length_le (Nat.le_refl _)] at h
  omega
theorem ret_fi {a b c : Int} {p : (Int × Int) × Int} (h : p = ((a, b), c)) : Ending.returned (.tuple #[.agg #[.int .i64 a, .int .i64 b], .int .i64 c]) = .returned (.tuple #[.agg #[.int .i64 p.1.1, .int .i64 p.1.2], .int .i64 p.2]) := by rw [h]
def msP (xs : List TestedD) : (Int × Int) × Int := (((msN xs : Nat), (msD xs : Nat)), tcP xs)
theorem msP_no {xs : List TestedD} (h : tcP xs ≠ 0) : msP xs = ((0, 0), tcP xs) := by
  unfold msP msN msD
  rw [if_neg h, if_neg h]
  rfl
theorem msP_yes {xs : List TestedD} (h : tcP xs = 0) : msP xs = (((((stg xs).toNat / Nat.gcd (stg xs).toNat xs.length : Nat) : Int), ((xs.length / Nat.gcd (stg xs).toNat xs.length : Nat) : Int)), 0) := by
  unfold msP msN msD msG
  rw [if_pos h, if_pos h, h]
set_option maxRecDepth 100000 in
set_option maxHeartbeats 1600000 in
theorem implMeanStrength_any (A : Option Addr) (c : Nat) (xs : List TestedD) (w : World) (hr : Rd LTested w w.heap.size A c xs) :
    Calls Tryz.prog 8 #[.slice A xs.length c] w fun e w' => e = .returned (.tuple #[.agg #[.int .i64 (msP xs).1.1, .int .i64 (msP xs).1.2], .int .i64 (msP xs).2]) ∧ Below w.heap.size w w' := by
  have hlen := hr.len63
  have hb0 : Below w.heap.size w (w.alloc (.cells #[.int .i64 0, .int .i64 0] 31)) := (Below.refl _ w).alloc (Nat.le_refl _) _
  have hz : (w.alloc (.cells #[.int .i64 0, .int .i64 0] 31)).heap.size = w.heap.size + 1 := by simp
  have hcv : Calls Tryz.prog 42 #[.slice A xs.length c] (w.alloc (.cells #[.int .i64 0, .int .i64 0] 31)) fun e w' => e = .returned (.int .i64 (tcP xs)) ∧ Below (w.alloc (.cells #[.int .i64 0, .int .i64 0] 31)).heap.size (w.alloc (.cells #[.int .i64 0, .int .i64 0] 31)) w' := testedCode_any A c xs _ (hr.al _)
  by_cases h0 : tcP xs = 0
  rotate_left
  · have HP := Lib.hid (msP_no h0)
    have z1 : (tcP xs != 0) = true := by rw [bne_iff_ne]; exact h0
    have z2 : (tcP xs == 0) = false := by rw [beq_eq_false_iff_ne]; exact h0
    clear h0
    generalize tcP xs = tc at *
    go_enter Tryz.func8, Tryz.ntmps8
    go_wp2_with fail
    refine hcv.mono ?_
    rintro e w1 ⟨rfl, hb1⟩
    have r0 : w1.cell? ⟨w.heap.size, 0, none⟩ = some (.int .i64 0) := (hb1.cell (by simp)).trans (by go_simp)
    have r1 : w1.cell? ⟨w.heap.size, 1, none⟩ = some (.int .i64 0) := (hb1.cell (by simp)).trans (by go_simp)
    have f0 : w1.frozen? ⟨w.heap.size, 0, none⟩ = false := (hb1.frozen (by simp)).trans (by go_simp)
    have f1 : w1.frozen? ⟨w.heap.size, 1, none⟩ = false := (hb1.frozen (by simp)).trans (by go_simp)
    have hbz := bthen hb0 (Nat.le_refl _) hb1
    clear hb1 hcv
    go_wp2_with fail
    refine bodyPost_ret (v := .tuple #[.agg #[.int .i64 0, .int .i64 0], .int .i64 tc]) (by simp [results, Tryz.results8, go_sem, r0, r1, f0, f1]) rfl ⟨ret_fi HP.out, ?_⟩
    repeat' (first | exact hbz | (refine Below.setCell ?_ ?_ _) | (refine below_drewN ?_ _) | (simp; done) | (simp; omega))
  · have HP := Lib.hid (msP_yes h0)
    obtain ⟨hv, hl⟩ := tc_zero h0
    obtain ⟨s0, s1⟩ := stg_nat hv
    have hl20 := (vt_parts hv).1
    rw [h0] at hcv
    have hst := fun (W : World) (h : Rd LTested W W.heap.size A c xs) => strengths_any A c xs W.heap.size W (Nat.le_refl _) h hv
    have hlo := fun W : World => lowest_any (stg xs).toNat xs.length W (by omega) (by omega) hl
    obtain ⟨S, hS⟩ : ∃ S : Nat, S = (stg xs).toNat := ⟨_, rfl⟩
    have hSi : stg xs = (S : Int) := by omega
    rw [← hS] at HP hlo
    rw [hSi] at hst
    have HST := Lib.hid hst
    have HLO := Lib.hid hlo
    clear h0 hv hst hlo hS hSi s0 s1
    generalize stg xs = sg at *
    generalize Nat.gcd S xs.length = G at *
    go_enter Tryz.func8, Tryz.ntmps8
    go_wp2_with fail
    refine hcv.mono ?_
    rintro e w1 ⟨rfl, hb1⟩
    have r0 : w1.cell? ⟨w.heap.size, 0, none⟩ = some (.int .i64 0) := (hb1.cell (by simp)).trans (by go_simp)
    have r1 : w1.cell? ⟨w.heap.size, 1, none⟩ = some (.int .i64 0) := (hb1.cell (by simp)).trans (by go_simp)
    have f0 : w1.frozen? ⟨w.heap.size, 0, none⟩ = false := (hb1.frozen (by simp)).trans (by go_simp)
    have f1 : w1.frozen? ⟨w.heap.size, 1, none⟩ = false := (hb1.frozen (by simp)).trans (by go_simp)
    have hbz := bthen hb0 (Nat.le_refl _) hb1
    have hs1 := hb1.size
    simp at hs1
    have hst1 := HST.out w1 ((hr.below hbz).more hbz.size)
    clear hcv hb1
    go_wp2_with fail
    refine hst1.mono ?_
    rintro e w2 ⟨rfl, hb2⟩
    have r0' := (hb2.cell (p := ⟨w.heap.size, 0, none⟩) (by simp; omega)).trans r0
    have r1' := (hb2.cell (p := ⟨w.heap.size, 1, none⟩) (by simp; omega)).trans r1
    have f0' := (hb2.frozen (p := ⟨w.heap.size, 0, none⟩) (by simp; omega)).trans f0
    have f1' := (hb2.frozen (p := ⟨w.heap.size, 1, none⟩) (by simp; omega)).trans f1
    have hbz2 := bthen hbz (Nat.le_refl _) hb2
    have hs2 := hb2.size
    clear hst1 hb2 r0 r1 f0 f1
    go_wp2_with fail
    refine (HLO.out w2).mono ?_
    rintro e w3 ⟨rfl, hb3⟩
    have r0 := (hb3.cell (p := ⟨w.heap.size, 0, none⟩) (by simp; omega)).trans r0'
    have r1 := (hb3.cell (p := ⟨w.heap.size, 1, none⟩) (by simp; omega)).trans r1'
    have f0 := (hb3.frozen (p := ⟨w.heap.size, 0, none⟩) (by simp; omega)).trans f0'
    have f1 := (hb3.frozen (p := ⟨w.heap.size, 1, none⟩) (by simp; omega)).trans f1'
    have hbz3 := bthen hbz2 (Nat.le_refl _) hb3
    have hs3 := hb3.size
    clear hb3 r0' r1' f0' f1'
    go_wp2_with fail
    refine bodyPost_ret (v := .tuple #[.agg #[.int .i64 ((S / G : Nat) : Int), .int .i64 ((xs.length / G : Nat) : Int)], .int .i64 0]) (by simp [results, Tryz.results8, go_sem, r0, r1, f0, f1]) rfl ⟨ret_fi HP.out, ?_⟩
    repeat' (first | exact hbz3 | (refine Below.setCell ?_ ?_ _) | (refine below_drewN ?_ _) | (simp; done) | (simp; omega))
set_option maxRecDepth 100000 in
set_option maxHeartbeats 1600000 in
theorem specMeanStrength_any (A : Option Addr) (c : Nat) (xs : List TestedD) (w : World) (hr : Rd LTested w w.heap.size A c xs) :
    Calls Tryz.prog 9 #[.slice A xs.length c] w fun e w' => e = .returned (.tuple #[.agg #[.int .i64 (msP xs).1.1, .int .i64 (msP xs).1.2], .int .i64 (msP xs).2]) ∧ Below w.heap.size w w' := by
  have hlen := hr.len63
  have hb0 : Below w.heap.size w (w.alloc (.cells #[.int .i64 0, .int .i64 0] 31)) := (Below.refl _ w).alloc (Nat.le_refl _) _
  have hz : (w.alloc (.cells #[.int .i64 0, .int .i64 0] 31)).heap.size = w.heap.size + 1 := by simp
  have hcv : Calls Tryz.prog 45 #[.slice A xs.length c] (w.alloc (.cells #[.int .i64 0, .int .i64 0] 31)) fun e w' => e = .returned (.int .i64 (tcP xs)) ∧ Below (w.alloc (.cells #[.int .i64 0, .int .i64 0] 31)).heap.size (w.alloc (.cells #[.int .i64 0, .int .i64 0] 31)) w' := (l19Some_any A c xs _ _ (hr.al _)).mono fun e w' ⟨h1, h2⟩ => ⟨h1, by rw [← h2]; exact Below.refl _ _⟩
  by_cases h0 : tcP xs = 0
  rotate_left
  · have HP := Lib.hid (msP_no h0)
    have z1 : (tcP xs != 0) = true := by rw [bne_iff_ne]; exact h0
    have z2 : (tcP xs == 0) = false := by rw [beq_eq_false_iff_ne]; exact h0
    clear h0
    generalize tcP xs = tc at *
    go_enter Tryz.func9, Tryz.ntmps9
    go_wp2_with fail
    refine hcv.mono ?_
    rintro e w1 ⟨rfl, hb1⟩
    have r0 : w1.cell? ⟨w.heap.size, 0, none⟩ = some (.int .i64 0) := (hb1.cell (by simp)).trans (by go_simp)
    have r1 : w1.cell? ⟨w.heap.size, 1, none⟩ = some (.int .i64 0) := (hb1.cell (by simp)).trans (by go_simp)
    have f0 : w1.frozen? ⟨w.heap.size, 0, none⟩ = false := (hb1.frozen (by simp)).trans (by go_simp)
    have f1 : w1.frozen? ⟨w.heap.size, 1, none⟩ = false := (hb1.frozen (by simp)).trans (by go_simp)
    have hbz := bthen hb0 (Nat.le_refl _) hb1
    clear hb1 hcv
    go_wp2_with fail
    refine bodyPost_ret (v := .tuple #[.agg #[.int .i64 0, .int .i64 0], .int .i64 tc]) (by simp [results, Tryz.results9, go_sem, r0, r1, f0, f1]) rfl ⟨ret_fi HP.out, ?_⟩
    repeat' (first | exact hbz | (refine Below.setCell ?_ ?_ _) | (refine below_drewN ?_ _) | (simp; done) | (simp; omega))
  · have HP := Lib.hid (msP_yes h0)
    obtain ⟨hv, hl⟩ := tc_zero h0
    obtain ⟨s0, s1⟩ := stg_nat hv
    have hl20 := (vt_parts hv).1
    rw [h0] at hcv
    have hst := fun (W : World) (h : Rd LTested W W.heap.size A c xs) => (l19Sum_any A c xs W.heap.size W h hv).mono fun e w' (p : _ ∧ W = w') => And.intro p.1 (show Below W.heap.size W w' by rw [← p.2]; exact Below.refl _ _)
    have hlo := fun W : World => l02Make_any (stg xs).toNat xs.length W (by omega) (by omega) hl
    obtain ⟨S, hS⟩ : ∃ S : Nat, S = (stg xs).toNat := ⟨_, rfl⟩
    have hSi : stg xs = (S : Int) := by omega
    rw [← hS] at HP hlo
    rw [hSi] at hst
    have HST := Lib.hid hst
    have HLO := Lib.hid hlo
    clear h0 hv hst hlo hS hSi s0 s1
    generalize stg xs = sg at *
    generalize Nat.gcd S xs.length = G at *
    go_enter Tryz.func9, Tryz.ntmps9
    go_wp2_with fail
    refine hcv.mono ?_
    rintro e w1 ⟨rfl, hb1⟩
    have r0 : w1.cell? ⟨w.heap.size, 0, none⟩ = some (.int .i64 0) := (hb1.cell (by simp)).trans (by go_simp)
    have r1 : w1.cell? ⟨w.heap.size, 1, none⟩ = some (.int .i64 0) := (hb1.cell (by simp)).trans (by go_simp)
    have f0 : w1.frozen? ⟨w.heap.size, 0, none⟩ = false := (hb1.frozen (by simp)).trans (by go_simp)
    have f1 : w1.frozen? ⟨w.heap.size, 1, none⟩ = false := (hb1.frozen (by simp)).trans (by go_simp)
    have hbz := bthen hb0 (Nat.le_refl _) hb1
    have hs1 := hb1.size
    simp at hs1
    have hst1 := HST.out w1 ((hr.below hbz).more hbz.size)
    clear hcv hb1
    go_wp2_with fail
    refine hst1.mono ?_
    rintro e w2 ⟨rfl, hb2⟩
    have r0' := (hb2.cell (p := ⟨w.heap.size, 0, none⟩) (by simp; omega)).trans r0
    have r1' := (hb2.cell (p := ⟨w.heap.size, 1, none⟩) (by simp; omega)).trans r1
    have f0' := (hb2.frozen (p := ⟨w.heap.size, 0, none⟩) (by simp; omega)).trans f0
    have f1' := (hb2.frozen (p := ⟨w.heap.size, 1, none⟩) (by simp; omega)).trans f1
    have hbz2 := bthen hbz (Nat.le_refl _) hb2
    have hs2 := hb2.size
    clear hst1 hb2 r0 r1 f0 f1
    go_wp2_with fail
    refine (HLO.out w2).mono ?_
    rintro e w3 ⟨rfl, hb3⟩
    have r0 := (hb3.cell (p := ⟨w.heap.size, 0, none⟩) (by simp; omega)).trans r0'
    have r1 := (hb3.cell (p := ⟨w.heap.size, 1, none⟩) (by simp; omega)).trans r1'
    have f0 := (hb3.frozen (p := ⟨w.heap.size, 0, none⟩) (by simp; omega)).trans f0'
    have f1 := (hb3.frozen (p := ⟨w.heap.size, 1, none⟩) (by simp; omega)).trans f1'
    have hbz3 := bthen hbz2 (Nat.le_refl _) hb3
    have hs3 := hb3.size
    clear hb3 r0' r1' f0' f1'
    go_wp2_with fail
    refine bodyPost_ret (v := .tuple #[.agg #[.int .i64 ((S / G : Nat) : Int), .int .i64 ((xs.length / G : Nat) : Int)], .int .i64 0]) (by simp [results, Tryz.results9, go_sem, r0, r1, f0, f1]) rfl ⟨ret_fi HP.out, ?_⟩
    repeat' (first | exact hbz3 | (refine Below.setCell ?_ ?_ _) | (refine below_drewN ?_ _) | (simp; done) | (simp; omega))
theorem wkP_no {xs : List TestedD} (h : tcP xs ≠ 0) : wkP xs = (0, tcP xs) := by
  unfold wkP
  rw [if_neg h]
theorem wkP_yes {xs : List TestedD} (h : tcP xs = 0) : wkP xs = (((wkB xs xs.length : Nat) : Int), 0) := by
  unfold wkP
  rw [if_pos h]
theorem wkB_step (xs : List TestedD) {k b : Nat} (hk : k < xs.length) (hb : wkB xs k = b) (hbl : b < xs.length) : wkB xs (k + 1) = if xs[k].1 < xs[b].1 then k else b := by
  unfold wkB
  rw [hb, getD_lt xs _ hk, getD_lt xs _ hbl]
set_option maxRecDepth 100000 in
set_option maxHeartbeats 1600000 in
theorem implWeakestTested_any (A : Option Addr) (c : Nat) (xs : List TestedD) (w : World) (hr : Rd LTested w w.heap.size A c xs) :
    Calls Tryz.prog 10 #[.slice A xs.length c] w fun e w' => e = .returned (.tuple #[.int .i64 (wkP xs).1, .int .i64 (wkP xs).2]) ∧ Below w.heap.size w w' := by
  have hlen := hr.len63
  have hcv := testedCode_any A c xs w hr
  by_cases h0 : tcP xs = 0
  rotate_left
  · have HP := Lib.hid (wkP_no h0)
    have z1 : (tcP xs != 0) = true := by rw [bne_iff_ne]; exact h0
    have z2 : (tcP xs == 0) = false := by rw [beq_eq_false_iff_ne]; exact h0
    clear h0
    rw [HP.out]
    generalize tcP xs = tc at *
    go_enter Tryz.func10, Tryz.ntmps10
    go_wp2_with fail
    refine hcv.mono ?_
    rintro e w1 ⟨rfl, hb1⟩
    go_wp2_with fail
    go_ret2
    exact ⟨rfl, hb1⟩
  · have HP := Lib.hid (wkP_yes h0)
    obtain ⟨hv, hl⟩ := tc_zero h0
    have hl20 := (vt_parts hv).1
    rw [h0] at hcv
    rw [HP.out]
    clear h0 hv
    go_enter Tryz.func10, Tryz.ntmps10
    go_wp2_with fail
    refine hcv.mono ?_
    rintro e w1 ⟨rfl, hb1⟩
    have HB1 := Lib.hid hb1
    have hs1 := hb1.size
    clear hcv hb1
    go_wp2_with fail
    go_loopw [5, 15] (fun b i wr => ∃ (k q : Nat), k ≤ xs.length ∧ i = .int .i64 k ∧ b = .int .i64 q ∧ q < xs.length ∧ Hid (wkB xs k = q) ∧ Hid (Below w1.heap.size w1 wr)) (fun _ i _ => xs.length - (intOf i).toNat)
    case atStart => exact ⟨0, 0, by omega, rfl, rfl, hl, Lib.hid rfl, Lib.hid (Below.refl _ _)⟩
    case round =>
      obtain ⟨k, q, hk, rfl, rfl, hq, HQ, HB⟩ := hrel
      have hsz := HB.out.size
      have hqi : (q : Int) < xs.length := by omega
      by_cases hlt : k < xs.length
      · have hr2 := hr.below (HB1.out.trans (HB.out.mono hs1))
        obtain ⟨ad, rfl, hab, c0, c1⟩ := rdTested hr2 hlt
        obtain ⟨_, e, _, d0, d1⟩ := rdTested hr2 hq
        cases e
        have hki : (k : Int) < xs.length := by omega
        have HW := Lib.hid (wkB_step xs hlt HQ.out hq)
        have hab2 : (ad.add (k * 2)).block < wr.heap.size := by rw [block_of_add]; omega
        have hab3 : (ad.add (q * 2)).block < wr.heap.size := by rw [block_of_add]; omega
        clear hr2
        generalize xs[k].1 = x at *
        generalize xs[k].2 = y at *
        generalize xs[q].1 = z at *
        by_cases hxz : x < z
        · have HW2 := Lib.hid (HW.out.trans (if_pos hxz))
          clear HW
          go_wp2_with fail
          go_quiet (fail)
          go_wp2_with fail
          go_roundw
          case rel => exact ⟨k + 1, k, by omega, by go_num, rfl, by omega, HW2, Lib.hid (by repeat' (first | exact HB.out | (refine below_drewN ?_ _) | exact HB.out.alloc hsz _))⟩
          case measure => simp [intOf]; omega
        · have HW2 := Lib.hid (HW.out.trans (if_neg hxz))
          have hxz2 : z ≤ x := by omega
          clear HW hxz
          go_wp2_with fail
          go_quiet (fail)
          go_wp2_with fail
          go_roundw
          case rel => exact ⟨k + 1, q, by omega, by go_num, rfl, by omega, HW2, Lib.hid (by repeat' (first | exact HB.out | (refine below_drewN ?_ _) | exact HB.out.alloc hsz _))⟩
          case measure => simp [intOf]; omega
      · obtain rfl : k = xs.length := by omega
        go_wp2_with fail
        go_ret2
        exact ⟨by rw [HQ.out]; rfl, bthen HB1.out (Nat.le_refl _) HB.out⟩
set_option maxRecDepth 100000 in
set_option maxHeartbeats 1600000 in
theorem specWeakestTested_any (A : Option Addr) (c : Nat) (xs : List TestedD) (w : World) (hr : Rd LTested w w.heap.size A c xs) :
    Calls Tryz.prog 11 #[.slice A xs.length c] w fun e w' => e = .returned (.tuple #[.int .i64 (wkP xs).1, .int .i64 (wkP xs).2]) ∧ Below w.heap.size w w' := by
  have hlen := hr.len63
  have hcv := l19Some_any A c xs w.heap.size w hr
  by_cases h0 : tcP xs = 0
  rotate_left
  · have HP := Lib.hid (wkP_no h0)
    have z1 : (tcP xs != 0) = true := by rw [bne_iff_ne]; exact h0
    have z2 : (tcP xs == 0) = false := by rw [beq_eq_false_iff_ne]; exact h0
    clear h0
    rw [HP.out]
    generalize tcP xs = tc at *
    go_enter Tryz.func11, Tryz.ntmps11
    go_wp2_with fail
    refine hcv.mono ?_
    rintro e w1 ⟨rfl, rfl⟩
    go_wp2_with fail
    go_ret2
    exact ⟨rfl, Below.refl _ _⟩
  · have HP := Lib.hid (wkP_yes h0)
    obtain ⟨hv, hl⟩ := tc_zero h0
    have hl20 := (vt_parts hv).1
    rw [h0] at hcv
    rw [HP.out]
    clear h0 hv
    go_enter Tryz.func11, Tryz.ntmps11
    go_wp2_with fail
    refine hcv.mono ?_
    rintro e w1 ⟨rfl, rfl⟩
    clear hcv
    go_wp2_with fail
    go_loopw [5, 6] (fun b i wr => ∃ (k q : Nat), 1 ≤ k ∧ k ≤ xs.length ∧ i = .int .i64 k ∧ b = .int .i64 q ∧ q < xs.length ∧ Hid (wkB xs k = q) ∧ Hid (Dr w wr)) (fun _ i _ => xs.length - (intOf i).toNat)
    case atStart => exact ⟨1, 0, by omega, by omega, rfl, rfl, hl, Lib.hid (by unfold wkB wkB; simp), Lib.hid (Dr.refl _)⟩
    case round =>
      obtain ⟨k, q, hk1, hk, rfl, rfl, hq, HQ, HB⟩ := hrel
      have hqi : (q : Int) < xs.length := by omega
      have hki : (k : Int) ≤ xs.length := by omega
      have hr2 : Rd LTested wr wr.heap.size A c xs := (hr.below HB.out.below).more (HB.out.below (B := w.heap.size)).size
      by_cases hlt : k < xs.length
      · obtain ⟨ad, rfl, hab, c0, c1⟩ := rdTested hr2 hlt
        obtain ⟨_, e, _, d0, d1⟩ := rdTested hr2 hq
        cases e
        have hki : (k : Int) < xs.length := by omega
        have HW := Lib.hid (wkB_step xs hlt HQ.out hq)
        clear hr2
        generalize xs[k].1 = x at *
        generalize xs[k].2 = y at *
        generalize xs[q].1 = z at *
        by_cases hxz : x < z
        · have HW2 := Lib.hid (HW.out.trans (if_pos hxz))
          clear HW
          go_wp2_with fail
          go_quiet (fail)
          go_wp2_with fail
          go_roundw
          case rel => exact ⟨k + 1, k, by omega, by omega, by go_num, rfl, by omega, HW2, Lib.hid (HB.out.step _)⟩
          case measure => simp [intOf]; omega
        · have HW2 := Lib.hid (HW.out.trans (if_neg hxz))
          have hxz2 : z ≤ x := by omega
          clear HW hxz
          go_wp2_with fail
          go_quiet (fail)
          go_wp2_with fail
          go_roundw
          case rel => exact ⟨k + 1, q, by omega, by omega, by go_num, rfl, by omega, HW2, Lib.hid (HB.out.step _)⟩
          case measure => simp [intOf]; omega
      · obtain rfl : k = xs.length := by omega
        go_wp2_with fail
        go_ret2
        exact ⟨by rw [HQ.out]; rfl, HB.out.below⟩
set_option maxRecDepth 100000 in
set_option maxHeartbeats 1600000 in
theorem implCountWeak_any (A : Option Addr) (c : Nat) (xs : List TestedD) (s : Int) (w : World) (hr : Rd LTested w w.heap.size A c xs) :
    Calls Tryz.prog 16 #[.slice A xs.length c, .int .i64 s] w fun e w' => e = .returned (.tuple #[.int .i64 (cwP xs s).1, .int .i64 (cwP xs s).2]) ∧ Below w.heap.size w w' := by
  have hlen := hr.len63
  have hcv : Calls Tryz.prog 29 #[.slice A xs.length c] w fun e w' => e = .returned (.bool (vtB xs)) ∧ Below w.heap.size w w' := implValidTested_any A c xs w hr
  cases hv : vtB xs
  · have HP : Hid (cwP xs s = (0, 1)) := Lib.hid (by unfold cwP; rw [if_neg (by rw [hv]; simp)])
    rw [hv] at hcv
    rw [HP.out]
    clear hv
    go_enter Tryz.func16, Tryz.ntmps16
    go_wp2_with fail
    refine hcv.mono ?_
    rintro e w1 ⟨rfl, hb1⟩
    go_wp2_with fail
    go_ret2
    exact ⟨rfl, hb1⟩
  · rw [hv] at hcv
    have hl20 := (vt_parts hv).1
    cases hi : inB s 0 100000
    · have HP : Hid (cwP xs s = (0, 2)) := Lib.hid (by unfold cwP; rw [if_pos hv, if_neg (fun h => by rw [inB_mk h] at hi; cases hi)])
      rw [HP.out]
      clear hv
      go_enter Tryz.func16, Tryz.ntmps16
      go_wp2_with fail
      refine hcv.mono ?_
      rintro e w1 ⟨rfl, hb1⟩
      have HB1 := Lib.hid hb1
      clear hcv hb1
      go_wp2_with (go_at_call 50; refine (within_any _ _ _ _).mono ?_; rintro e w' ⟨rfl, rfl⟩)
      go_ret2
      exact ⟨rfl, HB1.out⟩
    · obtain ⟨i0, i1⟩ := inB_yes hi
      have HP : Hid (cwP xs s = (((cwN xs s xs.length : Nat) : Int), 0)) := Lib.hid (by unfold cwP; rw [if_pos hv, if_pos ⟨i0, i1⟩])
      rw [HP.out]
      clear hv
      go_enter Tryz.func16, Tryz.ntmps16
      go_wp2_with fail
      refine hcv.mono ?_
      rintro e w1 ⟨rfl, hb1⟩
      have HB1 := Lib.hid hb1
      have hs1 := hb1.size
      clear hcv hb1
      go_wp2_with (go_at_call 50; refine (within_any _ _ _ _).mono ?_; rintro e w' ⟨rfl, rfl⟩)
      go_loopw [6, 19] (fun n i wr => ∃ k : Nat, k ≤ xs.length ∧ i = .int .i64 k ∧ n = .int .i64 (cwN xs s k : Nat) ∧ Hid (Below w1.heap.size w1 wr)) (fun _ i _ => xs.length - (intOf i).toNat)
      case atStart => exact ⟨0, by omega, rfl, rfl, Lib.hid (Below.refl _ _)⟩
      case round =>
        obtain ⟨k, hk, rfl, rfl, HB⟩ := hrel
        have hsz := HB.out.size
        have hck := cwN_le xs s k
        by_cases hlt : k < xs.length
        · obtain ⟨ad, rfl, hab, c0, c1⟩ := rdTested (hr.below (HB1.out.trans (HB.out.mono hs1))) hlt
          have hki : (k : Int) < xs.length := by omega
          have HW := Lib.hid (cwN_succ xs s hlt)
          generalize xs[k].1 = x at *
          generalize xs[k].2 = y at *
          by_cases hxz : x < s
          · have HW2 : Hid (cwN xs s (k + 1) = cwN xs s k + 1) := Lib.hid (by rw [HW.out, if_pos hxz])
            clear HW
            generalize cwN xs s k = q at *
            go_wp2_with fail
            go_roundw
            case rel => exact ⟨k + 1, by omega, by go_num, by rw [HW2.out]; go_num, Lib.hid (by repeat' (first | exact HB.out | exact HB.out.alloc hsz _))⟩
            case measure => simp [intOf]; omega
          · have HW2 : Hid (cwN xs s (k + 1) = cwN xs s k) := Lib.hid (by rw [HW.out, if_neg hxz]; omega)
            have hxz2 : s ≤ x := by omega
            clear HW hxz
            generalize cwN xs s k = q at *
            go_wp2_with fail
            go_roundw
            case rel => exact ⟨k + 1, by omega, by go_num, by rw [HW2.out], Lib.hid (by repeat' (first | exact HB.out | exact HB.out.alloc hsz _))⟩
            case measure => simp [intOf]; omega
        · obtain rfl : k = xs.length := by omega
          go_wp2_with fail
          go_ret2
          exact ⟨rfl, bthen HB1.out (Nat.le_refl _) HB.out⟩
set_option maxRecDepth 100000 in
set_option maxHeartbeats 1600000 in
theorem specCountWeak_any (A : Option Addr) (c : Nat) (xs : List TestedD) (s : Int) (w : World) (hr : Rd LTested w w.heap.size A c xs) :
    Calls Tryz.prog 17 #[.slice A xs.length c, .int .i64 s] w fun e w' => e = .returned (.tuple #[.int .i64 (cwP xs s).1, .int .i64 (cwP xs s).2]) ∧ Below w.heap.size w w' := by
  have hlen := hr.len63
  have hcv : Calls Tryz.prog 39 #[.slice A xs.length c] w fun e w' => e = .returned (.bool (vtB xs)) ∧ Below w.heap.size w w' := (l19Ok_any A c xs w.heap.size w hr).mono fun e w' ⟨h1, h2⟩ => ⟨h1, by rw [← h2]; exact Below.refl _ _⟩
  cases hv : vtB xs
  · have HP : Hid (cwP xs s = (0, 1)) := Lib.hid (by unfold cwP; rw [if_neg (by rw [hv]; simp)])
    rw [hv] at hcv
    rw [HP.out]
    clear hv
    go_enter Tryz.func17, Tryz.ntmps17
    go_wp2_with fail
    refine hcv.mono ?_
    rintro e w1 ⟨rfl, hb1⟩
    go_wp2_with fail
    go_ret2
    exact ⟨rfl, hb1⟩
  · rw [hv] at hcv
    have hl20 := (vt_parts hv).1
    cases hi : inB s 0 100000
    · have HP : Hid (cwP xs s = (0, 2)) := Lib.hid (by unfold cwP; rw [if_pos hv, if_neg (fun h => by rw [inB_mk h] at hi; cases hi)])
      rw [HP.out]
      clear hv
      go_enter Tryz.func17, Tryz.ntmps17
      go_wp2_with fail
      refine hcv.mono ?_
      rintro e w1 ⟨rfl, hb1⟩
      have HB1 := Lib.hid hb1
      clear hcv hb1
      go_wp2_with (go_at_call 51; refine (l00In_any _ _ _ _).mono ?_; rintro e w' ⟨rfl, rfl⟩)
      go_ret2
      exact ⟨rfl, HB1.out⟩
    · obtain ⟨i0, i1⟩ := inB_yes hi
      have HP : Hid (cwP xs s = (((cwN xs s xs.length : Nat) : Int), 0)) := Lib.hid (by unfold cwP; rw [if_pos hv, if_pos ⟨i0, i1⟩])
      rw [HP.out]
      clear hv
      go_enter Tryz.func17, Tryz.ntmps17
      go_wp2_with fail
      refine hcv.mono ?_
      rintro e w1 ⟨rfl, hb1⟩
      have HB1 := Lib.hid hb1
      have hs1 := hb1.size
      clear hcv hb1
      go_wp2_with (go_at_call 51; refine (l00In_any _ _ _ _).mono ?_; rintro e w' ⟨rfl, rfl⟩)
      go_loopw [6, 7] (fun n i wr => ∃ k : Nat, k ≤ xs.length ∧ i = .int .i64 k ∧ n = .int .i64 (cwN xs s k : Nat) ∧ Hid (Below w1.heap.size w1 wr)) (fun _ i _ => xs.length - (intOf i).toNat)
      case atStart => exact ⟨0, by omega, rfl, rfl, Lib.hid (Below.refl _ _)⟩
      case round =>
        obtain ⟨k, hk, rfl, rfl, HB⟩ := hrel
        have hsz := HB.out.size
        have hck := cwN_le xs s k
        by_cases hlt : k < xs.length
        · obtain ⟨ad, rfl, hab, c0, c1⟩ := rdTested (hr.below (HB1.out.trans (HB.out.mono hs1))) hlt
          have hki : (k : Int) < xs.length := by omega
          have HW := Lib.hid (cwN_succ xs s hlt)
          generalize xs[k].1 = x at *
          generalize xs[k].2 = y at *
          by_cases hxz : x < s
          · have HW2 : Hid (cwN xs s (k + 1) = cwN xs s k + 1) := Lib.hid (by rw [HW.out, if_pos hxz])
            clear HW
            generalize cwN xs s k = q at *
            go_wp2_with fail
            go_roundw
            case rel => exact ⟨k + 1, by omega, by go_num, by rw [HW2.out]; go_num, Lib.hid (by repeat' (first | exact HB.out | exact HB.out.alloc hsz _))⟩
            case measure => simp [intOf]; omega
          · have HW2 : Hid (cwN xs s (k + 1) = cwN xs s k) := Lib.hid (by rw [HW.out, if_neg hxz]; omega)
            have hxz2 : s ≤ x := by omega
            clear HW hxz
            generalize cwN xs s k = q at *
            go_wp2_with fail
            go_roundw
            case rel => exact ⟨k + 1, by omega, by go_num, by rw [HW2.out], Lib.hid (by repeat' (first | exact HB.out | exact HB.out.alloc hsz _))⟩
            case measure => simp [intOf]; omega
        · obtain rfl : k = xs.length := by omega
          go_wp2_with fail
          go_ret2
          exact ⟨rfl, bthen HB1.out (Nat.le_refl _) HB.out⟩
theorem implSameTested_any (A A2 : Option Addr) (c c2 : Nat) (xs ys : List TestedD) (w : World) (hr : Rd LTested w w.heap.size A c xs) (hr2 : Rd LTested w w.heap.size A2 c2 ys) :
    Calls Tryz.prog 28 #[.slice A xs.length c, .slice A2 ys.length c2] w fun e w' => e = .returned (.bool (allEq eqfTested xs ys)) ∧ Dr w w' := by
  have hc := equalTested_quiet A A2 c c2 xs ys w.heap.size w hr hr2
  have hlen := hr.len63
  have hlen2 := hr2.len63
  generalize allEq eqfTested xs ys = b at *
  go_enter Tryz.func28, Tryz.ntmps28
  go_wp2_with fail
  refine hc.mono ?_
  rintro e w1 ⟨rfl, hb1⟩
  obtain ⟨n, rfl⟩ := hb1
  go_wp2_with fail
  go_ret
  exact ⟨rfl, ⟨n, rfl⟩⟩
set_option maxHeartbeats 1600000 in
theorem specSameTested_any (A A2 : Option Addr) (c c2 : Nat) (xs ys : List TestedD) (w : World) (hr : Rd LTested w w.heap.size A c xs) (hr2 : Rd LTested w w.heap.size A2 c2 ys) :
    Calls Tryz.prog 27 #[.slice A xs.length c, .slice A2 ys.length c2] w fun e w' => e = .returned (.bool (allEq eqfTested xs ys)) ∧ Dr w w' := by
  have hlen := hr.len63
  have hlen2 := hr2.len63
  by_cases hl : xs.length = ys.length
  · have hn : ((xs.length : Int) != (ys.length : Int)) = false := by rw [bne_eq_false_iff_eq]; omega
    have Hl := Lib.hid hl
    clear hl
    go_enter Tryz.func27, Tryz.ntmps27
    go_wp2_with fail
    go_loopw [5] (fun i wr => ∃ k : Nat, k ≤ xs.length ∧ i = .int .i64 k ∧ Hid (allEq eqfTested xs ys = allEq eqfTested (xs.drop k) (ys.drop k)) ∧ Dr w wr) (fun i _ => xs.length - (intOf i).toNat)
    case atStart => exact ⟨0, by omega, rfl, Lib.hid rfl, Dr.refl _⟩
    case round =>
      obtain ⟨k, hk, rfl, Heq, hdr⟩ := hrel
      by_cases hlt : k < xs.length
      · have hlt2 : k < ys.length := by have := Hl.out; omega
        obtain ⟨ad, rfl, hab, hc0, hc1⟩ := rdTested (hr.below hdr.below) hlt
        obtain ⟨ad2, rfl, hab2, hd0, hd1⟩ := rdTested (hr2.below hdr.below) hlt2
        have hk0 : (k : Int) < xs.length := by omega
        have hk2 : (k : Int) < ys.length := by omega
        have HS := Lib.hid (allEq_step eqfTested hlt hlt2)
        have hq := neqTested xs[k] ys[k]
        cases hx : eqfTested xs[k] ys[k]
        · rw [hx] at hq HS
          go_wp2_with fail
          go_quiet (fail)
          go_wp2_with fail
          go_ret
          exact ⟨ret_bool (by rw [Heq.out, HS.out]; rfl), hdr.step _⟩
        · rw [hx] at hq HS
          go_wp2_with fail
          go_quiet (fail)
          go_wp2_with fail
          go_roundw
          case rel => exact ⟨k + 1, by omega, by go_num, Lib.hid (by rw [Heq.out, HS.out]; rfl), hdr.step _⟩
          case measure => simp [intOf]; omega
      · go_wp2_with fail
        go_ret
        exact ⟨ret_bool (by rw [Heq.out, allEq_end _ (by omega) (by have := Hl.out; omega)]), hdr⟩
  · have hn : ((xs.length : Int) != (ys.length : Int)) = true := by rw [bne_iff_ne]; omega
    go_enter Tryz.func27, Tryz.ntmps27
    go_wp2_with fail
    go_ret
    exact ⟨ret_bool (allEq_len hl).symm, Dr.refl _⟩
end Go.Proofs.YtehmghlhljocbaaGreatDoor
