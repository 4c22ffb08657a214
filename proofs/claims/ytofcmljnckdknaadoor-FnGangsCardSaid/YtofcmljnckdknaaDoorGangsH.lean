/-
  Gangs: AddHand.
-/
import Derived.Test.YtofcmljnckdknaaDoorGangsC
import Derived.Test.YtofcmljnckdknaaDoorClone
import Derived.Test.YtofcmljnckdknaaDoorSteps
import Derived.Lib.SliceRun
import Derived.Deep.QuietTactic
import Derived.BigQuiet
namespace Go.Proofs.YtofcmljnckdknaaDoor
open Go.ChangeShapes Go.WideShapes Go.RowKit

def ahP (xs : List HandD) (h : HandD) : List HandD × Int := if gangB xs = true then (if hdOk h = true then (if dupB xs h.1 = true then ([], 4) else if xs.length = 20 then ([], 5) else (xs ++ [h], 0)) else ([], 2)) else ([], 1)
theorem ahP_len (xs : List HandD) (h : HandD) : (ahP xs h).1.length ≤ 1048576 := by
  unfold ahP
  split
  · rename_i hv
    have := gang_len hv
    split
    · split
      · simp
      · split
        · simp
        · simp; omega
    · simp
  · simp
theorem ret_hi {A : Option Addr} {c : Nat} {xs : List HandD} {a : Int} {p : List HandD × Int} (h : p = (xs, a)) : Ending.returned (.tuple #[.slice A xs.length c, .int .i64 a]) = .returned (.tuple #[.slice A p.1.length c, .int .i64 p.2]) := by rw [h]

theorem cloneHand_any (A : Option Addr) (c : Nat) (xs : List HandD) (B : Nat) (w : World) (hr : Rd LHand w B A c xs) (hB : B ≤ w.heap.size) (hn : xs.length * 32 ≤ 140737488355328) :
    Calls Tryd.prog 40 #[.slice A xs.length c] w fun e w' => ∃ A' c', e = .returned (.slice A' xs.length c') ∧ Own LHand 26 w' w.heap.size A' c' xs ∧ Below w.heap.size w w' := by
  have hlen := hr.len63
  cases A with
  | none =>
    obtain rfl := hr.none_len
    have hq := fun W : World => Lib.run_eql_slice_nil (P := Tryd.prog) W 24 26 none 0 c 0 0 Tryd.underlying24
    go_enter Tryd.func40, Tryd.ntmps40
    go_wp2_with fail
    go_ret
    exact ⟨none, 0, rfl, Own.none_, Below.refl _ _⟩
  | some ad =>
    have hfl := Lib.hid ((hr.alloc hB (.cells #[] 26)).flat ad rfl)
    have hq := fun W : World => Lib.run_eql_slice_nil (P := Tryd.prog) W 24 26 (some ad) xs.length c 0 0 Tryd.underlying24
    go_enter Tryd.func40, Tryd.ntmps40
    go_wp2_with (at_builtin; go_loud (refine wpL_app (L := LHand) rowHand rfl rfl _ _ rfl rfl (Own.lit0 w (Nat.le_refl _) rfl) (some ad) xs.length c xs rfl rfl (fun h => by cases h) (fun ad' e => by cases e; exact hfl.out) (by unfold maxLen; simp; omega) (by simp; omega) (by simp) ?_); intro A4 c4 w4 ho4 hg4)
    go_ret
    refine ⟨A4, c4, by simp, by simpa using ho4, Grew.below ((Below.refl _ w).alloc (Nat.le_refl _) _) hg4 (by simp) fun g hg => ?_⟩
    simp [blk] at hg
    omega

set_option maxRecDepth 100000 in
set_option maxHeartbeats 3200000 in
theorem implAddHand_any (A : Option Addr) (c : Nat) (xs : List HandD) (f0 : ByteArray) (f1 : Int) (f2 : Bool) (w : World) (hr : Rd LHand w w.heap.size A c xs) (hok : ∀ n ∈ xs, OkHand n) (hok1 : OkHand (f0, f1, f2)) :
    Calls Tryd.prog 6 #[.slice A xs.length c, .agg #[.string f0, .int .i64 f1, .bool f2]] w fun e w' => ∃ B d, e = .returned (.tuple #[.slice B (ahP xs (f0, f1, f2)).1.length d, .int .i64 (ahP xs (f0, f1, f2)).2]) ∧ Own LHand 26 w' w.heap.size B d (ahP xs (f0, f1, f2)).1 ∧ Below w.heap.size w w' := by
  have hlen := hr.len63
  have hb0 : Below w.heap.size w (w.alloc (.cells #[.string f0, .int .i64 f1, .bool f2] 26)) := (Below.refl _ w).alloc (Nat.le_refl _) _
  have hcg := implValidGang_any A c xs (w.alloc (.cells #[.string f0, .int .i64 f1, .bool f2] 26)) (hr.al _) hok
  cases hv : gangB xs
  · have HP : Hid (ahP xs (f0, f1, f2) = ([], 1)) := Lib.hid (by simp [ahP, hv])
    rw [HP.out]
    rw [hv] at hcg
    go_enter Tryd.func6, Tryd.ntmps6
    go_wp2_with fail
    refine hcg.mono ?_
    rintro e w1 ⟨rfl, hc1⟩
    go_wp2_with fail
    go_ret2
    exact ⟨none, 0, rfl, Own.none_, bthen hb0 (Nat.le_refl _) hc1⟩
  · rw [hv] at hcg
    have hl20 := gang_len hv
    have hI := fun W => isHand_any f0 f1 f2 hok1.1 W
    cases hh : hdOk (f0, f1, f2)
    · have HP : Hid (ahP xs (f0, f1, f2) = ([], 2)) := Lib.hid (by simp [ahP, hv, hh])
      rw [HP.out]
      simp only [hh] at hI
      go_enter Tryd.func6, Tryd.ntmps6
      go_wp2_with fail
      refine hcg.mono ?_
      rintro e w1 ⟨rfl, hc1⟩
      have hb1 := bthen hb0 (Nat.le_refl _) hc1
      have q0 : w1.cell? ⟨w.heap.size, 0, none⟩ = some (.string f0) := (hc1.cell (by simp)).trans (by go_simp)
      have q1 : w1.cell? ⟨w.heap.size, 1, none⟩ = some (.int .i64 f1) := (hc1.cell (by simp)).trans (by go_simp)
      have q2 : w1.cell? ⟨w.heap.size, 2, none⟩ = some (.bool f2) := (hc1.cell (by simp)).trans (by go_simp)
      go_wp2_with fail
      refine (hI _).mono ?_
      rintro e w2 ⟨rfl, hc2⟩
      go_wp2_with fail
      go_ret2
      exact ⟨none, 0, rfl, Own.none_, bthen hb1 (Nat.le_refl _) hc2⟩
    · simp only [hh] at hI
      go_enter Tryd.func6, Tryd.ntmps6
      go_wp2_with fail
      refine hcg.mono ?_
      rintro e w1 ⟨rfl, hc1⟩
      have hb1 := bthen hb0 (Nat.le_refl _) hc1
      have q0 : w1.cell? ⟨w.heap.size, 0, none⟩ = some (.string f0) := (hc1.cell (by simp)).trans (by go_simp)
      have q1 : w1.cell? ⟨w.heap.size, 1, none⟩ = some (.int .i64 f1) := (hc1.cell (by simp)).trans (by go_simp)
      have q2 : w1.cell? ⟨w.heap.size, 2, none⟩ = some (.bool f2) := (hc1.cell (by simp)).trans (by go_simp)
      have hs1 := hc1.size
      simp at hs1
      go_wp2_with fail
      refine (hI _).mono ?_
      rintro e w2 ⟨rfl, hc2⟩
      have hb2 := bthen hb1 (Nat.le_refl _) hc2
      have hs2 := hc2.size
      have q0' := (hc2.cell (p := ⟨w.heap.size, 0, none⟩) (by simp; omega)).trans q0
      have q1' := (hc2.cell (p := ⟨w.heap.size, 1, none⟩) (by simp; omega)).trans q1
      have q2' := (hc2.cell (p := ⟨w.heap.size, 2, none⟩) (by simp; omega)).trans q2
      clear q0 q1 q2
      go_wp2_with fail
      have hH := hasHand_any A c xs f0 w2.heap.size w2 (Nat.le_refl _) ((hr.below hb2).more hb2.size)
      refine hH.mono ?_
      rintro e w3 ⟨rfl, hc3⟩
      clear hH
      have hb3 := bthen hb2 (Nat.le_refl _) hc3
      have hs3 := hc3.size
      have p0 := (hc3.cell (p := ⟨w.heap.size, 0, none⟩) (by simp; omega)).trans q0'
      have p1 := (hc3.cell (p := ⟨w.heap.size, 1, none⟩) (by simp; omega)).trans q1'
      have p2 := (hc3.cell (p := ⟨w.heap.size, 2, none⟩) (by simp; omega)).trans q2'
      have kl : w.heap.size < w3.heap.size := by omega
      clear q0' q1' q2'
      cases hd : dupB xs f0
      · by_cases hl : xs.length = 20
        · have HP : Hid (ahP xs (f0, f1, f2) = ([], 5)) := Lib.hid (by simp [ahP, hv, hh, hd, hl])
          have hlz : ((xs.length : Int) == 20) = true := by simp; omega
          clear hl
          go_wp2_with fail
          go_ret2
          exact ⟨none, 0, ret_hi HP.out, by rw [HP.out]; exact Own.none_, hb3⟩
        · have HP : Hid (ahP xs (f0, f1, f2) = (xs ++ [(f0, f1, f2)], 0)) := Lib.hid (by simp [ahP, hv, hh, hd, hl])
          have hlz : ((xs.length : Int) == 20) = false := by simp; omega
          have hcl := fun W h1 h2 => cloneHand_any A c xs w.heap.size W h1 h2 (by omega)
          have hrW := hr.below hb3
          clear hl
          go_wp2_with fail
          go_region_held3 (fun W => W.cell? ⟨w.heap.size, 0, none⟩ = some (.string f0) ∧ W.cell? ⟨w.heap.size, 1, none⟩ = some (.int .i64 f1) ∧ W.cell? ⟨w.heap.size, 2, none⟩ = some (.bool f2))
            (first | go_keep | (go_split_ands; refine ⟨?_, ?_, ?_⟩ <;> (refine (hc4.cell ?_).trans ?_; (focus (simp <;> omega)); assumption)) | (go_split_ands; refine ⟨?_, ?_, ?_⟩ <;> (refine (hg5.cell _ ?_ ?_).trans ?_; (focus (simp <;> omega)); (focus (intro e; have := hl4 _ e; simp at this; omega)); assumption)))
            ((first
              | (go_at_call 40; (with_reducible refine (hcl _ hrW.drew (by simp <;> omega)).mono ?_); rintro e w4 ⟨A4, c4, rfl, ho4, hc4⟩; have hb4 := bthen hb3.drew (Nat.le_refl _) hc4; have hs4 := hc4.size; (try simp at hs4); have hl4 := ho4.blk_lt; (try simp at hl4))
              | (go_at_call 40; (with_reducible refine (hcl _ (hrW.alloc (by omega) _).drew (by simp <;> omega)).mono ?_); rintro e w4 ⟨A4, c4, rfl, ho4, hc4⟩; have hb4 := bthen (hb3.alloc (by omega) _).drew (Nat.le_refl _) hc4; have hs4 := hc4.size; (try simp at hs4); have hl4 := ho4.blk_lt; (try simp at hl4); have hcB : ∀ j v, (LHand.f (f0, f1, f2))[j]? = some v → w4.cell? ⟨w3.heap.size, j, none⟩ = some v := (by intro j v hv; have h := hc4.cell (p := ⟨w3.heap.size, j, none⟩) (by simp); rw [h]; show (w3.alloc _).cell? _ = _; rw [World.cell?_alloc_at (hn := rfl)]; simpa [LHand] using hv))
              | (refine stepL_app1 (L := LHand) rowHand rfl rfl _ _ rfl rfl (ho4.alloc _) (f0, f1, f2) rfl ?_ (by unfold maxLen; omega) (by omega) (by simp; omega) ?_; (focus (intro j v hv; rw [World.cell?_alloc_at (hn := rfl)]; simpa [LHand] using hv)); intro A5 c5 w5 ho5 hg5; have hbz := Grew.below (hb4.alloc (by omega) _) hg5 (by simp; omega) (fun g hg => by have := hl4 g hg; omega))
              | (refine stepL_app1 (L := LHand) rowHand rfl rfl _ _ rfl rfl ho4 (f0, f1, f2) rfl hcB (by unfold maxLen; omega) (by omega) (by simp <;> omega) ?_; intro A5 c5 w5 ho5 hg5; have hbz := Grew.below hb4 hg5 (by omega) (fun g hg => by have := hl4 g hg; omega))))
          all_goals
            go_wp2_with fail
            go_ret2
            exact ⟨A5, c5, by rw [HP.out]; simp, by rw [HP.out]; exact ho5.lower (by simp <;> omega), hbz⟩
      · have HP : Hid (ahP xs (f0, f1, f2) = ([], 4)) := Lib.hid (by simp [ahP, hv, hh, hd])
        go_wp2_with fail
        go_ret2
        exact ⟨none, 0, ret_hi HP.out, by rw [HP.out]; exact Own.none_, hb3⟩

set_option maxHeartbeats 3200000 in
theorem specAddHand_any (A : Option Addr) (c : Nat) (xs : List HandD) (f0 : ByteArray) (f1 : Int) (f2 : Bool) (w : World) (hr : Rd LHand w w.heap.size A c xs) (hok : ∀ n ∈ xs, OkHand n) (hok1 : OkHand (f0, f1, f2)) :
    Calls Tryd.prog 7 #[.slice A xs.length c, .agg #[.string f0, .int .i64 f1, .bool f2]] w fun e w' => ∃ B d, e = .returned (.tuple #[.slice B (ahP xs (f0, f1, f2)).1.length d, .int .i64 (ahP xs (f0, f1, f2)).2]) ∧ Own LHand 26 w' w.heap.size B d (ahP xs (f0, f1, f2)).1 ∧ Below w.heap.size w w' := by
  have hlen := hr.len63
  have hb0 : Below w.heap.size w (w.alloc (.cells #[.string f0, .int .i64 f1, .bool f2] 26)) := (Below.refl _ w).alloc (Nat.le_refl _) _
  have hcg := l23Ok_any A c xs w.heap.size (w.alloc (.cells #[.string f0, .int .i64 f1, .bool f2] 26)) (hr.below hb0) hok
  cases hv : gangB xs
  · have HP : Hid (ahP xs (f0, f1, f2) = ([], 1)) := Lib.hid (by simp [ahP, hv])
    rw [HP.out]
    rw [hv] at hcg
    go_enter Tryd.func7, Tryd.ntmps7
    go_wp2_with fail
    refine hcg.mono ?_
    rintro e w1 ⟨rfl, hd⟩
    have hb1 := hb0.trans (hd.below (B := w.heap.size))
    clear hd
    go_wp2_with fail
    go_ret2
    exact ⟨none, 0, rfl, Own.none_, hb1⟩
  · rw [hv] at hcg
    have hl20 := gang_len hv
    go_enter Tryd.func7, Tryd.ntmps7
    go_wp2_with fail
    refine hcg.mono ?_
    rintro e w1 ⟨rfl, hd⟩
    have hb1 := hb0.trans (hd.below (B := w.heap.size))
    have q0 : w1.cell? ⟨w.heap.size, 0, none⟩ = some (.string f0) := by obtain ⟨m, rfl⟩ := hd; go_simp
    have q1 : w1.cell? ⟨w.heap.size, 1, none⟩ = some (.int .i64 f1) := by obtain ⟨m, rfl⟩ := hd; go_simp
    have q2 : w1.cell? ⟨w.heap.size, 2, none⟩ = some (.bool f2) := by obtain ⟨m, rfl⟩ := hd; go_simp
    have kl : w.heap.size < w1.heap.size := by obtain ⟨m, rfl⟩ := hd; simp
    have hI := l23One_any f0 f1 ⟨w.heap.size, 0, none⟩ hok1.1 w1 q0 q1 f2
    clear hcg hd
    cases hh : hdOk (f0, f1, f2)
    · have HP : Hid (ahP xs (f0, f1, f2) = ([], 2)) := Lib.hid (by simp [ahP, hv, hh])
      rw [hh] at hI
      go_wp2_with fail
      refine hI.mono ?_
      rintro e w2 ⟨rfl, rfl⟩
      go_wp2_with fail
      go_ret2
      exact ⟨none, 0, ret_hi HP.out, by rw [HP.out]; exact Own.none_, hb1⟩
    · rw [hh] at hI
      have Hv := Lib.hid hv
      have Hh := Lib.hid hh
      clear hv hh
      go_wp2_with fail
      refine hI.mono ?_
      rintro e w2 ⟨rfl, rfl⟩
      clear hI
      go_wp2_with fail
      go_loopw [6] (fun i wr => ∃ k : Nat, k ≤ xs.length ∧ i = .int .i64 k ∧ Hid (dupB (xs.take k) f0 = false) ∧ Dr w1 wr) (fun i _ => xs.length - (intOf i).toNat)
      case atStart => exact ⟨0, by omega, rfl, Lib.hid rfl, Dr.refl _⟩
      case round =>
        obtain ⟨k, hk, rfl, Hno, hdr⟩ := hrel
        have p0 : wr.cell? ⟨w.heap.size, 0, none⟩ = some (.string f0) := by obtain ⟨m, rfl⟩ := hdr; simpa using q0
        have p1 : wr.cell? ⟨w.heap.size, 1, none⟩ = some (.int .i64 f1) := by obtain ⟨m, rfl⟩ := hdr; simpa using q1
        have p2 : wr.cell? ⟨w.heap.size, 2, none⟩ = some (.bool f2) := by obtain ⟨m, rfl⟩ := hdr; simpa using q2
        have hbr := hb1.trans (hdr.below (B := w.heap.size))
        by_cases hlt : k < xs.length
        · obtain ⟨ad, rfl, hab, e0, e1, e2⟩ := rdHand (hr.below hbr) hlt
          have hk0 : (k : Int) < xs.length := by omega
          have HS := Lib.hid (dup_snoc hlt f0)
          have HX := Lib.hid (fun h => dup_hit (k := xs.length) hlt (Nat.le_refl _) f0 h)
          cases h3 : strEq xs[k].1 f0
          · have HE : Hid (dupB (xs.take (k + 1)) f0 = false) := Lib.hid (by rw [HS.out, Hno.out, h3]; rfl)
            have h4 : (xs[k].1.toList == f0.toList) = false := h3
            clear h3
            go_wp2_with fail
            go_quiet (fail)
            go_wp2_with fail
            go_roundw
            case rel => exact ⟨k + 1, by omega, by go_num, HE, hdr.step _⟩
            case measure => simp [intOf]; omega
          · have HP : Hid (ahP xs (f0, f1, f2) = ([], 4)) := Lib.hid (by
              have := HX.out h3
              rw [List.take_of_length_le (Nat.le_refl _)] at this
              simp [ahP, Hv.out, Hh.out, this])
            have h4 : (xs[k].1.toList == f0.toList) = true := h3
            clear h3
            go_wp2_with fail
            go_quiet (fail)
            go_wp2_with fail
            go_ret2
            exact ⟨none, 0, ret_hi HP.out, by rw [HP.out]; exact Own.none_, below_drewN hbr _⟩
        · have hd0 : dupB xs f0 = false := by have := Hno.out; rw [List.take_of_length_le (by omega)] at this; exact this
          by_cases hl : xs.length = 20
          · have HP : Hid (ahP xs (f0, f1, f2) = ([], 5)) := Lib.hid (by simp [ahP, Hv.out, Hh.out, hd0, hl])
            have hlz : (20 : Int) ≤ xs.length := by omega
            have hkz : ¬ (k : Int) < xs.length := by omega
            clear hl hd0 hlt
            go_wp2_with fail
            go_ret2
            exact ⟨none, 0, ret_hi HP.out, by rw [HP.out]; exact Own.none_, hbr⟩
          · have HP : Hid (ahP xs (f0, f1, f2) = (xs ++ [(f0, f1, f2)], 0)) := Lib.hid (by simp [ahP, Hv.out, Hh.out, hd0, hl])
            have hlz : (xs.length : Int) < 20 := by omega
            have klr : w.heap.size < wr.heap.size := by have := hdr.below (B := w1.heap.size); have := this.size; omega
            have hrW := hr.below hbr
            clear hl hd0
            cases A with
            | none =>
              obtain rfl := hr.none_len
              go_wp2_with (first
                | (at_builtin; refine wpL_app0 (L := LHand) (o := ⟨some 32, _, _, _, _, _⟩) rowHand rfl _ _ rfl rfl (Own.lit0 wr (Nat.le_refl _) rfl) c rfl ?_)
                | (at_builtin; refine wpL_app1 (L := LHand) (o := ⟨some 36, _, _, _, _, _⟩) rowHand rfl rfl _ _ rfl rfl (Own.lit0 wr (Nat.le_refl _) rfl) (f0, f1, f2) _ rfl rfl (by simp) (by unfold maxLen; simp) (by simp) (by simp) ?_; intro A5 c5 w5 ho5 hg5))
              go_ret2
              refine ⟨A5, c5, by rw [HP.out]; rfl, by rw [HP.out]; exact ho5.lower hbr.size, Grew.below (hbr.alloc hbr.size _) hg5 (by simp; omega) fun g hg => ?_⟩
              simp [blk] at hg
              omega
            | some ad =>
              have hfl := Lib.hid ((hrW.alloc hbr.size (.cells #[] 26)).flat ad rfl)
              go_wp2_with (first
                | (at_builtin; refine wpL_app (L := LHand) (o := ⟨some 32, _, _, _, _, _⟩) rowHand rfl rfl _ _ rfl rfl (Own.lit0 wr (Nat.le_refl _) rfl) (some ad) xs.length c xs rfl rfl (fun h => by cases h) (fun ad' e => by cases e; exact hfl.out) (by unfold maxLen; simp; omega) (by simp; omega) (by simp) ?_; intro A4 c4 w4 ho4 hg4; have hb4 := Grew.below (hbr.alloc hbr.size (.cells #[] 26)) hg4 (by simp; omega) (fun g hg => by simp [blk] at hg; omega); have p0' := (hg4.cell ⟨w.heap.size, 0, none⟩ (by simp; omega) (by simp [blk]; omega)).trans (show _ = some (Value.string f0) by go_simp); have p1' := (hg4.cell ⟨w.heap.size, 1, none⟩ (by simp; omega) (by simp [blk]; omega)).trans (show _ = some (Value.int .i64 f1) by go_simp); have p2' := (hg4.cell ⟨w.heap.size, 2, none⟩ (by simp; omega) (by simp [blk]; omega)).trans (show _ = some (Value.bool f2) by go_simp); have hs4 := hg4.size; simp at hs4; have hl4 := ho4.blk_lt)
                | (at_builtin; refine wpL_app1 (L := LHand) (o := ⟨some 36, _, _, _, _, _⟩) rowHand rfl rfl _ _ rfl rfl ho4 (f0, f1, f2) _ rfl rfl (by simp) (by unfold maxLen; simp; omega) (by simp; omega) (by omega) ?_; intro A5 c5 w5 ho5 hg5))
              go_ret2
              refine ⟨A5, c5, by rw [HP.out]; simp, by rw [HP.out]; simpa using ho5.lower hbr.size, Grew.below hb4 hg5 (by omega) fun g hg => ?_⟩
              have := (hl4 g hg).1
              omega
end Go.Proofs.YtofcmljnckdknaaDoor
