/-
  BaysFor: the reference.
-/
import Derived.Test.YtamhkiakplmlmaaRises
import Derived.Test.YtamhkiakplmlmaaBaysPlain2
import Derived.Test.YtamhkiakplmlmaaSteps
namespace Go.Proofs.Ytamhkiakplmlmaa
open Go.ChangeShapes Go.WideShapes Go.RowKit

theorem rowN : TyRow Try.prog 54 3 (.int .i64 0) LI.sz 8 := ⟨Try.underlying54, by kernel_rfl⟩

noncomputable def bfP (len : Int) (xs : List Int) : List Int × Int :=
  if inB len 500 20000 = true ∧ risB 500 3000 xs = true ∧ inB xs.length 1 5 = true then
    (if (bF (stepsOf xs) ((len + 49) / 50).toNat).1 > 20 then ([], 5) else (bOut xs (bF (stepsOf xs) ((len + 49) / 50).toNat).1.toNat ((len + 49) / 50).toNat, 0))
  else ([], 2)
theorem bfP_len (len : Int) (xs : List Int) : (bfP len xs).1.length ≤ 1048576 := by
  unfold bfP
  split
  · split
    · simp
    · simp only [bOut_len]; omega
  · simp

set_option maxRecDepth 100000 in
set_option maxHeartbeats 6400000 in
theorem specBaysFor_any (len : Int) (A : Option Addr) (c : Nat) (xs : List Int) (w : World) (hr : Rd LI w w.heap.size A c xs) :
    Calls Try.prog 7 #[.int .i64 len, .slice A xs.length c] w fun e w' => ∃ A' c', e = .returned (.tuple #[.slice A' (bfP len xs).1.length c', .int .i64 (bfP len xs).2]) ∧ Own LI 2 w' w.heap.size A' c' (bfP len xs).1 ∧ Below w.heap.size w w' := by
  have hlen := hr.len63
  cases hi : inB len 500 20000
  · have HP : Hid (bfP len xs = ([], 2)) := Lib.hid (by simp [bfP, hi])
    rw [HP.out]
    have hin := fun W => l00In_any len 500 20000 W
    rw [hi] at hin
    clear hi HP hr
    go_enter Try.func7, Try.ntmps7
    go_wp2_with fail
    refine (hin _).mono ?_
    rintro e w2 ⟨rfl, rfl⟩
    go_wp2_with fail
    go_ret2
    exact ⟨none, 0, rfl, Own.none_, Below.refl _ _⟩
  have hin := fun W => l00In_any len 500 20000 W
  rw [hi] at hin
  have hrs := l00Rises_any A c xs 500 3000 _ w hr
  cases hri : risB 500 3000 xs
  · have HP : Hid (bfP len xs = ([], 2)) := Lib.hid (by simp [bfP, hri])
    rw [HP.out]
    rw [hri] at hrs
    clear hi HP hr hri
    go_enter Try.func7, Try.ntmps7
    go_wp2_with fail
    refine (hin _).mono ?_
    rintro e w2 ⟨rfl, rfl⟩
    go_wp2_with fail
    refine hrs.mono ?_
    rintro e w2 ⟨rfl, hd⟩
    go_wp2_with fail
    go_ret2
    exact ⟨none, 0, rfl, Own.none_, hd.below⟩
  rw [hri] at hrs
  have hin2 := fun W => l00In_any xs.length 1 5 W
  cases hn5 : inB xs.length 1 5
  · have HP : Hid (bfP len xs = ([], 2)) := Lib.hid (by simp [bfP, hn5])
    rw [HP.out]
    rw [hn5] at hin2
    clear hi HP hr hri hn5
    go_enter Try.func7, Try.ntmps7
    go_wp2_with fail
    refine (hin _).mono ?_
    rintro e w2 ⟨rfl, rfl⟩
    go_wp2_with fail
    refine hrs.mono ?_
    rintro e w2 ⟨rfl, hd⟩
    go_wp2_with fail
    refine (hin2 _).mono ?_
    rintro e w3 ⟨rfl, rfl⟩
    go_wp2_with fail
    go_ret2
    exact ⟨none, 0, rfl, Own.none_, hd.below⟩
  rw [hn5] at hin2
  have hl5 := inB_yes hn5
  obtain ⟨hl1, hl2⟩ := inB_yes hi
  have HZ : Hid (Szs xs) := Lib.hid ⟨dB_true hri, by omega, by omega⟩
  obtain ⟨N, hN⟩ : ∃ N : Nat, (len + 49) / 50 = (N : Int) := ⟨((len + 49) / 50).toNat, by omega⟩
  have hN1 : 10 ≤ N := by omega
  have hN2 : N ≤ 400 := by omega
  obtain ⟨FIN, hFIN⟩ : ∃ F, F = bfP len xs := ⟨_, rfl⟩
  have HFIN : Hid (FIN = if (bF (stepsOf xs) N).1 > 20 then ([], 5) else (bOut xs (bF (stepsOf xs) N).1.toNat N, 0)) := Lib.hid (by
    rw [hFIN]
    unfold bfP
    rw [if_pos ⟨hi, hri, hn5⟩, hN]
    rfl)
  rw [← hFIN]
  have hl0 : 1 ≤ xs.length := by omega
  have hl6 : xs.length ≤ 5 := by omega
  clear hFIN hi hri hn5 hl5
  have hw1 : (N : Int) + 1 = ((N + 1 : Nat) : Int) := by omega
  go_enter Try.func7, Try.ntmps7
  go_wp2_with fail
  refine (hin _).mono ?_
  rintro e w2 ⟨rfl, rfl⟩
  go_wp2_with fail
  refine hrs.mono ?_
  rintro e w0 ⟨rfl, hd⟩
  have hb0 : Below w.heap.size w w0 := hd.below
  have HW1 := Lib.hid hw1
  clear hd hrs hw1
  go_wp2_with fail
  refine (hin2 _).mono ?_
  rintro e w2 ⟨rfl, rfl⟩
  clear hin hin2
  go_wp2_with (first | (at_make; refine wpL_make (o := ⟨some 37, _, _, _, _, _⟩) (L := LI) rowI rfl _ _ rfl .i64 .i64 _ _ (N + 1) rfl rfl HW1.out HW1.out (by omega) (by unfold maxLen; omega) 0 rfl ?_; intro w1 hF hb1) | (at_make; refine wpL_make (o := ⟨some 40, _, _, _, _, _⟩) (L := LI) rowI rfl _ _ rfl .i64 .i64 _ _ (N + 1) rfl rfl HW1.out HW1.out (by omega) (by unfold maxLen; omega) 0 rfl ?_; intro w2 hO hb2) | (at_make; refine wpL_make (o := ⟨some 43, _, _, _, _, _⟩) (L := LI) rowN rfl _ _ rfl .i64 .i64 _ _ (N + 1) rfl rfl HW1.out HW1.out (by omega) (by unfold maxLen; omega) 0 rfl ?_; intro w3 hP hb3))
  have z0 := hb0.size
  have z1 := hb1.size
  have z2 := hb2.size
  have z3 := hb3.size
  have q1 : w0.heap.size < w1.heap.size := (hF.blk_lt _ rfl).2
  have q2 : w1.heap.size < w2.heap.size := (hO.blk_lt _ rfl).2
  have q3 : w2.heap.size < w3.heap.size := (hP.blk_lt _ rfl).2
  have HF3 := Lib.hid (((hF.below hb2).below hb3).lower (b := w.heap.size) z0)
  have HO3 := Lib.hid ((hO.below hb3).lower (b := w.heap.size) (by omega))
  have HP3 := Lib.hid (hP.lower (b := w.heap.size) (by omega))
  have HB3 := Lib.hid (bthen (bthen (bthen hb0 (Nat.le_refl _) hb1) (by omega) hb2) (by omega) hb3)
  clear hF hO hP hb0 hb1 hb2 hb3
  generalize w0.heap.size = gF at *
  generalize w1.heap.size = gO at *
  generalize w2.heap.size = gP at *
  have n1 : ¬ gF = gO := by omega
  have n2 : ¬ gF = gP := by omega
  have n3 : ¬ gO = gP := by omega
  have n4 : ¬ gO = gF := by omega
  have n5 : ¬ gP = gF := by omega
  have n6 : ¬ gP = gO := by omega
  clear z1 z2 z3
  go_loopw [10] (fun i wr => ∃ (n : Nat) (F O P : List Int), i = .int .i64 n ∧ 1 ≤ n ∧ n ≤ N + 1 ∧ Hid (TabR xs N n F O P) ∧ Hid (Own LI 2 wr w.heap.size (some ⟨gF, 0, none⟩) (N + 1) F) ∧ Hid (Own LI 2 wr w.heap.size (some ⟨gO, 0, none⟩) (N + 1) O) ∧ Hid (Own LI 3 wr w.heap.size (some ⟨gP, 0, none⟩) (N + 1) P) ∧ Hid (Below w.heap.size w wr)) (fun i _ => N + 1 - (intOf i).toNat)
  case atStart => exact ⟨1, _, _, _, rfl, by omega, by omega, Lib.hid (TabR.start xs N), HF3, HO3, HP3, HB3⟩
  case round =>
    obtain ⟨n, F, O, P, rfl, hn1, hnN, HT, HF, HO, HP, HB⟩ := hrel
    clear HF3 HO3 HP3 HB3 q3
    by_cases hlt : n ≤ N
    · have hlt0 : (n : Int) ≤ N := by omega
      go_wp2_with fail
      obtain ⟨wq, hwq⟩ : ∃ wq : World, wq = wr := ⟨_, rfl⟩
      go_loopw [11] (fun i wr => ∃ (k : Nat) (F O P : List Int), i = .int .i64 k ∧ k ≤ xs.length ∧ Hid (RowR xs N n k F O P) ∧ Hid (Own LI 2 wr w.heap.size (some ⟨gF, 0, none⟩) (N + 1) F) ∧ Hid (Own LI 2 wr w.heap.size (some ⟨gO, 0, none⟩) (N + 1) O) ∧ Hid (Own LI 3 wr w.heap.size (some ⟨gP, 0, none⟩) (N + 1) P) ∧ Hid (Below w.heap.size w wr)) (fun i _ => xs.length - (intOf i).toNat)
      case atStart => exact ⟨0, F, O, P, rfl, by omega, Lib.hid (RowR.start HT.out), HF, HO, HP, HB⟩
      case round =>
        clear HT HF HO HP HB hwq
        obtain ⟨k, F, O, P, rfl, hk0, HR, HF, HO, HP, HB⟩ := hrel
        by_cases hk : k < xs.length
        · have hki : (k : Int) < xs.length := by omega
          obtain ⟨ad, rfl, hab, hcx⟩ := (hr.below HB.out).int hk
          obtain ⟨x1, x2⟩ := HZ.out.at_ hk
          obtain ⟨x, hx⟩ : ∃ x, x = xs[k] := ⟨_, rfl⟩
          rw [← hx] at hcx x1 x2
          obtain ⟨a, ha⟩ : ∃ a, x / 50 = a := ⟨_, rfl⟩
          have a1 : 10 ≤ a := by omega
          have a2 : a ≤ 60 := by omega
          have HA : Hid (a = xs[k] / 50) := Lib.hid (by rw [← hx]; exact ha.symm)
          clear hx
          obtain ⟨rest, hrst⟩ : ∃ rest, rest = bR n a := ⟨_, rfl⟩
          have hrest : max 0 ((n : Int) - a) = (rest : Int) := by rw [hrst]; unfold bR; omega
          have hrn : rest < n := by rw [hrst]; unfold bR; omega
          have HRST : Hid (rest = bR n (xs[k] / 50)) := Lib.hid (by rw [← HA.out]; exact hrst)
          clear hrst
          have hmx := fun W => l00Max_any 0 ((n : Int) - a) W
          rw [hrest] at hmx
          clear hrest
          have LF := Lib.hid HR.out.tab.lf
          have LO := Lib.hid HR.out.tab.lo
          have LP := Lib.hid HR.out.tab.lp
          obtain ⟨g', hg', _, _, hf1, _⟩ := HF.out.int (k := rest) (by rw [LF.out]; omega)
          cases hg'
          obtain ⟨g', hg', _, hgF, hf2, hf3⟩ := HF.out.int (k := n) (by rw [LF.out]; omega)
          cases hg'
          obtain ⟨g', hg', _, _, ho1, _⟩ := HO.out.int (k := rest) (by rw [LO.out]; omega)
          cases hg'
          obtain ⟨g', hg', _, hgO, ho2, ho3⟩ := HO.out.int (k := n) (by rw [LO.out]; omega)
          cases hg'
          obtain ⟨g', hg', _, hgP, hp2, hp3⟩ := HP.out.int (k := n) (by rw [LP.out]; omega)
          cases hg'
          obtain ⟨fr, hfr⟩ : ∃ fr, fr = F[rest]'(by rw [LF.out]; omega) := ⟨_, rfl⟩
          obtain ⟨fn, hfn⟩ : ∃ fn, fn = F[n]'(by rw [LF.out]; omega) := ⟨_, rfl⟩
          obtain ⟨ov, hov⟩ : ∃ ov, ov = O[rest]'(by rw [LO.out]; omega) := ⟨_, rfl⟩
          obtain ⟨on, hon⟩ : ∃ on, on = O[n]'(by rw [LO.out]; omega) := ⟨_, rfl⟩
          rw [← hfr] at hf1
          rw [← hfn] at hf2
          rw [← hov] at ho1
          rw [← hon] at ho2
          have ht := HR.out.tab.at_ rest hrn
          rw [getD_lt _ _ (by rw [LF.out]; omega), getD_lt _ _ (by rw [LO.out]; omega), ← hfr, ← hov] at ht
          obtain ⟨t1, t2, _⟩ := ht
          have hbd := bF_bd HZ.out rest
          have fr0 : 0 ≤ fr := by omega
          have fr1 : fr ≤ 400 := by omega
          have HFR : Hid (fr + 1 = (bF (stepsOf xs) (bR n (xs[k] / 50))).1 + 1) := Lib.hid (by rw [← HRST.out, t1])
          have HFN : Hid (F.getD n 0 = fn) := Lib.hid (by rw [getD_lt _ _ (by rw [LF.out]; omega), hfn])
          have HON : Hid (O.getD n 0 = on) := Lib.hid (by rw [getD_lt _ _ (by rw [LO.out]; omega), hon])
          have HOV : Hid (ov = (bF (stepsOf xs) (bR n (xs[k] / 50))).2.1) := Lib.hid (by rw [← HRST.out, t2])
          have hrN : (rest : Int) < (N : Int) + 1 := by omega
          have hnN2 : (n : Int) < (N : Int) + 1 := by omega
          clear hfr hfn hov hon t1 t2 hbd
          by_cases hsn : (n : Int) < a
          · obtain ⟨mv, hmvd⟩ : ∃ mv, a - (n : Int) = mv := ⟨_, rfl⟩
            have hmv : mv = bMore (stepsOf xs) n (xs[k] / 50) := by rw [← HA.out, bMore_gt _ hsn, hmvd]
            have HMV := Lib.hid hmv
            clear hmv
            have HF2 := Lib.hid (((HF.out.setInt n (fr + 1)).setFar (p := ⟨gO, n, none⟩) (by simp [blk]; omega) (.int .i64 mv)).setFar (p := ⟨gP, n, none⟩) (by simp [blk]; omega) (.int .i64 k))
            have HO2 := Lib.hid (((HO.out.setFar (p := ⟨gF, n, none⟩) (by simp [blk]; omega) (.int .i64 (fr + 1))).setInt n mv).setFar (p := ⟨gP, n, none⟩) (by simp [blk]; omega) (.int .i64 k))
            have HP2 := Lib.hid (((HP.out.setFar (p := ⟨gF, n, none⟩) (by simp [blk]; omega) (.int .i64 (fr + 1))).setFar (p := ⟨gO, n, none⟩) (by simp [blk]; omega) (.int .i64 mv)).setInt n (k : Int))
            have HB2 := Lib.hid (fun m : Nat => (((below_drewN HB.out m).setCell (p := ⟨gF, n, none⟩) (by simp; omega) (.int .i64 (fr + 1))).setCell (p := ⟨gO, n, none⟩) (by simp; omega) (.int .i64 mv)).setCell (p := ⟨gP, n, none⟩) (by simp; omega) (.int .i64 k))
            by_cases c0 : k = 0
            · have d0 : ((k : Int) == 0) = true := by rw [beq_iff_eq]; omega
              have d0b : (k == 0) = true := by rw [beq_iff_eq]; omega
              have C0 := Lib.hid c0
              clear c0
              go_wp2_with fail
              refine (hmx _).mono ?_
              rintro e wz ⟨rfl, rfl⟩
              go_wp2_with fail
              go_quiet (fail)
              go_wp2_with fail
              go_roundw
              case rel =>
                exact ⟨k + 1, F.set n (fr + 1), O.set n mv, P.set n (k : Int), by go_num, by omega, Lib.hid (HR.out.put HZ.out hn1 hlt hk HFR.out HMV.out (.inl C0.out)), Lib.hid (HF2.out.drewN 1), Lib.hid (HO2.out.drewN 1), Lib.hid (HP2.out.drewN 1), Lib.hid (HB2.out _)⟩
              case measure => simp [intOf]; omega
            · have d0 : ((k : Int) == 0) = false := by rw [beq_eq_false_iff_ne]; omega
              have d0b : (k == 0) = false := by rw [beq_eq_false_iff_ne]; omega
              by_cases c1 : fr + 1 < fn
              · have e1 : decide (fr + 1 < fn) = true := by simpa using c1
                have C1 : Hid (fr + 1 < F.getD n 0) := Lib.hid (by rw [HFN.out]; exact c1)
                go_wp2_with fail
                refine (hmx _).mono ?_
                rintro e wz ⟨rfl, rfl⟩
                go_wp2_with fail
                go_quiet (fail)
                go_wp2_with fail
                go_roundw
                case rel =>
                  exact ⟨k + 1, F.set n (fr + 1), O.set n mv, P.set n (k : Int), by go_num, by omega, Lib.hid (HR.out.put HZ.out hn1 hlt hk HFR.out HMV.out (.inr (.inl C1.out))), Lib.hid (HF2.out.drewN 1), Lib.hid (HO2.out.drewN 1), Lib.hid (HP2.out.drewN 1), Lib.hid (HB2.out _)⟩
                case measure => simp [intOf]; omega
              · have e1 : decide (fr + 1 < fn) = false := by simpa using c1
                by_cases c2 : fr + 1 = fn
                · have e2 : (fr + 1 == fn) = true := by simpa using c2
                  by_cases c3 : mv < on
                  · have e3 : decide (mv < on) = true := by simpa using c3
                    have C2 : Hid (fr + 1 = F.getD n 0 ∧ mv < O.getD n 0) := Lib.hid (by rw [HFN.out, HON.out]; exact ⟨c2, c3⟩)
                    clear c2
                    go_wp2_with fail
                    refine (hmx _).mono ?_
                    rintro e wz ⟨rfl, rfl⟩
                    go_wp2_with fail
                    go_quiet (fail)
                    go_wp2_with fail
                    go_roundw
                    case rel =>
                      exact ⟨k + 1, F.set n (fr + 1), O.set n mv, P.set n (k : Int), by go_num, by omega, Lib.hid (HR.out.put HZ.out hn1 hlt hk HFR.out HMV.out (.inr (.inr C2.out))), Lib.hid (HF2.out.drewN 1), Lib.hid (HO2.out.drewN 1), Lib.hid (HP2.out.drewN 1), Lib.hid (HB2.out _)⟩
                    case measure => simp [intOf]; omega
                  · have e3 : decide (mv < on) = false := by simpa using c3
                    have C2 : Hid (¬ (k = 0 ∨ fr + 1 < F.getD n 0 ∨ (fr + 1 = F.getD n 0 ∧ mv < O.getD n 0))) := Lib.hid (by rw [HFN.out, HON.out]; omega)
                    clear c2
                    go_wp2_with fail
                    refine (hmx _).mono ?_
                    rintro e wz ⟨rfl, rfl⟩
                    go_wp2_with fail
                    go_quiet (fail)
                    go_wp2_with fail
                    go_roundw
                    case rel =>
                      exact ⟨k + 1, F, O, P, by go_num, by omega, Lib.hid (HR.out.keep HZ.out hn1 hk HFR.out HMV.out (C2.out)), Lib.hid (HF.out.drewN 1), Lib.hid (HO.out.drewN 1), Lib.hid (HP.out.drewN 1), Lib.hid (below_drewN HB.out _)⟩
                    case measure => simp [intOf]; omega
                · have e2 : (fr + 1 == fn) = false := by simpa using c2
                  have C2 : Hid (¬ (k = 0 ∨ fr + 1 < F.getD n 0 ∨ (fr + 1 = F.getD n 0 ∧ mv < O.getD n 0))) := Lib.hid (by rw [HFN.out, HON.out]; omega)
                  clear c2
                  go_wp2_with fail
                  refine (hmx _).mono ?_
                  rintro e wz ⟨rfl, rfl⟩
                  go_wp2_with fail
                  go_quiet (fail)
                  go_wp2_with fail
                  go_roundw
                  case rel =>
                    exact ⟨k + 1, F, O, P, by go_num, by omega, Lib.hid (HR.out.keep HZ.out hn1 hk HFR.out HMV.out (C2.out)), Lib.hid (HF.out.drewN 1), Lib.hid (HO.out.drewN 1), Lib.hid (HP.out.drewN 1), Lib.hid (below_drewN HB.out _)⟩
                  case measure => simp [intOf]; omega
          · have hsn2 : a ≤ (n : Int) := by omega
            obtain ⟨mv, hmvd⟩ : ∃ mv, mv = ov := ⟨_, rfl⟩
            have hmv : mv = bMore (stepsOf xs) n (xs[k] / 50) := by rw [hmvd, HOV.out, ← HA.out, bMore_le _ hsn]
            rw [← hmvd] at ho1
            clear hmvd
            have HMV := Lib.hid hmv
            clear hmv
            have HF2 := Lib.hid (((HF.out.setInt n (fr + 1)).setFar (p := ⟨gO, n, none⟩) (by simp [blk]; omega) (.int .i64 mv)).setFar (p := ⟨gP, n, none⟩) (by simp [blk]; omega) (.int .i64 k))
            have HO2 := Lib.hid (((HO.out.setFar (p := ⟨gF, n, none⟩) (by simp [blk]; omega) (.int .i64 (fr + 1))).setInt n mv).setFar (p := ⟨gP, n, none⟩) (by simp [blk]; omega) (.int .i64 k))
            have HP2 := Lib.hid (((HP.out.setFar (p := ⟨gF, n, none⟩) (by simp [blk]; omega) (.int .i64 (fr + 1))).setFar (p := ⟨gO, n, none⟩) (by simp [blk]; omega) (.int .i64 mv)).setInt n (k : Int))
            have HB2 := Lib.hid (fun m : Nat => (((below_drewN HB.out m).setCell (p := ⟨gF, n, none⟩) (by simp; omega) (.int .i64 (fr + 1))).setCell (p := ⟨gO, n, none⟩) (by simp; omega) (.int .i64 mv)).setCell (p := ⟨gP, n, none⟩) (by simp; omega) (.int .i64 k))
            by_cases c0 : k = 0
            · have d0 : ((k : Int) == 0) = true := by rw [beq_iff_eq]; omega
              have d0b : (k == 0) = true := by rw [beq_iff_eq]; omega
              have C0 := Lib.hid c0
              clear c0
              go_wp2_with fail
              refine (hmx _).mono ?_
              rintro e wz ⟨rfl, rfl⟩
              go_wp2_with fail
              go_quiet (fail)
              go_wp2_with fail
              go_roundw
              case rel =>
                exact ⟨k + 1, F.set n (fr + 1), O.set n mv, P.set n (k : Int), by go_num, by omega, Lib.hid (HR.out.put HZ.out hn1 hlt hk HFR.out HMV.out (.inl C0.out)), Lib.hid (HF2.out.drewN 1), Lib.hid (HO2.out.drewN 1), Lib.hid (HP2.out.drewN 1), Lib.hid (HB2.out _)⟩
              case measure => simp [intOf]; omega
            · have d0 : ((k : Int) == 0) = false := by rw [beq_eq_false_iff_ne]; omega
              have d0b : (k == 0) = false := by rw [beq_eq_false_iff_ne]; omega
              by_cases c1 : fr + 1 < fn
              · have e1 : decide (fr + 1 < fn) = true := by simpa using c1
                have C1 : Hid (fr + 1 < F.getD n 0) := Lib.hid (by rw [HFN.out]; exact c1)
                go_wp2_with fail
                refine (hmx _).mono ?_
                rintro e wz ⟨rfl, rfl⟩
                go_wp2_with fail
                go_quiet (fail)
                go_wp2_with fail
                go_roundw
                case rel =>
                  exact ⟨k + 1, F.set n (fr + 1), O.set n mv, P.set n (k : Int), by go_num, by omega, Lib.hid (HR.out.put HZ.out hn1 hlt hk HFR.out HMV.out (.inr (.inl C1.out))), Lib.hid (HF2.out.drewN 1), Lib.hid (HO2.out.drewN 1), Lib.hid (HP2.out.drewN 1), Lib.hid (HB2.out _)⟩
                case measure => simp [intOf]; omega
              · have e1 : decide (fr + 1 < fn) = false := by simpa using c1
                by_cases c2 : fr + 1 = fn
                · have e2 : (fr + 1 == fn) = true := by simpa using c2
                  by_cases c3 : mv < on
                  · have e3 : decide (mv < on) = true := by simpa using c3
                    have C2 : Hid (fr + 1 = F.getD n 0 ∧ mv < O.getD n 0) := Lib.hid (by rw [HFN.out, HON.out]; exact ⟨c2, c3⟩)
                    clear c2
                    go_wp2_with fail
                    refine (hmx _).mono ?_
                    rintro e wz ⟨rfl, rfl⟩
                    go_wp2_with fail
                    go_quiet (fail)
                    go_wp2_with fail
                    go_roundw
                    case rel =>
                      exact ⟨k + 1, F.set n (fr + 1), O.set n mv, P.set n (k : Int), by go_num, by omega, Lib.hid (HR.out.put HZ.out hn1 hlt hk HFR.out HMV.out (.inr (.inr C2.out))), Lib.hid (HF2.out.drewN 1), Lib.hid (HO2.out.drewN 1), Lib.hid (HP2.out.drewN 1), Lib.hid (HB2.out _)⟩
                    case measure => simp [intOf]; omega
                  · have e3 : decide (mv < on) = false := by simpa using c3
                    have C2 : Hid (¬ (k = 0 ∨ fr + 1 < F.getD n 0 ∨ (fr + 1 = F.getD n 0 ∧ mv < O.getD n 0))) := Lib.hid (by rw [HFN.out, HON.out]; omega)
                    clear c2
                    go_wp2_with fail
                    refine (hmx _).mono ?_
                    rintro e wz ⟨rfl, rfl⟩
                    go_wp2_with fail
                    go_quiet (fail)
                    go_wp2_with fail
                    go_roundw
                    case rel =>
                      exact ⟨k + 1, F, O, P, by go_num, by omega, Lib.hid (HR.out.keep HZ.out hn1 hk HFR.out HMV.out (C2.out)), Lib.hid (HF.out.drewN 1), Lib.hid (HO.out.drewN 1), Lib.hid (HP.out.drewN 1), Lib.hid (below_drewN HB.out _)⟩
                    case measure => simp [intOf]; omega
                · have e2 : (fr + 1 == fn) = false := by simpa using c2
                  have C2 : Hid (¬ (k = 0 ∨ fr + 1 < F.getD n 0 ∨ (fr + 1 = F.getD n 0 ∧ mv < O.getD n 0))) := Lib.hid (by rw [HFN.out, HON.out]; omega)
                  clear c2
                  go_wp2_with fail
                  refine (hmx _).mono ?_
                  rintro e wz ⟨rfl, rfl⟩
                  go_wp2_with fail
                  go_quiet (fail)
                  go_wp2_with fail
                  go_roundw
                  case rel =>
                    exact ⟨k + 1, F, O, P, by go_num, by omega, Lib.hid (HR.out.keep HZ.out hn1 hk HFR.out HMV.out (C2.out)), Lib.hid (HF.out.drewN 1), Lib.hid (HO.out.drewN 1), Lib.hid (HP.out.drewN 1), Lib.hid (below_drewN HB.out _)⟩
                  case measure => simp [intOf]; omega
        · obtain rfl : k = xs.length := by omega
          have HT2 := Lib.hid (HR.out.done HZ.out hn1)
          go_wp2_with fail
          go_roundw
          case rel => exact ⟨n + 1, F, O, P, by go_num, by omega, by omega, HT2, HF, HO, HP, HB⟩
          case measure => simp [intOf]; omega
    · obtain rfl : n = N + 1 := by omega
      have hbd := bF_bd HZ.out N
      have ht := HT.out.at_ N (by omega)
      have LF := Lib.hid HT.out.lf
      have LP := Lib.hid HT.out.lp
      obtain ⟨g', hg', _, hgF, hf1, _⟩ := HF.out.int (k := N) (by rw [LF.out]; omega)
      cases hg'
      rw [getD_lt F _ (by rw [LF.out]; omega)] at ht
      obtain ⟨fw, hfw⟩ : ∃ fw, fw = F[N]'(by rw [LF.out]; omega) := ⟨_, rfl⟩
      rw [← hfw] at hf1 ht
      have hfe := ht.1
      obtain ⟨C, hC⟩ : ∃ C : Nat, fw = (C : Int) := ⟨fw.toNat, by omega⟩
      subst hC
      have HFE := Lib.hid hfe.symm
      clear ht hfw hfe
      have hNi : (N : Int) < (N : Int) + 1 := by omega
      by_cases h20 : 20 < (C : Int)
      · have HF0 : Hid (FIN = ([], 5)) := Lib.hid (by rw [HFIN.out, HFE.out, if_pos (by omega)])
        go_wp2_with fail
        go_ret2
        exact ⟨none, 0, by rw [HF0.out]; rfl, by rw [HF0.out]; exact Own.none_, HB.out⟩
      · have HF0 : Hid (FIN = (bOut xs C N, 0)) := Lib.hid (by rw [HFIN.out, HFE.out, if_neg (by omega)]; rfl)
        have h20b : (C : Int) ≤ 20 := by omega
        have h20c : C ≤ 20 := by omega
        have hsz := HB.out.size
        have HPR := Lib.hid HP.out.rd
        have HTA := Lib.hid HT.out.at_
        clear HT HF HO HP
        go_wp2_with fail
        clear hf1 hgF
        obtain ⟨wt, hwt⟩ : ∃ wt : World, wt = wr := ⟨_, rfl⟩
        rw [← hwt] at HPR HB hsz
        go_loopw [15, 16] (fun o i wr => ∃ (n c : Nat) (out : List Int) (Ao : Option Addr) (co : Nat), o = .slice Ao out.length co ∧ i = .int .i64 n ∧ n ≤ N ∧ Hid ((bF (stepsOf xs) n).1 = c) ∧ out.length + c ≤ 20 ∧ Hid (FIN.1 = out ++ bOut xs c n) ∧ Hid (Own LI 2 wr wt.heap.size Ao co out) ∧ Hid (Below wt.heap.size wt wr)) (fun _ i _ => (intOf i).toNat)
        case atStart =>
          subst hwt
          exact ⟨N, C, [], _, _, rfl, rfl, by omega, HFE, by simp; omega, Lib.hid (by rw [HF0.out]; rfl), Lib.hid (Own.lit0 _ (Nat.le_refl _) rfl), Lib.hid ((Below.refl _ _).alloc (Nat.le_refl _) _)⟩
        case round =>
          clear hwt
          obtain ⟨n, c', out, Ao, co, rfl, rfl, hnN, HC, hoc, HE, HO, HB2⟩ := hrel
          by_cases hn0 : 0 < n
          · have hn0i : (0 : Int) < n := by omega
            have hc1 : 1 ≤ c' := by
              have h1 := (bF_nil HZ.out (n := n)).1
              rw [HC.out] at h1
              by_cases e : c' = 0
              · subst e; have := h1 rfl; omega
              · omega
            obtain ⟨c2, rfl⟩ : ∃ c2, c' = c2 + 1 := ⟨c' - 1, by omega⟩
            obtain ⟨m, rfl⟩ : ∃ m, n = m + 1 := ⟨n - 1, by omega⟩
            obtain ⟨j, hj, hp, _, _, hcn, _⟩ := bF_pick HZ.out.ne HZ.out.pos m c2 (by rw [HC.out]; rfl)
            rw [stepsOf_len] at hj
            have hji : (j : Int) < xs.length := by omega
            obtain ⟨ad, hA, hab, hcP⟩ := (HPR.out.below HB2.out).int (k := m + 1) (by rw [LP.out]; omega)
            cases hA
            have hcP2 : wr.cell? ⟨gP, m + 1, none⟩ = some (.int .i64 j) := by
              rw [add_lit] at hcP
              rw [hcP, ← getD_lt P 0 (by rw [LP.out]; omega), (HTA.out (m + 1) (by omega)).2.2, hp]
            clear hcP
            obtain ⟨ad, rfl, hab, hcx⟩ := (hr.below (HB.out.trans (HB2.out.mono hsz))).int hj
            obtain ⟨x1, x2⟩ := HZ.out.at_ hj
            rw [stepsOf_get hj] at hcn
            have HX : Hid (bOut xs (c2 + 1) (m + 1) = xs[j] :: bOut xs c2 (bR (m + 1) (xs[j] / 50))) := Lib.hid (by
              rw [bOut, hp]
              simp only [Int.toNat_natCast]
              rw [stepsOf_get hj, getD_lt xs 0 hj])
            obtain ⟨x, hx⟩ : ∃ x, x = xs[j] := ⟨_, rfl⟩
            rw [← hx] at hcx x1 x2 hcn HX
            obtain ⟨a, ha⟩ : ∃ a, x / 50 = a := ⟨_, rfl⟩
            rw [ha] at hcn HX
            have a1 : 10 ≤ a := by omega
            have a2 : a ≤ 60 := by omega
            obtain ⟨rest, hrst⟩ : ∃ rest, rest = bR (m + 1) a := ⟨_, rfl⟩
            have hrest : max 0 (((m + 1 : Nat) : Int) - a) = (rest : Int) := by rw [hrst]; unfold bR; omega
            have hrn : rest < m + 1 := by rw [hrst]; unfold bR; omega
            rw [← hrst] at hcn HX
            have HCN := Lib.hid hcn
            have hmx := fun W => l00Max_any 0 (((m + 1 : Nat) : Int) - a) W
            rw [hrest] at hmx
            clear hrest hcn hx hrst hp
            have hmN : ((m + 1 : Nat) : Int) < (N : Int) + 1 := by omega
            have hs2 := HB2.out.size
            have hp1 : (ad.add j).block < wr.heap.size := by rw [block_of_add]; omega
            have hp2 : blk Ao ≠ some (ad.add j).block := fun e => by have := HO.out.blk_lt _ e; rw [block_of_add] at this; omega
            have HP2 := Lib.hid hp2
            clear hp2
            go_wp2_with (at_builtin; go_loud (refine wpL_app1 (L := LI) rowI rfl rfl _ _ rfl rfl HO.out x _ rfl rfl rfl (by unfold maxLen; omega) (by omega) (by exact HB2.out.size) ?_); intro An cn wn hon hg1; have hcx2 := (hg1.cell _ hp1 HP2.out).trans hcx; have HON := Lib.hid hon; have HG1 := Lib.hid hg1; clear hon hg1)
            refine (hmx _).mono ?_
            rintro e w9 ⟨rfl, rfl⟩
            go_wp2_with fail
            go_roundw
            case rel => exact ⟨rest, c2, out ++ [x], An, cn, by simp, by go_num, by omega, HCN, by simp; omega, Lib.hid (by rw [HE.out, HX.out]; simp), HON, Lib.hid (Grew.below HB2.out HG1.out hs2 (fun g hg => (HO.out.blk_lt g hg).1))⟩
            case measure => simp [intOf]; omega
          · obtain rfl : n = 0 := by omega
            have hce : c' = 0 := by have := HC.out; rw [bF_zero] at this; simp at this; omega
            subst hce
            have HE2 : Hid (FIN = (out, 0)) := Lib.hid (by
              have := HE.out
              rw [bOut, List.append_nil] at this
              rw [← this, HF0.out])
            go_wp2_with fail
            go_ret2
            exact ⟨Ao, co, by rw [HE2.out]; rfl, by rw [HE2.out]; exact HO.out.lower hsz, HB.out.trans (HB2.out.mono hsz)⟩
end Go.Proofs.Ytamhkiakplmlmaa
