/-
  Tested bricks: MedianWater of both.
-/
import Derived.Test.YtehmghlhljocbaaGreatDoorTested
import Derived.Test.YtehmghlhljocbaaGreatDoorMedPlain
import Derived.Test.YtehmghlhljocbaaGreatDoorSteps
namespace Go.Proofs.YtehmghlhljocbaaGreatDoor
open Go.ChangeShapes Go.WideShapes Go.RowKit

def tcP (xs : List TestedD) : Int := if vtB xs = true then (if xs.length = 0 then 3 else 0) else 1
def wat (xs : List TestedD) : List Int := xs.map (·.2)
theorem wat_len (xs : List TestedD) : (wat xs).length = xs.length := by simp [wat]
theorem wat_take (xs : List TestedD) (k : Nat) : (wat xs).take k = wat (xs.take k) := by simp [wat]
noncomputable def mwP (xs : List TestedD) : Int × Int := if tcP xs = 0 then ((sortI (wat xs)).getD ((xs.length - 1) / 2) 0, 0) else (0, tcP xs)

set_option maxRecDepth 100000 in
set_option maxHeartbeats 1600000 in
theorem testedCode_any (A : Option Addr) (c : Nat) (xs : List TestedD) (w : World) (hr : Rd LTested w w.heap.size A c xs) :
    Calls Tryz.prog 42 #[.slice A xs.length c] w fun e w' => e = .returned (.int .i64 (tcP xs)) ∧ Below w.heap.size w w' := by
  have hlen := hr.len63
  have hcV := implValidTested_any A c xs w hr
  cases hv : vtB xs
  · have HR : Hid (tcP xs = 1) := Lib.hid (by unfold tcP; rw [if_neg (by simp [hv])])
    rw [hv] at hcV
    clear hv
    go_enter Tryz.func42, Tryz.ntmps42
    go_wp2_with fail
    refine hcV.mono ?_
    rintro e w1 ⟨rfl, hb1⟩
    go_wp2_with fail
    go_ret
    exact ⟨ret_int HR.out.symm, hb1⟩
  · rw [hv] at hcV
    by_cases h0 : xs.length = 0
    · have HR : Hid (tcP xs = 3) := Lib.hid (by unfold tcP; rw [if_pos hv, if_pos h0])
      have z1 : ((xs.length : Int) == 0) = true := by rw [beq_iff_eq]; omega
      have z2 : (xs.length == 0) = true := by rw [beq_iff_eq]; exact h0
      have H0 := Lib.hid h0
      clear hv h0
      go_enter Tryz.func42, Tryz.ntmps42
      go_wp2_with fail
      refine hcV.mono ?_
      rintro e w1 ⟨rfl, hb1⟩
      go_wp2_with fail
      go_ret
      exact ⟨ret_int HR.out.symm, hb1⟩
    · have HR : Hid (tcP xs = 0) := Lib.hid (by unfold tcP; rw [if_pos hv, if_neg h0])
      have z1 : ((xs.length : Int) == 0) = false := by rw [beq_eq_false_iff_ne]; omega
      have z2 : (xs.length == 0) = false := by rw [beq_eq_false_iff_ne]; exact h0
      clear hv
      go_enter Tryz.func42, Tryz.ntmps42
      go_wp2_with fail
      refine hcV.mono ?_
      rintro e w1 ⟨rfl, hb1⟩
      go_wp2_with fail
      go_ret
      exact ⟨ret_int HR.out.symm, hb1⟩
set_option maxRecDepth 100000 in
theorem l19Some_any (A : Option Addr) (c : Nat) (xs : List TestedD) (B : Nat) (w : World) (hr : Rd LTested w B A c xs) :
    Calls Tryz.prog 45 #[.slice A xs.length c] w fun e w' => e = .returned (.int .i64 (tcP xs)) ∧ w = w' := by
  have hlen := hr.len63
  have hcV := l19Ok_any A c xs B w hr
  cases hv : vtB xs
  · have HR : Hid (tcP xs = 1) := Lib.hid (by unfold tcP; rw [if_neg (by simp [hv])])
    rw [hv] at hcV
    clear hv
    go_enter Tryz.func45, Tryz.ntmps45
    go_wp2_with fail
    refine hcV.mono ?_
    rintro e w1 ⟨rfl, rfl⟩
    go_wp2_with fail
    go_ret
    exact ⟨ret_int HR.out.symm, rfl⟩
  · rw [hv] at hcV
    by_cases h0 : xs.length = 0
    · have HR : Hid (tcP xs = 3) := Lib.hid (by unfold tcP; rw [if_pos hv, if_pos h0])
      have z1 : ((xs.length : Int) == 0) = true := by rw [beq_iff_eq]; omega
      have z2 : (xs.length == 0) = true := by rw [beq_iff_eq]; exact h0
      have H0 := Lib.hid h0
      clear hv h0
      go_enter Tryz.func45, Tryz.ntmps45
      go_wp2_with fail
      refine hcV.mono ?_
      rintro e w1 ⟨rfl, rfl⟩
      go_wp2_with fail
      go_ret
      exact ⟨ret_int HR.out.symm, rfl⟩
    · have HR : Hid (tcP xs = 0) := Lib.hid (by unfold tcP; rw [if_pos hv, if_neg h0])
      have z1 : ((xs.length : Int) == 0) = false := by rw [beq_eq_false_iff_ne]; omega
      have z2 : (xs.length == 0) = false := by rw [beq_eq_false_iff_ne]; exact h0
      clear hv
      go_enter Tryz.func45, Tryz.ntmps45
      go_wp2_with fail
      refine hcV.mono ?_
      rintro e w1 ⟨rfl, rfl⟩
      go_wp2_with fail
      go_ret
      exact ⟨ret_int HR.out.symm, rfl⟩
theorem wat_get (xs : List TestedD) {k : Nat} (h : k < xs.length) (h2 : k < (wat xs).length) : (wat xs)[k] = xs[k].2 := by simp [wat]

set_option maxRecDepth 100000 in
set_option maxHeartbeats 3200000 in
theorem specMedianWater_any (A : Option Addr) (c : Nat) (xs : List TestedD) (w : World) (hr : Rd LTested w w.heap.size A c xs) :
    Calls Tryz.prog 19 #[.slice A xs.length c] w fun e w' => e = .returned (.tuple #[.int .i64 (mwP xs).1, .int .i64 (mwP xs).2]) ∧ Below w.heap.size w w' := by
  have hlen := hr.len63
  have hc := l19Some_any A c xs w.heap.size w hr
  obtain ⟨FIN, hF⟩ : ∃ F, F = mwP xs := ⟨_, rfl⟩
  rw [← hF]
  by_cases h0 : tcP xs = 0
  rotate_left
  · have HR : Hid (FIN = (0, tcP xs)) := Lib.hid (by rw [hF]; unfold mwP; rw [if_neg h0])
    have hne : (tcP xs != 0) = true := by rw [bne_iff_ne]; exact h0
    clear h0 hF
    generalize tcP xs = tc at *
    go_enter Tryz.func19, Tryz.ntmps19
    go_wp2_with fail
    refine hc.mono ?_
    rintro e w1 ⟨rfl, rfl⟩
    go_wp2_with fail
    go_ret2
    exact ⟨by rw [HR.out]; rfl, Below.refl _ _⟩
  have hv : vtB xs = true ∧ xs.length ≠ 0 := by
    unfold tcP at h0
    split at h0
    · rename_i hv
      split at h0
      · omega
      · rename_i h1; exact ⟨hv, h1⟩
    · omega
  have hn20 := (vt_parts hv.1).1
  have hn0 := hv.2
  have HV : Hid (FIN = ((sortI (wat xs)).getD ((xs.length - 1) / 2) 0, 0)) := Lib.hid (by rw [hF]; unfold mwP; rw [if_pos h0])
  obtain ⟨a, ha⟩ : ∃ a, a = (xs.length - 1) / 2 := ⟨_, rfl⟩
  have hdiv : ((xs.length : Int) - 1) / 2 = (a : Int) := by omega
  have hal : a < xs.length := by omega
  have hmid : ∀ i (h : i < xs.length), midC (wat xs) xs[i].2 = true ↔ xs[i].2 = (sortI (wat xs)).getD a 0 := fun i h => by
    rw [ha, mid_iff (by rw [wat_len]; omega), wat_len]
  have HMID := Lib.hid hmid
  have HMEM : Hid (∃ i, ∃ h : i < xs.length, midC (wat xs) xs[i].2 = true) := Lib.hid (by
    obtain ⟨i, h, hm⟩ := mid_mem (xs := wat xs) (by rw [wat_len]; omega)
    rw [wat_len] at h
    rw [wat_get xs h] at hm
    exact ⟨i, h, hm⟩)
  have HMC : Hid (∀ v, midC (wat xs) v = decide (belC (wat xs) v ≤ a ∧ a < belC (wat xs) v + samC (wat xs) v)) := Lib.hid (fun v => by unfold midC; rw [wat_len, ha])
  rw [← ha] at HV
  rw [h0] at hc
  clear h0 hF hv hmid ha
  have p1 : (0 : Int) ≤ (xs.length : Int) - 1 := by omega
  go_enter Tryz.func19, Tryz.ntmps19
  go_wp2_with fail
  refine hc.mono ?_
  rintro e w1 ⟨rfl, rfl⟩
  clear hc
  go_wp2_with fail
  go_loopw [5] (fun i wr => ∃ k : Nat, k ≤ xs.length ∧ i = .int .i64 k ∧ Hid (∀ j (h : j < xs.length), j < k → midC (wat xs) xs[j].2 = false) ∧ Hid (Dr w wr)) (fun i _ => xs.length - (intOf i).toNat)
  case atStart => exact ⟨0, by omega, rfl, Lib.hid (fun j _ h => by omega), Lib.hid (Dr.refl _)⟩
  case round =>
    obtain ⟨i, hi, rfl, HN, HD⟩ := hrel
    by_cases hlt : i < xs.length
    · have hli : (i : Int) < xs.length := by omega
      obtain ⟨ad, rfl, _, e0, e1⟩ := rdTested (hr.below HD.out.below) hlt
      obtain ⟨v, hv⟩ : ∃ v, v = xs[i].2 := ⟨_, rfl⟩
      have HVI := Lib.hid hv
      rw [← hv] at e1
      clear hv e0
      obtain ⟨wq, rfl⟩ : ∃ wq : World, wq = wr := ⟨_, rfl⟩
      go_wp2_with fail
      go_loopw [6, 7, 8] (fun b s k wr => ∃ (j B C : Nat), j ≤ xs.length ∧ B ≤ j ∧ C ≤ j ∧ b = .int .i64 B ∧ s = .int .i64 C ∧ k = .int .i64 j ∧ Hid (B = belC ((wat xs).take j) v) ∧ Hid (C = samC ((wat xs).take j) v) ∧ Hid (Dr wq wr)) (fun _ _ k _ => xs.length - (intOf k).toNat)
      case atStart => exact ⟨0, 0, 0, by omega, by omega, by omega, rfl, rfl, rfl, Lib.hid rfl, Lib.hid rfl, Lib.hid (Dr.refl _)⟩
      case round =>
        obtain ⟨k, B, C, hk, hB, hC, rfl, rfl, rfl, HB, HC, HD2⟩ := hrel
        have g1 := (HD2.out.below (B := wq.heap.size))
        have HDD := Lib.hid (HD.out.trans HD2.out)
        obtain ⟨ad2, ea, _, d0, d1⟩ | hx : (∃ ad2, some ad = some ad2 ∧ True ∧ wr.cell? (ad2.add (i * 2)) = wr.cell? (ad2.add (i * 2)) ∧ wr.cell? ⟨(ad.add (i * 2)).block, (ad.add (i * 2)).off + 1, none⟩ = some (.int .i64 v)) ∨ False := .inl ⟨ad, rfl, trivial, rfl, by
          obtain ⟨n, rfl⟩ := HD2.out
          exact e1⟩
        · cases ea
          by_cases hkt : k < xs.length
          · have hki : (k : Int) < xs.length := by omega
            obtain ⟨ad3, eb, _, f0, f1⟩ := rdTested (hr.below HDD.out.below) hkt
            cases eb
            have hBs := belC_succ (wat xs) v (k := k) (by rw [wat_len]; exact hkt)
            have hCs := samC_succ (wat xs) v (k := k) (by rw [wat_len]; exact hkt)
            rw [wat_get xs hkt] at hBs hCs
            generalize xs[k].2 = vk at *
            have HBs := Lib.hid hBs
            have HCs := Lib.hid hCs
            clear hBs hCs f0 d0 e1 g1
            rcases Int.lt_trichotomy vk v with q | q | q
            · have q2 : (vk == v) = false := by rw [beq_eq_false_iff_ne]; omega
              have HB3 : Hid (B + 1 = belC ((wat xs).take (k + 1)) v) := Lib.hid (by rw [HBs.out, ← HB.out, if_pos q] <;> rfl)
              have HC3 : Hid (C = samC ((wat xs).take (k + 1)) v) := Lib.hid (by rw [HCs.out, ← HC.out, if_neg (show ¬ vk = v from by omega)] <;> rfl)
              go_wp2_with fail
              go_quiet (fail)
              go_wp2_with fail
              go_quiet (fail)
              go_wp2_with fail
              go_roundw
              case rel => exact ⟨k + 1, B + 1, C, by omega, by omega, by omega, by go_num, by go_num, by go_num, HB3, HC3, Lib.hid (HD2.out.step _)⟩
              case measure => simp [intOf]; omega
            · have q2 : (vk == v) = true := by rw [beq_iff_eq]; exact q
              have q3 : v ≤ vk := by omega
              have Hq := Lib.hid q
              clear q
              have HB3 : Hid (B = belC ((wat xs).take (k + 1)) v) := Lib.hid (by rw [HBs.out, ← HB.out, if_neg (show ¬ vk < v from by have := Hq.out; omega)] <;> rfl)
              have HC3 : Hid (C + 1 = samC ((wat xs).take (k + 1)) v) := Lib.hid (by rw [HCs.out, ← HC.out, if_pos Hq.out] <;> rfl)
              go_wp2_with fail
              go_quiet (fail)
              go_wp2_with fail
              go_quiet (fail)
              go_wp2_with fail
              go_roundw
              case rel => exact ⟨k + 1, B, C + 1, by omega, by omega, by omega, by go_num, by go_num, by go_num, HB3, HC3, Lib.hid (HD2.out.step _)⟩
              case measure => simp [intOf]; omega
            · have q2 : (vk == v) = false := by rw [beq_eq_false_iff_ne]; omega
              have q3 : v ≤ vk := by omega
              have HB3 : Hid (B = belC ((wat xs).take (k + 1)) v) := Lib.hid (by rw [HBs.out, ← HB.out, if_neg (show ¬ vk < v from by omega)] <;> rfl)
              have HC3 : Hid (C = samC ((wat xs).take (k + 1)) v) := Lib.hid (by rw [HCs.out, ← HC.out, if_neg (show ¬ vk = v from by omega)] <;> rfl)
              go_wp2_with fail
              go_quiet (fail)
              go_wp2_with fail
              go_quiet (fail)
              go_wp2_with fail
              go_roundw
              case rel => exact ⟨k + 1, B, C, by omega, by omega, by omega, by go_num, by go_num, by go_num, HB3, HC3, Lib.hid (HD2.out.step _)⟩
              case measure => simp [intOf]; omega
          · obtain rfl : k = xs.length := by omega
            have HB2 : Hid (B = belC (wat xs) v) := Lib.hid (by rw [HB.out, List.take_of_length_le (by rw [wat_len]; exact Nat.le_refl _)])
            have HC2 : Hid (C = samC (wat xs) v) := Lib.hid (by rw [HC.out, List.take_of_length_le (by rw [wat_len]; exact Nat.le_refl _)])
            have HCM : Hid (midC (wat xs) v = decide (B ≤ a ∧ a < B + C)) := Lib.hid (by rw [HMC.out v, ← HB2.out, ← HC2.out])
            clear d0 e1 g1
            by_cases r1 : B ≤ a
            · have r1i : (B : Int) ≤ a := by omega
              by_cases r2 : a < B + C
              · have r2i : (a : Int) < (B : Int) + C := by omega
                have HR : Hid (FIN = (v, 0)) := Lib.hid (by
                  have h1 := (HMID.out i hlt).1 (by rw [← HVI.out, HCM.out]; exact decide_eq_true ⟨r1, r2⟩)
                  rw [HV.out, ← h1, ← HVI.out])
                go_wp2_with fail
                go_ret2
                exact ⟨by rw [HR.out]; rfl, HDD.out.below⟩
              · have r2i : (B : Int) + C ≤ a := by omega
                have HNO : Hid (midC (wat xs) v = false) := Lib.hid (by rw [HCM.out]; exact decide_eq_false fun h => r2 h.2)
                go_wp2_with fail
                go_roundw
                case rel => exact ⟨i + 1, by omega, by go_num, Lib.hid (fun j hj hji => by
                  by_cases e : j = i
                  · subst e; rw [← HVI.out]; exact HNO.out
                  · exact HN.out j hj (by omega)), HDD⟩
                case measure => simp [intOf]; omega
            · have r1i : (a : Int) < B := by omega
              have HNO : Hid (midC (wat xs) v = false) := Lib.hid (by rw [HCM.out]; exact decide_eq_false fun h => r1 h.1)
              go_wp2_with fail
              go_roundw
              case rel => exact ⟨i + 1, by omega, by go_num, Lib.hid (fun j hj hji => by
                by_cases e : j = i
                · subst e; rw [← HVI.out]; exact HNO.out
                · exact HN.out j hj (by omega)), HDD⟩
              case measure => simp [intOf]; omega
        · exact hx.elim
    · exfalso
      obtain ⟨j, hj, hm⟩ := HMEM.out
      rw [HN.out j hj (by omega)] at hm
      cases hm
end Go.Proofs.YtehmghlhljocbaaGreatDoor
