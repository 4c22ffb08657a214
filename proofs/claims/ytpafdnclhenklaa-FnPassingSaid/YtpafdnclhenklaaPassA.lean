/-
  Chances: choices, the chance of a lot, its code, PassChance of both.
-/
import Derived.Test.YtpafdnclhenklaaBinPlain
import Derived.Test.YtpafdnclhenklaaGcd
namespace Go.Proofs.Ytpafdnclhenklaa
open Go.ChangeShapes Go.WideShapes Go.RowKit

theorem intCastMul (a b : Nat) : ((a * b : Nat) : Int) = (a : Int) * (b : Int) := by simp
set_option maxRecDepth 100000 in
set_option maxHeartbeats 1600000 in
theorem choose_any (n k : Nat) (hn : n ≤ 60) (hk : k ≤ 10) (w : World) :
    Calls Try.prog 62 #[.int .i64 n, .int .i64 k] w fun e w' => e = .returned (.int .i64 (bin n k)) ∧ w = w' := by
  by_cases hlt : n < k
  · have HB : Hid (bin n k = 0) := Lib.hid (bin_gt n k hlt)
    have h0 : (0 : Int) ≤ k := by omega
    have h1 : (n : Int) < k := by omega
    have d1 : decide ((k : Int) < 0) = false := by simp
    rw [HB.out]
    go_enter Try.func62, Try.ntmps62
    go_wp2_with fail
    go_ret
    exact ⟨rfl, rfl⟩
  · have h0 : (0 : Int) ≤ k := by omega
    have h1 : (k : Int) ≤ n := by omega
    have h2 : k ≤ n := by omega
    obtain ⟨d, hd⟩ : ∃ d : Nat, n = d + k := ⟨n - k, by omega⟩
    have hnk : (n : Int) - (k : Int) = (d : Int) := by omega
    have hd60 : d + k ≤ 60 := by omega
    have d1 : decide ((k : Int) < 0) = false := by simp
    have d2 : decide (n < k) = false := by simp; omega
    have HE : Hid (bin (d + k) k = bin n k) := Lib.hid (by rw [hd])
    obtain ⟨FIN, hF⟩ : ∃ F, F = bin n k := ⟨_, rfl⟩
    rw [← hF] at HE
    rw [← hF]
    clear hd hF hlt
    go_enter Try.func62, Try.ntmps62
    go_wp2_with fail
    go_loop [5, 6] (fun o s => ∃ (i j X : Nat), i ≤ k ∧ j ≤ k + 1 ∧ s = .int .i64 j ∧ o = .int .i64 X ∧ Hid (j = i + 1) ∧ Hid (X = bin (d + i) i)) (fun _ s => k + 1 - (intOf s).toNat)
    case atStart => exact ⟨0, 1, 1, by omega, by omega, rfl, rfl, Lib.hid rfl, Lib.hid (bin_z _).symm⟩
    case round =>
      obtain ⟨i, j, X, hi, hj, rfl, rfl, HJ, HX⟩ := hrel
      by_cases hlt : j ≤ k
      · have hji : (j : Int) ≤ k := by omega
        have hj1 : 1 ≤ j := by have := HJ.out; omega
        obtain ⟨Y, hY⟩ : ∃ Y : Nat, Y = d + j := ⟨_, rfl⟩
        have e1 : (d : Int) + (j : Int) = (Y : Int) := by omega
        have hP := bin_round_bd (d := d) (i := i) (by have := HJ.out; omega) (by have := HJ.out; omega)
        obtain ⟨Pn, hPn⟩ : ∃ Pn : Nat, Pn = X * Y := ⟨_, rfl⟩
        have hPb : Pn ≤ 753940275660 := by rw [hPn, HX.out, hY, HJ.out]; exact hP
        have e2 : (X : Int) * (Y : Int) = (Pn : Int) := by rw [hPn, intCastMul]
        obtain ⟨Z, hZ⟩ : ∃ Z : Nat, Z = bin (d + (i + 1)) (i + 1) := ⟨_, rfl⟩
        have e3 : (Pn : Int) / (j : Int) = (Z : Int) := by
          have h := bin_round d i
          rw [← hZ] at h
          have h3 : Pn / j = Z := by rw [hPn, HX.out, hY, HJ.out]; exact h
          rw [← h3]
          simp
        have HZ := Lib.hid hZ
        have hZb : Z ≤ Pn := by
          have h := bin_round d i
          rw [← hZ] at h
          have h3 : Pn / j = Z := by rw [hPn, HX.out, hY, HJ.out]; exact h
          rw [← h3]
          exact Nat.div_le_self _ _
        have hXb : X ≤ 753940275660 := by
          have h1 : X ≤ X * Y := Nat.le_mul_of_pos_right _ (by omega)
          omega
        have hYb : Y ≤ 60 := by omega
        have e4 : IntKind.i64.wrap ((X : Int) * (Y : Int)) = (Pn : Int) := by rw [e2]; exact wrapS (by omega) (by omega)
        clear hY hPn hZ hP e2
        go_wp2_with fail
        go_round
        case rel => exact ⟨i + 1, j + 1, Z, by have := HJ.out; omega, by omega, by go_num, rfl, Lib.hid (by rw [HJ.out]), HZ⟩
        case measure => simp [intOf]; omega
      · have hji : (k : Int) < j := by omega
        have HR : Hid (X = FIN) := Lib.hid (by
          have h := HJ.out
          have e : i = k := by omega
          rw [HX.out, e]
          exact HE.out)
        go_wp2_with fail
        go_ret
        exact ⟨by rw [HR.out]; rfl, rfl⟩
set_option maxRecDepth 100000 in
set_option maxHeartbeats 1600000 in
theorem l19Choose_any (n k : Nat) (hn : n ≤ 60) (hk : k ≤ 10) (w : World) :
    Calls Try.prog 64 #[.int .i64 n, .int .i64 k] w fun e w' => e = .returned (.int .i64 (bin n k)) ∧ w = w' := by
  by_cases hlt : n < k
  · have HB : Hid (bin n k = 0) := Lib.hid (bin_gt n k hlt)
    have h0 : (0 : Int) ≤ k := by omega
    have h1 : (n : Int) < k := by omega
    have d1 : decide ((k : Int) < 0) = false := by simp
    rw [HB.out]
    go_enter Try.func64, Try.ntmps64
    go_wp2_with fail
    go_ret
    exact ⟨rfl, rfl⟩
  · have h0 : (0 : Int) ≤ k := by omega
    have h1 : (k : Int) ≤ n := by omega
    have h2 : k ≤ n := by omega
    obtain ⟨d, hd⟩ : ∃ d : Nat, n = d + k := ⟨n - k, by omega⟩
    have hnk : (n : Int) - (k : Int) = (d : Int) := by omega
    have hd60 : d + k ≤ 60 := by omega
    have d1 : decide ((k : Int) < 0) = false := by simp
    have d2 : decide (n < k) = false := by simp; omega
    have HE : Hid (bin (d + k) k = bin n k) := Lib.hid (by rw [hd])
    obtain ⟨FIN, hF⟩ : ∃ F, F = bin n k := ⟨_, rfl⟩
    rw [← hF] at HE
    rw [← hF]
    clear hd hF hlt
    go_enter Try.func64, Try.ntmps64
    go_wp2_with fail
    go_loop [5, 6] (fun o s => ∃ (i j X : Nat), i ≤ k ∧ j ≤ k + 1 ∧ s = .int .i64 j ∧ o = .int .i64 X ∧ Hid (j = i + 1) ∧ Hid (X = bin (d + i) i)) (fun _ s => k + 1 - (intOf s).toNat)
    case atStart => exact ⟨0, 1, 1, by omega, by omega, rfl, rfl, Lib.hid rfl, Lib.hid (bin_z _).symm⟩
    case round =>
      obtain ⟨i, j, X, hi, hj, rfl, rfl, HJ, HX⟩ := hrel
      by_cases hlt : j ≤ k
      · have hji : (j : Int) ≤ k := by omega
        have hj1 : 1 ≤ j := by have := HJ.out; omega
        obtain ⟨Y, hY⟩ : ∃ Y : Nat, Y = d + j := ⟨_, rfl⟩
        have e1 : (d : Int) + (j : Int) = (Y : Int) := by omega
        have hP := bin_round_bd (d := d) (i := i) (by have := HJ.out; omega) (by have := HJ.out; omega)
        obtain ⟨Pn, hPn⟩ : ∃ Pn : Nat, Pn = X * Y := ⟨_, rfl⟩
        have hPb : Pn ≤ 753940275660 := by rw [hPn, HX.out, hY, HJ.out]; exact hP
        have e2 : (X : Int) * (Y : Int) = (Pn : Int) := by rw [hPn, intCastMul]
        obtain ⟨Z, hZ⟩ : ∃ Z : Nat, Z = bin (d + (i + 1)) (i + 1) := ⟨_, rfl⟩
        have e3 : (Pn : Int) / (j : Int) = (Z : Int) := by
          have h := bin_round d i
          rw [← hZ] at h
          have h3 : Pn / j = Z := by rw [hPn, HX.out, hY, HJ.out]; exact h
          rw [← h3]
          simp
        have HZ := Lib.hid hZ
        have hZb : Z ≤ Pn := by
          have h := bin_round d i
          rw [← hZ] at h
          have h3 : Pn / j = Z := by rw [hPn, HX.out, hY, HJ.out]; exact h
          rw [← h3]
          exact Nat.div_le_self _ _
        have hXb : X ≤ 753940275660 := by
          have h1 : X ≤ X * Y := Nat.le_mul_of_pos_right _ (by omega)
          omega
        have hYb : Y ≤ 60 := by omega
        have e4 : IntKind.i64.wrap ((X : Int) * (Y : Int)) = (Pn : Int) := by rw [e2]; exact wrapS (by omega) (by omega)
        clear hY hPn hZ hP e2
        go_wp2_with fail
        go_round
        case rel => exact ⟨i + 1, j + 1, Z, by have := HJ.out; omega, by omega, by go_num, rfl, Lib.hid (by rw [HJ.out]), HZ⟩
        case measure => simp [intOf]; omega
      · have hji : (k : Int) < j := by omega
        have HR : Hid (X = FIN) := Lib.hid (by
          have h := HJ.out
          have e : i = k := by omega
          rw [HX.out, e]
          exact HE.out)
        go_wp2_with fail
        go_ret
        exact ⟨by rw [HR.out]; rfl, rfl⟩
set_option maxRecDepth 100000 in
set_option maxHeartbeats 1600000 in
theorem passChance_any (lot weak tested allowed : Nat) (hl : lot ≤ 60) (hw : weak ≤ lot) (ht : tested ≤ lot) (ht2 : tested ≤ 10) (ha : allowed ≤ tested) (w : World) :
    Calls Try.prog 35 #[.int .i64 lot, .int .i64 weak, .int .i64 tested, .int .i64 allowed] w fun e w' => e = .returned (.agg #[.int .i64 (chN lot weak tested allowed).1, .int .i64 (chN lot weak tested allowed).2]) ∧ Below w.heap.size w w' := by
  have hbL := bin_bd hl ht2
  have hpL := bin_pos ht
  have HSB : Hid (∀ j, j ≤ tested + 1 → hsum weak (lot - weak) tested j ≤ bin lot tested) := Lib.hid fun j hj => by
    have h1 := hsum_up weak (lot - weak) tested hj
    rw [hsum_all, show weak + (lot - weak) = lot by omega] at h1
    exact h1
  have HCH : Hid (∀ D, D = bin lot tested → chN lot weak tested allowed = (hsum weak (lot - weak) tested (allowed + 1) / Nat.gcd (hsum weak (lot - weak) tested (allowed + 1)) D, D / Nat.gcd (hsum weak (lot - weak) tested (allowed + 1)) D)) := Lib.hid fun D h => by rw [h]; rfl
  obtain ⟨M, hM⟩ : ∃ M : Nat, M = lot - weak := ⟨_, rfl⟩
  have hMi : (lot : Int) - (weak : Int) = (M : Int) := by omega
  have hM60 : M ≤ 60 := by omega
  rw [← hM] at HSB HCH
  obtain ⟨FIN, hF⟩ : ∃ F, F = chN lot weak tested allowed := ⟨_, rfl⟩
  rw [← hF]
  rw [← hF] at HCH
  have hc0 := fun W => choose_any lot tested hl ht2 W
  obtain ⟨D, hD⟩ : ∃ D, D = bin lot tested := ⟨_, rfl⟩
  rw [← hD] at hc0 hbL hpL HSB
  have HCF := Lib.hid (HCH.out D hD)
  have HC0 := Lib.hid hc0
  clear hM hF hD HCH hc0
  have hb0 : Below w.heap.size w (w.alloc (.cells #[.int .i64 0, .int .i64 0] 27)) := (Below.refl _ w).alloc (Nat.le_refl _) _
  go_enter Try.func35, Try.ntmps35
  go_wp2_with fail
  go_loop [9, 10] (fun s i => ∃ (j S : Nat), j ≤ allowed + 1 ∧ i = .int .i64 j ∧ s = .int .i64 S ∧ Hid (S = hsum weak M tested j)) (fun _ i => allowed + 1 - (intOf i).toNat)
  case atStart => exact ⟨0, 0, by omega, rfl, rfl, Lib.hid rfl⟩
  case round =>
    obtain ⟨j, S, hj, rfl, rfl, HS⟩ := hrel
    have hSD : S ≤ D := by rw [HS.out]; exact HSB.out j (by omega)
    by_cases hlt : j ≤ allowed
    · have hji : (j : Int) ≤ allowed := by omega
      obtain ⟨r, hr⟩ : ∃ r : Nat, r = tested - j := ⟨_, rfl⟩
      have hri : (tested : Int) - (j : Int) = (r : Int) := by omega
      have h1 := fun W => choose_any weak j (by omega) (by omega) W
      have h2 := fun W => choose_any M r hM60 (by omega) W
      have HN : Hid (hsum weak M tested (j + 1) = S + bin weak j * bin M r) := Lib.hid (by rw [hsum_s, HS.out, hr])
      have hB := HSB.out (j + 1) (by omega)
      rw [HN.out] at hB
      obtain ⟨Q, hQ⟩ : ∃ Q : Nat, Q = bin weak j * bin M r := ⟨_, rfl⟩
      have e1 : (bin weak j : Int) * (bin M r : Int) = (Q : Int) := by rw [hQ, intCastMul]
      rw [← hQ] at HN hB
      have e2 : IntKind.i64.wrap ((bin weak j : Int) * (bin M r : Int)) = (Q : Int) := by rw [e1]; exact wrapS (by omega) (by omega)
      have H1 := Lib.hid h1
      have H2 := Lib.hid h2
      clear hQ hr h1 h2 e1
      generalize bin weak j = b1 at *
      generalize bin M r = b2 at *
      go_wp2_with fail
      refine (H1.out _).mono ?_
      rintro e w3 ⟨rfl, rfl⟩
      go_wp2_with fail
      refine (H2.out _).mono ?_
      rintro e w3 ⟨rfl, rfl⟩
      go_wp2_with fail
      go_round
      case rel => exact ⟨j + 1, S + Q, by omega, by go_num, by go_num, Lib.hid HN.out.symm⟩
      case measure => simp [intOf]; omega
    · have hji : (allowed : Int) < j := by omega
      have HFE : Hid (FIN = (S / Nat.gcd S D, D / Nat.gcd S D)) := Lib.hid (by
        have e : j = allowed + 1 := by omega
        rw [HCF.out, HS.out, e])
      have hcl := fun W => lowest_any S D W (by omega) (by omega) hpL
      have hcl2 : ∀ W : World, Calls Try.prog 63 #[.int .i64 S, .int .i64 D] W fun e w' => e = .returned (.agg #[.int .i64 (FIN.1 : Int), .int .i64 (FIN.2 : Int)]) ∧ Below W.heap.size W w' := fun W => by rw [HFE.out]; exact hcl W
      have HCL := Lib.hid hcl2
      clear hcl hcl2
      obtain ⟨f1, f2⟩ := FIN
      simp only at HCL
      go_wp2_with fail
      refine (HC0.out _).mono ?_
      rintro e w3 ⟨rfl, rfl⟩
      go_wp2_with fail
      refine (HCL.out _).mono ?_
      rintro e w3 ⟨rfl, hb3⟩
      have q0 : w3.cell? ⟨w.heap.size, 0, none⟩ = some (.int .i64 0) := by rw [hb3.cell (p := ⟨w.heap.size, 0, none⟩) (by simp)]; go_simp
      have q1 : w3.cell? ⟨w.heap.size, 1, none⟩ = some (.int .i64 0) := by rw [hb3.cell (p := ⟨w.heap.size, 1, none⟩) (by simp)]; go_simp
      have qf : ∀ j, w3.frozen? ⟨w.heap.size, j, none⟩ = false := fun j => by rw [hb3.frozen (p := ⟨w.heap.size, j, none⟩) (by simp)]; go_simp
      have hsz := hb3.size
      simp at hsz
      have HB3 := Lib.hid (hb0.trans (hb3.mono (by simp)))
      go_wp2_with fail
      exact bodyPost_ret (v := .agg #[.int .i64 (f1 : Int), .int .i64 (f2 : Int)]) (by simp [results, Try.results35, go_sem, q0, q1, hsz]) rfl ⟨rfl, (HB3.out.setCell (p := ⟨w.heap.size, 0, none⟩) (Nat.le_refl _) _).setCell (p := ⟨w.heap.size, 1, none⟩) (Nat.le_refl _) _⟩
set_option maxRecDepth 100000 in
set_option maxHeartbeats 1600000 in
theorem l19Chance_any (lot weak tested allowed : Nat) (hl : lot ≤ 60) (hw : weak ≤ lot) (ht : tested ≤ lot) (ht2 : tested ≤ 10) (ha : allowed ≤ tested) (w : World) :
    Calls Try.prog 37 #[.int .i64 lot, .int .i64 weak, .int .i64 tested, .int .i64 allowed] w fun e w' => e = .returned (.agg #[.int .i64 (chN lot weak tested allowed).1, .int .i64 (chN lot weak tested allowed).2]) ∧ Below w.heap.size w w' := by
  have hbL := bin_bd hl ht2
  have hpL := bin_pos ht
  have HSB : Hid (∀ j, j ≤ tested + 1 → hsum weak (lot - weak) tested j ≤ bin lot tested) := Lib.hid fun j hj => by
    have h1 := hsum_up weak (lot - weak) tested hj
    rw [hsum_all, show weak + (lot - weak) = lot by omega] at h1
    exact h1
  have HCH : Hid (∀ D, D = bin lot tested → chN lot weak tested allowed = (hsum weak (lot - weak) tested (allowed + 1) / Nat.gcd (hsum weak (lot - weak) tested (allowed + 1)) D, D / Nat.gcd (hsum weak (lot - weak) tested (allowed + 1)) D)) := Lib.hid fun D h => by rw [h]; rfl
  obtain ⟨M, hM⟩ : ∃ M : Nat, M = lot - weak := ⟨_, rfl⟩
  have hMi : (lot : Int) - (weak : Int) = (M : Int) := by omega
  have hM60 : M ≤ 60 := by omega
  rw [← hM] at HSB HCH
  obtain ⟨FIN, hF⟩ : ∃ F, F = chN lot weak tested allowed := ⟨_, rfl⟩
  rw [← hF]
  rw [← hF] at HCH
  have hc0 := fun W => l19Choose_any lot tested hl ht2 W
  obtain ⟨D, hD⟩ : ∃ D, D = bin lot tested := ⟨_, rfl⟩
  rw [← hD] at hc0 hbL hpL HSB
  have HCF := Lib.hid (HCH.out D hD)
  have HC0 := Lib.hid hc0
  clear hM hF hD HCH hc0
  have hb0 : Below w.heap.size w (w.alloc (.cells #[.int .i64 0, .int .i64 0] 27)) := (Below.refl _ w).alloc (Nat.le_refl _) _
  go_enter Try.func37, Try.ntmps37
  go_wp2_with fail
  go_loop [9, 10] (fun s i => ∃ (j S : Nat), j ≤ allowed + 1 ∧ i = .int .i64 j ∧ s = .int .i64 S ∧ Hid (S = hsum weak M tested j)) (fun _ i => allowed + 1 - (intOf i).toNat)
  case atStart => exact ⟨0, 0, by omega, rfl, rfl, Lib.hid rfl⟩
  case round =>
    obtain ⟨j, S, hj, rfl, rfl, HS⟩ := hrel
    have hSD : S ≤ D := by rw [HS.out]; exact HSB.out j (by omega)
    by_cases hlt : j ≤ allowed
    · have hji : (j : Int) ≤ allowed := by omega
      obtain ⟨r, hr⟩ : ∃ r : Nat, r = tested - j := ⟨_, rfl⟩
      have hri : (tested : Int) - (j : Int) = (r : Int) := by omega
      have h1 := fun W => l19Choose_any weak j (by omega) (by omega) W
      have h2 := fun W => l19Choose_any M r hM60 (by omega) W
      have HN : Hid (hsum weak M tested (j + 1) = S + bin weak j * bin M r) := Lib.hid (by rw [hsum_s, HS.out, hr])
      have hB := HSB.out (j + 1) (by omega)
      rw [HN.out] at hB
      obtain ⟨Q, hQ⟩ : ∃ Q : Nat, Q = bin weak j * bin M r := ⟨_, rfl⟩
      have e1 : (bin weak j : Int) * (bin M r : Int) = (Q : Int) := by rw [hQ, intCastMul]
      rw [← hQ] at HN hB
      have e2 : IntKind.i64.wrap ((bin weak j : Int) * (bin M r : Int)) = (Q : Int) := by rw [e1]; exact wrapS (by omega) (by omega)
      have H1 := Lib.hid h1
      have H2 := Lib.hid h2
      clear hQ hr h1 h2 e1
      generalize bin weak j = b1 at *
      generalize bin M r = b2 at *
      go_wp2_with fail
      refine (H1.out _).mono ?_
      rintro e w3 ⟨rfl, rfl⟩
      go_wp2_with fail
      refine (H2.out _).mono ?_
      rintro e w3 ⟨rfl, rfl⟩
      go_wp2_with fail
      go_round
      case rel => exact ⟨j + 1, S + Q, by omega, by go_num, by go_num, Lib.hid HN.out.symm⟩
      case measure => simp [intOf]; omega
    · have hji : (allowed : Int) < j := by omega
      have HFE : Hid (FIN = (S / Nat.gcd S D, D / Nat.gcd S D)) := Lib.hid (by
        have e : j = allowed + 1 := by omega
        rw [HCF.out, HS.out, e])
      have hcl := fun W => l02Make_any S D W (by omega) (by omega) hpL
      have hcl2 : ∀ W : World, Calls Try.prog 65 #[.int .i64 S, .int .i64 D] W fun e w' => e = .returned (.agg #[.int .i64 (FIN.1 : Int), .int .i64 (FIN.2 : Int)]) ∧ Below W.heap.size W w' := fun W => by rw [HFE.out]; exact hcl W
      have HCL := Lib.hid hcl2
      clear hcl hcl2
      obtain ⟨f1, f2⟩ := FIN
      simp only at HCL
      go_wp2_with fail
      refine (HC0.out _).mono ?_
      rintro e w3 ⟨rfl, rfl⟩
      go_wp2_with fail
      refine (HCL.out _).mono ?_
      rintro e w3 ⟨rfl, hb3⟩
      have q0 : w3.cell? ⟨w.heap.size, 0, none⟩ = some (.int .i64 0) := by rw [hb3.cell (p := ⟨w.heap.size, 0, none⟩) (by simp)]; go_simp
      have q1 : w3.cell? ⟨w.heap.size, 1, none⟩ = some (.int .i64 0) := by rw [hb3.cell (p := ⟨w.heap.size, 1, none⟩) (by simp)]; go_simp
      have qf : ∀ j, w3.frozen? ⟨w.heap.size, j, none⟩ = false := fun j => by rw [hb3.frozen (p := ⟨w.heap.size, j, none⟩) (by simp)]; go_simp
      have hsz := hb3.size
      simp at hsz
      have HB3 := Lib.hid (hb0.trans (hb3.mono (by simp)))
      go_wp2_with fail
      exact bodyPost_ret (v := .agg #[.int .i64 (f1 : Int), .int .i64 (f2 : Int)]) (by simp [results, Try.results37, go_sem, q0, q1, hsz]) rfl ⟨rfl, (HB3.out.setCell (p := ⟨w.heap.size, 0, none⟩) (Nat.le_refl _) _).setCell (p := ⟨w.heap.size, 1, none⟩) (Nat.le_refl _) _⟩
end Go.Proofs.Ytpafdnclhenklaa
