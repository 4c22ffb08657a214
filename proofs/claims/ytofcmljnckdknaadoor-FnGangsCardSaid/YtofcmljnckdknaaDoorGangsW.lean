/-
  Gangs: ValidWork.
-/
import Derived.Test.YtofcmljnckdknaaDoorGangsC
import Derived.Test.YtofcmljnckdknaaDoorFlatWork
namespace Go.Proofs.YtofcmljnckdknaaDoor
open Go.ChangeShapes Go.WideShapes Go.RowKit

/-- does hand i lay? -/
def laysAt (xs : List HandD) (i : Int) : Bool := match xs[i.toNat]? with | some h => h.2.2 | none => false
def wkOk (xs : List HandD) (x : WorkD) : Bool := inB x.1 0 ((xs.length : Int) - 1) && inB x.2.1 0 10000 && inB x.2.2.1 0 100000 && inB x.2.2.2 0 16 && (decide (x.2.2.1 ≤ 0) || (laysAt xs x.1 && !(x.2.2.2 == 0)))
def vwB (xs : List HandD) (ws : List WorkD) : Bool := gangB xs && decide ((ws.length : Int) ≤ 100) && !ws.any (fun x => !wkOk xs x)
theorem laysAt_nat {xs : List HandD} {k : Nat} (h : k < xs.length) : laysAt xs (k : Int) = xs[k].2.2 := by simp [laysAt, h]
theorem vw_parts {xs : List HandD} {ws : List WorkD} (h : vwB xs ws = true) : gangB xs = true ∧ ws.length ≤ 100 ∧ ∀ x ∈ ws, wkOk xs x = true := by
  simp only [vwB, Bool.and_eq_true, decide_eq_true_eq, Bool.not_eq_true'] at h
  refine ⟨h.1.1, by omega, fun x hx => ?_⟩
  have := List.any_eq_false.1 h.2 x hx
  simpa using this
theorem wk_parts {xs : List HandD} {x : WorkD} (h : wkOk xs x = true) : (0 ≤ x.1 ∧ x.1 ≤ (xs.length : Int) - 1) ∧ (0 ≤ x.2.1 ∧ x.2.1 ≤ 10000) ∧ (0 ≤ x.2.2.1 ∧ x.2.2.1 ≤ 100000) ∧ 0 ≤ x.2.2.2 ∧ x.2.2.2 ≤ 16 := by
  simp only [wkOk, Bool.and_eq_true] at h
  exact ⟨inB_yes h.1.1.1.1, inB_yes h.1.1.1.2, inB_yes h.1.1.2, inB_yes h.1.2⟩

set_option maxHeartbeats 3200000 in
theorem ValidWork1_any (f0 f1 f2 f3 : Int) (A : Option Addr) (c : Nat) (xs : List HandD) (g B : Nat) (w : World) (hg : g < w.heap.size) (hB : B ≤ w.heap.size) (hr : Rd LHand w B A c xs) (hc : w.cell? ⟨g, 0, none⟩ = some (.slice A xs.length c)) :
    Calls Tryd.prog 64 #[.agg #[.int .i64 f0, .int .i64 f1, .int .i64 f2, .int .i64 f3], .pointer (some ⟨g, 0, none⟩)] w fun e w' => e = .returned (.bool (!wkOk xs (f0, f1, f2, f3))) ∧ Below w.heap.size w w' := by
  have hlen := hr.len63
  have hb0 := (Below.refl w.heap.size w).alloc (Nat.le_refl _) (.cells #[.int .i64 f0, .int .i64 f1, .int .i64 f2, .int .i64 f3] 56)
  cases h1 : inB f0 0 ((xs.length : Int) - 1)
  · have HV : Hid (wkOk xs (f0, f1, f2, f3) = false) := Lib.hid (by simp [wkOk, h1])
    rw [HV.out]
    go_enter Tryd.func64, Tryd.ntmps64
    go_wp2_with (go_at_call 52; refine (within_any _ _ _ _).mono ?_; rintro e w' ⟨rfl, rfl⟩)
    go_ret
    exact ⟨rfl, hb0⟩
  cases h2 : inB f1 0 10000
  · have HV : Hid (wkOk xs (f0, f1, f2, f3) = false) := Lib.hid (by simp [wkOk, h2])
    rw [HV.out]
    go_enter Tryd.func64, Tryd.ntmps64
    go_wp2_with (go_at_call 52; refine (within_any _ _ _ _).mono ?_; rintro e w' ⟨rfl, rfl⟩)
    go_ret
    exact ⟨rfl, hb0⟩
  cases h3 : inB f2 0 100000
  · have HV : Hid (wkOk xs (f0, f1, f2, f3) = false) := Lib.hid (by simp [wkOk, h3])
    rw [HV.out]
    go_enter Tryd.func64, Tryd.ntmps64
    go_wp2_with (go_at_call 52; refine (within_any _ _ _ _).mono ?_; rintro e w' ⟨rfl, rfl⟩)
    go_ret
    exact ⟨rfl, hb0⟩
  cases h4 : inB f3 0 16
  · have HV : Hid (wkOk xs (f0, f1, f2, f3) = false) := Lib.hid (by simp [wkOk, h4])
    rw [HV.out]
    go_enter Tryd.func64, Tryd.ntmps64
    go_wp2_with (go_at_call 52; refine (within_any _ _ _ _).mono ?_; rintro e w' ⟨rfl, rfl⟩)
    go_ret
    exact ⟨rfl, hb0⟩
  by_cases h5 : f2 ≤ 0
  · have HV : Hid (wkOk xs (f0, f1, f2, f3) = true) := Lib.hid (by simp [wkOk, h1, h2, h3, h4, h5])
    rw [HV.out]
    go_enter Tryd.func64, Tryd.ntmps64
    go_wp2_with (go_at_call 52; refine (within_any _ _ _ _).mono ?_; rintro e w' ⟨rfl, rfl⟩)
    go_ret
    exact ⟨rfl, hb0⟩
  have h5' : 0 < f2 := by omega
  obtain ⟨k, rfl⟩ : ∃ k : Nat, f0 = k := ⟨f0.toNat, by have := inB_yes h1; omega⟩
  have hk : k < xs.length := by have := inB_yes h1; omega
  have hk0 : (k : Int) < xs.length := by omega
  obtain ⟨ad, rfl, hab, e0, e1, e2⟩ := rdHand hr hk
  have hab' : (ad.add (k * 3)).block < w.heap.size := by rw [block_of_add]; omega
  have hd5 : decide (f2 ≤ 0) = false := by simpa using h5'
  cases h6 : xs[k].2.2
  · have HV : Hid (wkOk xs ((k : Int), f1, f2, f3) = false) := Lib.hid (by simp only [wkOk, hd5, laysAt_nat hk, h6]; simp)
    rw [HV.out]
    rw [h6] at e2
    clear h5
    go_enter Tryd.func64, Tryd.ntmps64
    go_wp2_with (go_at_call 52; refine (within_any _ _ _ _).mono ?_; rintro e w' ⟨rfl, rfl⟩)
    go_ret
    exact ⟨rfl, hb0⟩
  · rw [h6] at e2
    cases h7 : (f3 == 0)
    · have HV : Hid (wkOk xs ((k : Int), f1, f2, f3) = true) := Lib.hid (by simp only [wkOk, h1, h2, h3, h4, hd5, laysAt_nat hk, h6, h7]; simp)
      rw [HV.out]
      clear h5
      go_enter Tryd.func64, Tryd.ntmps64
      go_wp2_with (go_at_call 52; refine (within_any _ _ _ _).mono ?_; rintro e w' ⟨rfl, rfl⟩)
      go_ret
      exact ⟨rfl, hb0⟩
    · have HV : Hid (wkOk xs ((k : Int), f1, f2, f3) = false) := Lib.hid (by simp only [wkOk, hd5, laysAt_nat hk, h6, h7]; simp)
      rw [HV.out]
      clear h5
      go_enter Tryd.func64, Tryd.ntmps64
      go_wp2_with (go_at_call 52; refine (within_any _ _ _ _).mono ?_; rintro e w' ⟨rfl, rfl⟩)
      go_ret
      exact ⟨rfl, hb0⟩
theorem eg_ValidWork1 : ∀ args w, (callFunc 64 args).run Tryd.prog w = .ok (.enter 64 args) w := by
  intro args w
  kernel_rfl

set_option maxHeartbeats 1600000 in
theorem implValidWork_any (A : Option Addr) (c : Nat) (xs : List HandD) (A2 : Option Addr) (c2 : Nat) (ws : List WorkD) (w : World) (hr : Rd LHand w w.heap.size A c xs) (hr2 : Rd LWork w w.heap.size A2 c2 ws) (hok : ∀ n ∈ xs, OkHand n) :
    Calls Tryd.prog 30 #[.slice A xs.length c, .slice A2 ws.length c2] w fun e w' => e = .returned (.bool (vwB xs ws)) ∧ Below w.heap.size w w' := by
  have hlen := hr.len63
  have hlen2 := hr2.len63
  have hb0 := (Below.refl w.heap.size w).alloc (Nat.le_refl _) (.cells #[.slice A xs.length c] 24)
  have hcg := implValidGang_any A c xs (w.alloc (.cells #[.slice A xs.length c] 24)) (hr.al _) hok
  cases hv : gangB xs
  · have HV : Hid (vwB xs ws = false) := Lib.hid (by simp [vwB, hv])
    rw [hv] at hcg
    go_enter Tryd.func30, Tryd.ntmps30
    go_wp2_with fail
    refine hcg.mono ?_
    rintro e w1 ⟨rfl, hc1⟩
    go_wp2_with fail
    go_ret
    exact ⟨ret_bool HV.out.symm, bthen hb0 (Nat.le_refl _) hc1⟩
  · rw [hv] at hcg
    by_cases hn : (ws.length : Int) ≤ 100
    · have HV : Hid (vwB xs ws = !ws.any (fun x => !wkOk xs x)) := Lib.hid (by simp only [vwB, hv, hn, decide_true, Bool.true_and])
      go_enter Tryd.func30, Tryd.ntmps30
      go_wp2_with fail
      refine hcg.mono ?_
      rintro e w1 ⟨rfl, hc1⟩
      have hb1 := bthen hb0 (Nat.le_refl _) hc1
      have hs1 := hc1.size
      simp at hs1
      have q0 : w1.cell? ⟨w.heap.size, 0, none⟩ = some (.slice A xs.length c) := (hc1.cell (by simp)).trans (by go_simp)
      have hcc := containsWork_any A2 c2 ws 64 #[.pointer (some ⟨w.heap.size, 0, none⟩)] (fun x => !wkOk xs x) w1.heap.size w1 (Nat.le_refl _) ((hr2.below hb1).more hb1.size)
        ⟨eg_ValidWork1, fun x _ W hW => ValidWork1_any x.1 x.2.1 x.2.2.1 x.2.2.2 A c xs w.heap.size w.heap.size W (by have := hW.size; omega) (by have := hW.size; omega) ((hr.below hb1).below (hW.mono (by omega))) (by rw [hW.cell (by simp; omega)]; exact q0)⟩
      go_wp2_with fail
      refine hcc.mono ?_
      rintro e w2 ⟨rfl, hc2⟩
      go_wp2_with fail
      go_ret
      exact ⟨ret_bool HV.out.symm, bthen hb1 (Nat.le_refl _) hc2⟩
    · have HV : Hid (vwB xs ws = false) := Lib.hid (by simp [vwB]; omega)
      go_enter Tryd.func30, Tryd.ntmps30
      go_wp2_with fail
      refine hcg.mono ?_
      rintro e w1 ⟨rfl, hc1⟩
      go_wp2_with fail
      go_ret
      exact ⟨ret_bool HV.out.symm, bthen hb0 (Nat.le_refl _) hc1⟩

theorem vw_hit {xs : List HandD} {ws : List WorkD} {k : Nat} (h : k < ws.length) (hk : wkOk xs ws[k] = false) : vwB xs ws = false := by
  have : ws.any (fun x => !wkOk xs x) = true := List.any_eq_true.2 ⟨ws[k], List.getElem_mem h, by rw [hk]; rfl⟩
  simp [vwB, this]
theorem vw_step {xs : List HandD} {ws : List WorkD} {k : Nat} (h : k < ws.length) (h0 : (ws.take k).any (fun x => !wkOk xs x) = false) (hk : wkOk xs ws[k] = true) : (ws.take (k + 1)).any (fun x => !wkOk xs x) = false := by
  rw [List.take_succ_eq_append_getElem h, List.any_append, h0]
  simp [hk]

set_option maxRecDepth 100000 in
set_option maxHeartbeats 3200000 in
theorem l23Work_any (A : Option Addr) (c : Nat) (xs : List HandD) (A2 : Option Addr) (c2 : Nat) (ws : List WorkD) (B : Nat) (w : World) (hr : Rd LHand w B A c xs) (hr2 : Rd LWork w B A2 c2 ws) (hok : ∀ n ∈ xs, OkHand n) :
    Calls Tryd.prog 44 #[.slice A xs.length c, .slice A2 ws.length c2] w fun e w' => e = .returned (.bool (vwB xs ws)) ∧ Dr w w' := by
  have hlen := hr.len63
  have hlen2 := hr2.len63
  go_enter Tryd.func44, Tryd.ntmps44
  go_wp2_with fail
  go_loop [5, 6] (fun i u => ∃ (k : Nat) (v : Value), k ≤ ws.length ∧ i = .int .i64 k ∧ u = v ∧ Hid ((ws.take k).any (fun x => !wkOk xs x) = false)) (fun i _ => ws.length - (intOf i).toNat)
  case atStart => exact ⟨0, _, by omega, rfl, rfl, Lib.hid rfl⟩
  case round =>
    obtain ⟨k, v, hk, rfl, rfl, Hno⟩ := hrel
    by_cases hlt : k < ws.length
    · obtain ⟨ad2, rfl, hab2, d0, d1, d2, d3⟩ := rdWork hr2 hlt
      have HT := Lib.hid (vw_step (xs := xs) hlt Hno.out)
      have HF := Lib.hid (vw_hit (xs := xs) hlt)
      have HE : Hid (ws[k] = (ws[k].1, ws[k].2.1, ws[k].2.2.1, ws[k].2.2.2)) := Lib.hid rfl
      rw [HE.out] at HT HF
      generalize ws[k].1 = f0 at *
      generalize ws[k].2.1 = f1 at *
      generalize ws[k].2.2.1 = f2 at *
      generalize ws[k].2.2.2 = f3 at *
      clear HE
      cases h1 : inB f0 0 ((xs.length : Int) - 1)
      · have HV := Lib.hid (HF.out (by simp [wkOk, h1]))
        go_wp2_with (go_at_call 54; refine (l00In_any _ _ _ _).mono ?_; rintro e w' ⟨rfl, rfl⟩)
        go_ret
        exact ⟨ret_bool HV.out.symm, Dr.refl _⟩
      cases h2 : inB f1 0 10000
      · have HV := Lib.hid (HF.out (by simp [wkOk, h2]))
        go_wp2_with (go_at_call 54; refine (l00In_any _ _ _ _).mono ?_; rintro e w' ⟨rfl, rfl⟩)
        go_ret
        exact ⟨ret_bool HV.out.symm, Dr.refl _⟩
      cases h3 : inB f2 0 100000
      · have HV := Lib.hid (HF.out (by simp [wkOk, h3]))
        go_wp2_with (go_at_call 54; refine (l00In_any _ _ _ _).mono ?_; rintro e w' ⟨rfl, rfl⟩)
        go_ret
        exact ⟨ret_bool HV.out.symm, Dr.refl _⟩
      cases h4 : inB f3 0 16
      · have HV := Lib.hid (HF.out (by simp [wkOk, h4]))
        go_wp2_with (go_at_call 54; refine (l00In_any _ _ _ _).mono ?_; rintro e w' ⟨rfl, rfl⟩)
        go_ret
        exact ⟨ret_bool HV.out.symm, Dr.refl _⟩
      by_cases h5 : f2 ≤ 0
      · have HV := Lib.hid (HT.out (by simp [wkOk, h1, h2, h3, h4, h5]))
        go_wp2_with (go_at_call 54; refine (l00In_any _ _ _ _).mono ?_; rintro e w' ⟨rfl, rfl⟩)
        go_round
        case rel => exact ⟨k + 1, _, by omega, by go_num, rfl, HV⟩
        case measure => simp [intOf]; omega
      have h5' : 0 < f2 := by omega
      obtain ⟨m, rfl⟩ : ∃ m : Nat, f0 = m := ⟨f0.toNat, by have := inB_yes h1; omega⟩
      have hm : m < xs.length := by have := inB_yes h1; omega
      have hm0 : (m : Int) < xs.length := by omega
      obtain ⟨ad, rfl, hab, e0, e1, e2⟩ := rdHand hr hm
      have hd5 : decide (f2 ≤ 0) = false := by simpa using h5'
      cases h6 : xs[m].2.2
      · have HV := Lib.hid (HF.out (by simp only [wkOk, hd5, laysAt_nat hm, h6]; simp))
        rw [h6] at e2
        clear h5
        go_wp2_with (go_at_call 54; refine (l00In_any _ _ _ _).mono ?_; rintro e w' ⟨rfl, rfl⟩)
        go_ret
        exact ⟨ret_bool HV.out.symm, Dr.refl _⟩
      · rw [h6] at e2
        cases h7 : (f3 == 0)
        · have HV := Lib.hid (HT.out (by simp only [wkOk, h1, h2, h3, h4, hd5, laysAt_nat hm, h6, h7]; simp))
          clear h5
          go_wp2_with (go_at_call 54; refine (l00In_any _ _ _ _).mono ?_; rintro e w' ⟨rfl, rfl⟩)
          go_round
          case rel => exact ⟨k + 1, _, by omega, by go_num, rfl, HV⟩
          case measure => simp [intOf]; omega
        · have HV := Lib.hid (HF.out (by simp only [wkOk, hd5, laysAt_nat hm, h6, h7]; simp))
          clear h5
          go_wp2_with (go_at_call 54; refine (l00In_any _ _ _ _).mono ?_; rintro e w' ⟨rfl, rfl⟩)
          go_ret
          exact ⟨ret_bool HV.out.symm, Dr.refl _⟩
    · have HA : Hid (ws.any (fun x => !wkOk xs x) = false) := Lib.hid (by have := Hno.out; rw [List.take_of_length_le (by omega)] at this; exact this)
      have hcg := l23Ok_any A c xs B w hr hok
      cases hv : gangB xs
      · have HV : Hid (vwB xs ws = false) := Lib.hid (by simp [vwB, hv])
        rw [hv] at hcg
        go_wp2_with fail
        refine hcg.mono ?_
        rintro e w1 ⟨rfl, hd⟩
        go_wp2_with fail
        go_ret
        exact ⟨ret_bool HV.out.symm, hd⟩
      · have HV : Hid (vwB xs ws = decide ((ws.length : Int) ≤ 100)) := Lib.hid (by simp only [vwB, hv, HA.out]; simp)
        rw [hv] at hcg
        go_wp2_with fail
        refine hcg.mono ?_
        rintro e w1 ⟨rfl, hd⟩
        go_wp2_with fail
        go_ret
        exact ⟨ret_bool HV.out.symm, hd⟩

theorem specValidWork_any (A : Option Addr) (c : Nat) (xs : List HandD) (A2 : Option Addr) (c2 : Nat) (ws : List WorkD) (w : World) (hr : Rd LHand w w.heap.size A c xs) (hr2 : Rd LWork w w.heap.size A2 c2 ws) (hok : ∀ n ∈ xs, OkHand n) :
    Calls Tryd.prog 31 #[.slice A xs.length c, .slice A2 ws.length c2] w fun e w' => e = .returned (.bool (vwB xs ws)) ∧ Below w.heap.size w w' := by
  go_enter Tryd.func31, Tryd.ntmps31
  go_wp2_with fail
  refine (l23Work_any A c xs A2 c2 ws _ _ hr hr2 hok).mono ?_
  rintro e w1 ⟨rfl, hd⟩
  go_wp2_with fail
  go_ret
  exact ⟨rfl, hd.below⟩
end Go.Proofs.YtofcmljnckdknaaDoor
