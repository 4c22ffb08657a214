/-
  Yards: PacksAbove, TopPacks.
-/
import Derived.Test.YtiefiikheaiekaaDoorYardC
namespace Go.Proofs.YtiefiikheaiekaaDoor
open Go.ChangeShapes Go.WideShapes Go.RowKit

/-- the stack and the height of a pack; -1 if there is none -/
def fdP (X : List (List Int)) (p : Int) : Int × Int := match X.findIdx? (fun r => hasB r p) with
  | some i => ((i : Int), fIdx (fun x => x == p) (X.getD i []))
  | none => (-1, -1)
theorem hasB_take {xs : List Int} {p : Int} (h : ∀ y ∈ xs, (y == p) = false) : hasB xs p = false := by
  unfold hasB
  rw [List.any_eq_false]
  intro y hy
  simp [h y hy]
theorem fdP_hit {X : List (List Int)} {p : Int} {i k : Nat} (hi : i < X.length) (hno : ∀ j (h : j < X.length), j < i → hasB X[j] p = false) (hk : k < X[i].length) (hno2 : ∀ y ∈ X[i].take k, (y == p) = false) (hp : (X[i][k] == p) = true) : fdP X p = ((i : Int), (k : Int)) := by
  have h1 : X.findIdx? (fun r => hasB r p) = some i := by
    rw [List.findIdx?_eq_some_iff_getElem]
    refine ⟨hi, List.any_eq_true.2 ⟨X[i][k], List.getElem_mem _, hp⟩, fun j hj => ?_⟩
    rw [hno j (by omega) hj]
    simp
  unfold fdP
  rw [h1]
  simp only
  rw [getD_lt X [] hi, fIdx_hit hk hno2 hp]
theorem fdP_none {X : List (List Int)} {p : Int} (hno : ∀ j (h : j < X.length), hasB X[j] p = false) : fdP X p = (-1, -1) := by
  have h1 : X.findIdx? (fun r => hasB r p) = none := by
    rw [List.findIdx?_eq_none_iff]
    intro r hr
    obtain ⟨j, hj, rfl⟩ := List.getElem_of_mem hr
    exact hno j hj
  unfold fdP
  rw [h1]
theorem fdP_cases (X : List (List Int)) (p : Int) : (fdP X p = (-1, -1) ∧ ∀ j (h : j < X.length), hasB X[j] p = false) ∨ ∃ (i k : Nat) (hi : i < X.length) (hk : k < X[i].length), fdP X p = ((i : Int), (k : Int)) ∧ X[i][k] = p ∧ ∀ j (h : j < X.length), j < i → hasB X[j] p = false := by
  cases h : X.findIdx? (fun r => hasB r p) with
  | none =>
    rw [List.findIdx?_eq_none_iff] at h
    exact .inl ⟨fdP_none fun j hj => h _ (List.getElem_mem hj), fun j hj => h _ (List.getElem_mem hj)⟩
  | some i =>
    have h' := h
    rw [List.findIdx?_eq_some_iff_getElem] at h'
    obtain ⟨hi, hp, hno⟩ := h'
    cases h2 : X[i].findIdx? (fun x => x == p) with
    | none =>
      rw [List.findIdx?_eq_none_iff] at h2
      rw [hasB_take h2] at hp
      cases hp
    | some k =>
      have h3 := h2
      rw [List.findIdx?_eq_some_iff_getElem] at h3
      obtain ⟨hk, hp2, _⟩ := h3
      refine .inr ⟨i, k, hi, hk, ?_, by simpa using hp2, fun j hj hji => by simpa using hno j hji⟩
      unfold fdP
      rw [h]
      simp only
      rw [getD_lt X [] hi]
      unfold fIdx
      rw [h2]
def pabP' (X : List (List Int)) (p : Int) : Int × Int := if (fdP X p).1 < 0 then (0, 3) else (((X.getD (fdP X p).1.toNat []).length : Int) - 1 - (fdP X p).2, 0)
noncomputable def pabP (X : List (List Int)) (p : Int) : Int × Int := if vyB X = true then pabP' X p else (0, 1)

set_option maxRecDepth 100000 in
set_option maxHeartbeats 3200000 in
theorem l20Find_any (A : Option Addr) (c : Nat) (rs : List (Row Int)) (p : Int) (B : Nat) (w : World) (hr : RdR LI w B A c rs) :
    Calls Tryd.prog 45 #[.slice A rs.length c, .int .i64 p] w fun e w' => e = .returned (.tuple #[.int .i64 (fdP (dat rs) p).1, .int .i64 (fdP (dat rs) p).2]) ∧ w = w' := by
  have hlen := hr.len63
  have hX := dat_len rs
  obtain ⟨FIN, hF⟩ : ∃ F, F = fdP (dat rs) p := ⟨_, rfl⟩
  rw [← hF]
  have HF := Lib.hid hF
  have HX := Lib.hid hX
  clear hF hX
  go_enter Tryd.func45, Tryd.ntmps45
  go_wp2_with fail
  go_loop [6] (fun i => ∃ k : Nat, k ≤ rs.length ∧ i = .int .i64 k ∧ Hid (∀ j (h : j < (dat rs).length), j < k → hasB (dat rs)[j] p = false)) (fun i => rs.length - (intOf i).toNat)
  case atStart => exact ⟨0, by omega, rfl, Lib.hid (fun j _ h => by omega)⟩
  case round =>
    obtain ⟨i, hi, rfl, HN⟩ := hrel
    by_cases hlt : i < rs.length
    · have hli : (i : Int) < rs.length := by omega
      obtain ⟨ad, rfl, _, hc, hrk⟩ := hr.at_ hlt
      have HE : Hid ((dat rs)[i]'(by rw [HX.out]; exact hlt) = rs[i].2.2) := Lib.hid (dat_get rs i hlt)
      have HRK := Lib.hid hrk
      clear hrk
      generalize rs[i].2.2 = ys at *
      generalize rs[i].1 = Ay at *
      generalize rs[i].2.1 = cy at *
      have hyl := HRK.out.len63
      go_wp2_with fail
      go_loop [7] (fun i => ∃ k : Nat, k ≤ ys.length ∧ i = .int .i64 k ∧ Hid (∀ y ∈ ys.take k, (y == p) = false)) (fun i => ys.length - (intOf i).toNat)
      case atStart => exact ⟨0, by omega, rfl, Lib.hid (by simp)⟩
      case round =>
        obtain ⟨k, hk, rfl, HN2⟩ := hrel
        by_cases hkl : k < ys.length
        · have hki : (k : Int) < ys.length := by omega
          obtain ⟨ay, rfl, _, hcy⟩ := HRK.out.int hkl
          cases hb : (ys[k] == p)
          · have HN3 := Lib.hid (take_no hkl HN2.out hb)
            go_wp2_with fail
            go_round
            case rel => exact ⟨k + 1, by omega, by go_num, HN3⟩
            case measure => simp [intOf]; omega
          · have HR : Hid (FIN = ((i : Int), (k : Int))) := Lib.hid (by
              rw [HF.out]
              exact fdP_hit (by rw [HX.out]; exact hlt) HN.out (by rw [HE.out]; exact hkl) (by rw [HE.out]; exact HN2.out) (by simp only [HE.out]; exact hb))
            go_wp2_with fail
            go_ret2
            exact ⟨by rw [HR.out]; rfl, rfl⟩
        · obtain rfl : k = ys.length := by omega
          have HB : Hid (hasB ((dat rs)[i]'(by rw [HX.out]; exact hlt)) p = false) := Lib.hid (by
            rw [HE.out]
            have := HN2.out
            rw [List.take_of_length_le (Nat.le_refl _)] at this
            exact hasB_take this)
          go_wp2_with fail
          go_round
          case rel =>
            refine ⟨i + 1, by omega, by go_num, Lib.hid (fun j hj hji => ?_)⟩
            by_cases e : j = i
            · subst e; exact HB.out
            · exact HN.out j hj (by omega)
          case measure => simp [intOf]; omega
    · obtain rfl : i = rs.length := by omega
      have HR : Hid (FIN = (-1, -1)) := Lib.hid (by
        rw [HF.out]
        exact fdP_none fun j hj => HN.out j hj (by rw [HX.out] at hj; exact hj))
      go_wp2_with fail
      go_ret2
      exact ⟨by rw [HR.out]; rfl, rfl⟩

/-! TopPacks -/
def topL (r : List Int) : Int := if r.length = 0 then 0 else r.getD (r.length - 1) 0
noncomputable def tpP (X : List (List Int)) : List Int × Int := if vyB X = true then (X.map topL, 0) else ([], 1)
theorem tpP_len (X : List (List Int)) : (tpP X).1.length ≤ 1048576 := by
  unfold tpP
  split
  · rename_i h
    have := (dB_true h).1
    simp; omega
  · simp
theorem topY_any (A : Option Addr) (c : Nat) (xs : List Int) (B : Nat) (w : World) (hr : Rd LI w B A c xs) :
    Calls Tryd.prog 48 #[.slice A xs.length c] w fun e w' => e = .returned (.int .i64 (topL xs)) ∧ w = w' := by
  have hlen := hr.len63
  by_cases h0 : xs.length = 0
  · have HT : Hid (topL xs = 0) := Lib.hid (by unfold topL; rw [if_pos h0])
    have hz : ((xs.length : Int) == 0) = true := by rw [beq_iff_eq]; omega
    have hz2 : (xs.length == 0) = true := by rw [beq_iff_eq]; omega
    rw [HT.out]
    clear h0
    go_enter Tryd.func48, Tryd.ntmps48
    go_wp2_with fail
    go_ret
    exact ⟨rfl, rfl⟩
  · obtain ⟨ad, rfl, _, hc⟩ := hr.int (k := xs.length - 1) (by omega)
    have HT : Hid (topL xs = xs[xs.length - 1]'(by omega)) := Lib.hid (by unfold topL; rw [if_neg h0, getD_lt xs 0 (by omega)])
    obtain ⟨t, ht⟩ : ∃ t, t = xs[xs.length - 1]'(by omega) := ⟨_, rfl⟩
    rw [← ht] at hc HT
    rw [HT.out]
    have hz : ((xs.length : Int) == 0) = false := by rw [beq_eq_false_iff_ne]; omega
    have hz2 : (xs.length == 0) = false := by rw [beq_eq_false_iff_ne]; omega
    have h1 : (0 : Int) ≤ (xs.length : Int) - 1 := by omega
    have h2 : (xs.length : Int) - 1 < xs.length := by omega
    have h3 : ((xs.length : Int) - 1).toNat = xs.length - 1 := by omega
    have h4 : (1 : Int) ≤ xs.length := by omega
    clear h0 ht
    go_enter Tryd.func48, Tryd.ntmps48
    go_wp2_with fail
    go_ret
    exact ⟨rfl, rfl⟩
theorem l20TopY_any (A : Option Addr) (c : Nat) (xs : List Int) (B : Nat) (w : World) (hr : Rd LI w B A c xs) :
    Calls Tryd.prog 43 #[.slice A xs.length c] w fun e w' => e = .returned (.int .i64 (topL xs)) ∧ w = w' := by
  have hlen := hr.len63
  by_cases h0 : xs.length = 0
  · have HT : Hid (topL xs = 0) := Lib.hid (by unfold topL; rw [if_pos h0])
    have hz : ((xs.length : Int) == 0) = true := by rw [beq_iff_eq]; omega
    have hz2 : (xs.length == 0) = true := by rw [beq_iff_eq]; omega
    rw [HT.out]
    clear h0
    go_enter Tryd.func43, Tryd.ntmps43
    go_wp2_with fail
    go_ret
    exact ⟨rfl, rfl⟩
  · obtain ⟨ad, rfl, _, hc⟩ := hr.int (k := xs.length - 1) (by omega)
    have HT : Hid (topL xs = xs[xs.length - 1]'(by omega)) := Lib.hid (by unfold topL; rw [if_neg h0, getD_lt xs 0 (by omega)])
    obtain ⟨t, ht⟩ : ∃ t, t = xs[xs.length - 1]'(by omega) := ⟨_, rfl⟩
    rw [← ht] at hc HT
    rw [HT.out]
    have hz : ((xs.length : Int) == 0) = false := by rw [beq_eq_false_iff_ne]; omega
    have hz2 : (xs.length == 0) = false := by rw [beq_eq_false_iff_ne]; omega
    have h1 : (0 : Int) ≤ (xs.length : Int) - 1 := by omega
    have h2 : (xs.length : Int) - 1 < xs.length := by omega
    have h3 : ((xs.length : Int) - 1).toNat = xs.length - 1 := by omega
    have h4 : (1 : Int) ≤ xs.length := by omega
    clear h0 ht
    go_enter Tryd.func43, Tryd.ntmps43
    go_wp2_with fail
    go_ret
    exact ⟨rfl, rfl⟩

end Go.Proofs.YtiefiikheaiekaaDoor
