/-
  Yards: PacksAbove, TopPacks.
-/
import Derived.Test.YtjgpppcjhneibaaGreatDoorYardC
namespace Go.Proofs.YtjgpppcjhneibaaGreatDoor
open Go.ChangeShapes Go.WideShapes Go.RowKit

/-- the stack and the height of a pack; -1 if there is none -/
def fdP (X : List (List Int)) (p : Int) : Int × Int := match X.findIdx? (fun r => hasB r p) with
  | some i => ((i : Int), fIdx (fun x => x == p) (X.getD i []))
  | none => (-1, -1)
theorem hasB_take {xs : List Int} {p : Int} (h : ∀ y ∈ xs, (y == p) = false) : hasB xs p = false := by
  unfold hasB
  rw [List.any_eq_false]
  intro y hy
  simp [h y hy]
theorem fdP_hit {X : List (List Int)} {p : Int} {i k : Nat} (hi : i < X.length) (hno : ∀ j (h : j < X.length), j < i → hasB X[j] p = false) (hk : k < X[i].length) (hno2 : ∀ y ∈ X[i].take k, (y == p) = false) (hp : (X[i][k] == p) = true) : fdP X p = ((i : Int), (k : Int)) := by
  have h1 : X.findIdx? (fun r => hasB r p) = some i := by
    rw [List.findIdx?_eq_some_iff_getElem]
    refine ⟨hi, List.any_eq_true.2 ⟨X[i][k], List.getElem_mem _, hp⟩, fun j hj => ?_⟩
    rw [hno j (by omega) hj]
    simp
  unfold fdP
  rw [h1]
  simp only
  rw [getD_lt X [] hi, fIdx_hit hk hno2 hp]
theorem fdP_none {X : List (List Int)} {p : Int} (hno : ∀ j (h : j < X.length), hasB X[j] p = false) : fdP X p = (-1, -1) := by
  have h1 : X.findIdx? (fun r => hasB r p) = none := by
    rw [List.findIdx?_eq_none_iff]
    intro r hr
    obtain ⟨j, hj, rfl⟩ := List.getElem_of_mem hr
    exact hno j hj
  unfold fdP
  rw [h1]
theorem fdP_cases (X : List (List Int)) (p : Int) : (fdP X p = (-1, -1) ∧ ∀ j (h : j < X.length), hasB X[j] p = false) ∨ ∃ (i k : Nat) (hi : i < X.length) (hk : k < X[i].length), fdP X p = ((i : Int), (k : Int)) ∧ X[i][k] = p ∧ ∀ j (h : j < X.length), j < i → hasB X[j] p = false := by
  cases h : X.findIdx? (fun r => hasB r p) with
  | none =>
    rw [List.findIdx?_eq_none_iff] at h
    exact .inl ⟨fdP_none fun j hj => h _ (List.getElem_mem hj), fun j hj => h _ (List.getElem_mem hj)⟩
  | some i =>
    have h' := h
    rw [List.findIdx?_eq_some_iff_getElem] at h'
    obtain ⟨hi, hp, hno⟩ := h'
    cases h2 : X[i].findIdx? (fun x => x == p) with
    | none =>
      rw [List.findIdx?_eq_none_iff] at h2
      rw [hasB_take h2] at hp
      cases hp
    | some k =>
      have h3 := h2
      rw [List.findIdx?_eq_some_iff_getElem] at h3
      obtain ⟨hk, hp2, _⟩ := h3
      refine .inr ⟨i, k, hi, hk, ?_, by simpa using hp2, fun j hj hji => by simpa using hno j hji⟩
      unfold fdP
      rw [h]
      simp only
      rw [getD_lt X [] hi]
      unfold fIdx
      rw [h2]
def pabP' (X : List (List Int)) (p : Int) : Int × Int := if (fdP X p).1 < 0 then (0, 3) else (((X.getD (fdP X p).1.toNat []).length : Int) - 1 - (fdP X p).2, 0)
noncomputable def pabP (X : List (List Int)) (p : Int) : Int × Int := if vyB X = true then pabP' X p else (0, 1)

set_option maxRecDepth 100000 in
set_option maxHeartbeats 1600000 in
theorem implPacksAbove_any (A : Option Addr) (c : Nat) (rs : List (Row Int)) (p : Int) (w : World) (hr : RdR LI w w.heap.size A c rs) (hn : tlL (dat rs) ≤ 1048576) :
    Calls Tryz.prog 15 #[.slice A rs.length c, .int .i64 p] w fun e w' => e = .returned (.tuple #[.int .i64 (pabP (dat rs) p).1, .int .i64 (pabP (dat rs) p).2]) ∧ Below w.heap.size w w' := by
  have hlen := hr.len63
  have hc := implValidYard_any A c rs w hr hn
  obtain ⟨FIN, hF⟩ : ∃ F, F = pabP (dat rs) p := ⟨_, rfl⟩
  rw [← hF]
  cases hv : vyB (dat rs)
  · have HR : Hid (FIN = (0, 1)) := Lib.hid (by rw [hF]; unfold pabP; rw [if_neg (by simp [hv])])
    rw [hv] at hc
    clear hF hv
    go_enter Tryz.func15, Tryz.ntmps15
    go_wp2_with fail
    refine hc.mono ?_
    rintro e w1 ⟨rfl, hb1⟩
    go_wp2_with fail
    go_ret2
    exact ⟨by rw [HR.out]; rfl, hb1⟩
  · have HV : Hid (FIN = pabP' (dat rs) p) := Lib.hid (by rw [hF]; unfold pabP; rw [if_pos hv])
    rw [hv] at hc
    have HX := Lib.hid (dat_len rs)
    clear hF hv
    go_enter Tryz.func15, Tryz.ntmps15
    go_wp2_with fail
    refine hc.mono ?_
    rintro e w1 ⟨rfl, hb1⟩
    clear hc
    go_wp2_with fail
    go_loopw [14] (fun i wr => ∃ k : Nat, k ≤ rs.length ∧ i = .int .i64 k ∧ Hid (∀ j (h : j < (dat rs).length), j < k → hasB (dat rs)[j] p = false) ∧ Hid (Below w.heap.size w wr)) (fun i _ => rs.length - (intOf i).toNat)
    case atStart => exact ⟨0, by omega, rfl, Lib.hid (fun j _ h => by omega), Lib.hid hb1⟩
    case round =>
      obtain ⟨i, hi, rfl, HN, HB⟩ := hrel
      by_cases hlt : i < rs.length
      · have hli : (i : Int) < rs.length := by omega
        obtain ⟨ad, rfl, _, hcell, hrk⟩ := (hr.below HB.out).at_ hlt
        have HE : Hid ((dat rs)[i]'(by rw [HX.out]; exact hlt) = rs[i].2.2) := Lib.hid (dat_get rs i hlt)
        have HG : Hid ((dat rs).getD i [] = rs[i].2.2) := Lib.hid (getD_datY rs i hlt)
        have hix := slicesIndex_any rs[i].1 rs[i].2.1 rs[i].2.2 p w.heap.size wr hrk
        have hyl := hrk.len63
        clear hrk
        generalize rs[i].2.2 = ys at *
        generalize rs[i].1 = Ay at *
        generalize rs[i].2.1 = cy at *
        cases hf : ys.findIdx? (fun x => x == p) with
        | none =>
          have e1 : fIdx (fun x => x == p) ys = -1 := by unfold fIdx; rw [hf]
          rw [List.findIdx?_eq_none_iff] at hf
          have HBn : Hid (hasB ((dat rs)[i]'(by rw [HX.out]; exact hlt)) p = false) := Lib.hid (by rw [HE.out]; exact hasB_take hf)
          rw [e1] at hix
          clear hf e1
          go_wp2_with fail
          refine hix.mono ?_
          rintro e w2 ⟨rfl, hd⟩
          have HB2 := Lib.hid (HB.out.trans hd.below)
          clear hd hix
          go_wp2_with fail
          go_roundw
          case rel =>
            refine ⟨i + 1, by omega, by go_num, Lib.hid (fun j hj hji => ?_), HB2⟩
            by_cases e : j = i
            · subst e; exact HBn.out
            · exact HN.out j hj (by omega)
          case measure => simp [intOf]; omega
        | some k =>
          have e1 : fIdx (fun x => x == p) ys = (k : Int) := by unfold fIdx; rw [hf]
          rw [List.findIdx?_eq_some_iff_getElem] at hf
          obtain ⟨hk, hp, hno⟩ := hf
          have HFD : Hid (fdP (dat rs) p = ((i : Int), (k : Int))) := Lib.hid (fdP_hit (by rw [HX.out]; exact hlt) HN.out (by rw [HE.out]; exact hk) (by
            rw [HE.out]
            intro y hy
            obtain ⟨j, hj, rfl⟩ := List.getElem_of_mem hy
            simp only [List.length_take] at hj
            rw [List.getElem_take]
            simpa using hno j (by omega)) (by simp only [HE.out]; exact hp))
          have HR : Hid (FIN = ((ys.length : Int) - 1 - k, 0)) := Lib.hid (by
            rw [HV.out]
            unfold pabP'
            rw [HFD.out]
            simp only
            rw [if_neg (by omega), Int.toNat_natCast, HG.out])
          rw [e1] at hix
          clear e1 hp hno
          go_wp2_with fail
          refine hix.mono ?_
          rintro e w2 ⟨rfl, hd⟩
          have HB2 := Lib.hid (HB.out.trans hd.below)
          clear hd hix
          go_wp2_with fail
          go_ret2
          exact ⟨by rw [HR.out]; rfl, HB2.out⟩
      · obtain rfl : i = rs.length := by omega
        have HR : Hid (FIN = (0, 3)) := Lib.hid (by
          rw [HV.out]
          unfold pabP'
          rw [fdP_none fun j hj => HN.out j hj (by rw [HX.out] at hj; exact hj)]
          rfl)
        go_wp2_with fail
        go_ret2
        exact ⟨by rw [HR.out]; rfl, HB.out⟩

/-! TopPacks -/
def topL (r : List Int) : Int := if r.length = 0 then 0 else r.getD (r.length - 1) 0
noncomputable def tpP (X : List (List Int)) : List Int × Int := if vyB X = true then (X.map topL, 0) else ([], 1)
theorem tpP_len (X : List (List Int)) : (tpP X).1.length ≤ 1048576 := by
  unfold tpP
  split
  · rename_i h
    have := (dB_true h).1
    simp; omega
  · simp
theorem topY_any (A : Option Addr) (c : Nat) (xs : List Int) (B : Nat) (w : World) (hr : Rd LI w B A c xs) :
    Calls Tryz.prog 32 #[.slice A xs.length c] w fun e w' => e = .returned (.int .i64 (topL xs)) ∧ w = w' := by
  have hlen := hr.len63
  by_cases h0 : xs.length = 0
  · have HT : Hid (topL xs = 0) := Lib.hid (by unfold topL; rw [if_pos h0])
    have hz : ((xs.length : Int) == 0) = true := by rw [beq_iff_eq]; omega
    have hz2 : (xs.length == 0) = true := by rw [beq_iff_eq]; omega
    rw [HT.out]
    clear h0
    go_enter Tryz.func32, Tryz.ntmps32
    go_wp2_with fail
    go_ret
    exact ⟨rfl, rfl⟩
  · obtain ⟨ad, rfl, _, hc⟩ := hr.int (k := xs.length - 1) (by omega)
    have HT : Hid (topL xs = xs[xs.length - 1]'(by omega)) := Lib.hid (by unfold topL; rw [if_neg h0, getD_lt xs 0 (by omega)])
    obtain ⟨t, ht⟩ : ∃ t, t = xs[xs.length - 1]'(by omega) := ⟨_, rfl⟩
    rw [← ht] at hc HT
    rw [HT.out]
    have hz : ((xs.length : Int) == 0) = false := by rw [beq_eq_false_iff_ne]; omega
    have hz2 : (xs.length == 0) = false := by rw [beq_eq_false_iff_ne]; omega
    have h1 : (0 : Int) ≤ (xs.length : Int) - 1 := by omega
    have h2 : (xs.length : Int) - 1 < xs.length := by omega
    have h3 : ((xs.length : Int) - 1).toNat = xs.length - 1 := by omega
    have h4 : (1 : Int) ≤ xs.length := by omega
    clear h0 ht
    go_enter Tryz.func32, Tryz.ntmps32
    go_wp2_with fail
    go_ret
    exact ⟨rfl, rfl⟩
set_option maxRecDepth 100000 in
set_option maxHeartbeats 1600000 in
theorem implTopPacks_any (A : Option Addr) (c : Nat) (rs : List (Row Int)) (w : World) (hr : RdR LI w w.heap.size A c rs) (hn : tlL (dat rs) ≤ 1048576) :
    Calls Tryz.prog 13 #[.slice A rs.length c] w fun e w' => ∃ B d, e = .returned (.tuple #[.slice B (tpP (dat rs)).1.length d, .int .i64 (tpP (dat rs)).2]) ∧ Own LI 2 w' w.heap.size B d (tpP (dat rs)).1 ∧ Below w.heap.size w w' := by
  have hlen := hr.len63
  have hc := implValidYard_any A c rs w hr hn
  obtain ⟨FIN, hF⟩ : ∃ F, F = tpP (dat rs) := ⟨_, rfl⟩
  rw [← hF]
  cases hv : vyB (dat rs)
  · have HR : Hid (FIN = ([], 1)) := Lib.hid (by rw [hF]; unfold tpP; rw [if_neg (by simp [hv])])
    rw [hv] at hc
    clear hF hv
    go_enter Tryz.func13, Tryz.ntmps13
    go_wp2_with fail
    refine hc.mono ?_
    rintro e w1 ⟨rfl, hb1⟩
    go_wp2_with fail
    go_ret2
    exact ⟨none, 0, by rw [HR.out]; rfl, by rw [HR.out]; exact Own.none_, hb1⟩
  · have HV : Hid (FIN = ((dat rs).map topL, 0)) := Lib.hid (by rw [hF]; unfold tpP; rw [if_pos hv])
    have hl4 : rs.length ≤ 4 := by have := (dB_true hv).1.2; rw [dat_len] at this; exact this
    rw [hv] at hc
    clear hF hv
    go_enter Tryz.func13, Tryz.ntmps13
    go_wp2_with fail
    refine hc.mono ?_
    rintro e w1 ⟨rfl, hb1⟩
    have hsz1 := hb1.size
    have HB1 := Lib.hid hb1
    clear hc hb1
    go_wp2_with fail
    go_loopw [4, 13] (fun o i wr => ∃ (k : Nat) (Ao : Option Addr) (co : Nat) (L : List Int), k ≤ rs.length ∧ i = .int .i64 k ∧ o = .slice Ao L.length co ∧ L.length ≤ k ∧ Hid (L = ((dat rs).take k).map topL) ∧ Hid (Own LI 2 wr w1.heap.size Ao co L) ∧ Hid (Below w1.heap.size w1 wr)) (fun _ i _ => rs.length - (intOf i).toNat)
    case atStart => exact ⟨0, _, _, [], by omega, rfl, rfl, by simp, Lib.hid (by simp), Lib.hid (Own.lit0 w1 (Nat.le_refl _) rfl), Lib.hid ((Below.refl _ _).alloc (Nat.le_refl _) _)⟩
    case round =>
      obtain ⟨i, Ao, co, L, hi, rfl, rfl, hLi, HL, HO, HB⟩ := hrel
      by_cases hlt : i < rs.length
      · have hli : (i : Int) < rs.length := by omega
        obtain ⟨ad, rfl, _, hcell, hrk⟩ := (hr.below (HB1.out.trans (HB.out.mono hsz1))).at_ hlt
        have HS : Hid (((dat rs).take (i + 1)).map topL = L ++ [topL rs[i].2.2]) := Lib.hid (by
          rw [List.take_succ_eq_append_getElem (by rw [dat_len]; exact hlt), List.map_append, HL.out, dat_get rs i hlt]
          rfl)
        have htp := topY_any rs[i].1 rs[i].2.1 rs[i].2.2 w.heap.size wr hrk
        have hyl := hrk.len63
        clear hrk
        generalize rs[i].2.2 = ys at *
        generalize rs[i].1 = Ay at *
        generalize rs[i].2.1 = cy at *
        generalize topL ys = t at *
        have hsz := HB.out.size
        have HlO := Lib.hid HO.out.blk_lt
        go_wp2_with fail
        refine htp.mono ?_
        rintro e w2 ⟨rfl, rfl⟩
        go_wp2_with (at_builtin; go_loud (refine wpL_app1 (L := LI) rowI rfl rfl _ _ rfl rfl HO.out t _ rfl rfl rfl (by unfold maxLen; omega) (by omega) (by exact hsz) ?_); intro A4 c4 w4 ho4 hg4)
        go_roundw
        case rel => exact ⟨i + 1, A4, c4, L ++ [t], by omega, by go_num, by simp, by simp; omega, Lib.hid HS.out.symm, Lib.hid ho4, Lib.hid (Grew.below HB.out hg4 hsz fun g hg => (HlO.out g hg).1)⟩
        case measure => simp [intOf]; omega
      · obtain rfl : i = rs.length := by omega
        have HR : Hid (FIN = (L, 0)) := Lib.hid (by
          rw [HV.out, HL.out, List.take_of_length_le (by rw [dat_len]; exact Nat.le_refl _)])
        go_wp2_with fail
        go_ret2
        exact ⟨Ao, co, by rw [HR.out]; rfl, by rw [HR.out]; exact HO.out.lower hsz1, HB1.out.trans (HB.out.mono hsz1)⟩
end Go.Proofs.YtjgpppcjhneibaaGreatDoor
