/-
  slices.Grow at nil, slices.Concat, slices.DeleteFunc over []int64.
-/
import Derived.Test.YtiefiikheaiekaaDoorNum
import Derived.Test.YtiefiikheaiekaaDoorSteps
import Derived.Test.YtiefiikheaiekaaDoorClone
import Derived.Lib.AppendZeros
import Derived.Lib.SliceRun
import Derived.Laws.IdiomCopy
namespace Go.Proofs.YtiefiikheaiekaaDoor
open Go.ChangeShapes Go.WideShapes Go.RowKit

theorem grow_own {T : TypeId} {z : Value} (hz : z.cells.size = 1) (w : World) (n : Nat) (hn : n ≤ maxLen) :
    Own LI T (w.drew.alloc (.cells (Builtin.zeroCells z.cells n ++ Builtin.zeroCells z.cells (grownCap w n 0 T - n)) T)) w.heap.size (some ⟨w.heap.size, 0, none⟩) (grownCap w n 0 T) ([] : List Int) := by
  have hge := grownCap_ge w n 0 T
  refine ⟨by simp, .inr ⟨w.heap.size, grownCap w n 0 T, _, rfl, Nat.le_refl _, heap_alloc_new w.drew _, Nat.zero_le _, grownCap_le_maxLen w n 0 T hn, ?_, rfl⟩⟩
  simp [size_zeroCells, hz, LI]
  omega
theorem below_setCells {B g : Nat} {w0 : World} (hg : B ≤ g) (vs : List Value) : ∀ (i : Nat) (w : World), Below B w0 w → Below B w0 (w.setCells g i vs) := by
  induction vs with
  | nil => intro i w h; exact h
  | cons v vs ih => intro i w h; exact ih (i + 1) _ (h.setCell hg v)
set_option maxHeartbeats 800000 in
theorem grow_any (n : Nat) (w : World) (hn : n * 8 ≤ 140737488355328) :
    Calls Tryd.prog 68 #[.slice none 0 0, .int .i64 n] w fun e w' => ∃ A c, e = .returned (.slice A 0 c) ∧ Own LI 2 w' w.heap.size A c ([] : List Int) ∧ Below w.heap.size w w' := by
  by_cases h0 : n = 0
  · subst h0
    go_enter Tryd.func68, Tryd.ntmps68
    go_wp2_with fail
    go_ret
    exact ⟨none, 0, rfl, Own.none_, Below.refl _ _⟩
  · obtain ⟨i, hi, hz0, hz1, hz2⟩ := info_parts (rowI).2
    have hnp : 0 < n := by omega
    have hnpi : (0 : Int) < n := by omega
    have hrz := fun ty => Lib.run_append_nil_zeros (P := Tryd.prog) w 23 3 ty 2 i (.int .i64 0) .i64 .i64 Tryd.underlying23 Tryd.underlying3 hi hz0 n hnp (by rw [hz1]; decide) (by omega) (by rw [hz2]; omega)
    have HO := Lib.hid (grow_own (T := 2) (z := .int .i64 0) rfl w n (by unfold maxLen; omega))
    have hge := grownCap_ge w n 0 2
    have hlem := grownCap_le_maxLen w n 0 2 (by unfold maxLen; omega)
    unfold maxLen at hlem
    have HB : Hid (Below w.heap.size w (w.drew.alloc (.cells (Builtin.zeroCells (Value.int .i64 0).cells n ++ Builtin.zeroCells (Value.int .i64 0).cells (grownCap w n 0 2 - n)) 2))) := Lib.hid ((below_drewN (Below.refl _ w) 1).alloc (by exact Nat.le_refl _) _)
    clear hi hz0 hz1 hz2 h0
    generalize grownCap w n 0 2 = G at *
    go_enter Tryd.func68, Tryd.ntmps68
    go_wp2_with (at_builtin; refine Lib.wpList_append_run _ rfl _ _ _ _ rfl _ _ rfl rfl _ _ (hrz _) ?_)
    go_ret
    exact ⟨_, G, rfl, HO.out, HB.out⟩
/-- the first k rows, one behind the other -/
def flK (rs : List (Row Int)) (k : Nat) : List Int := ((dat rs).take k).flatten
theorem flK_succ (rs : List (Row Int)) {k : Nat} (h : k < rs.length) : flK rs (k + 1) = flK rs k ++ rs[k].2.2 := by
  unfold flK
  rw [List.take_succ_eq_append_getElem (by rw [dat_len]; exact h), List.flatten_append, dat_get rs k h]
  simp
theorem flK_len (rs : List (Row Int)) {k j : Nat} (h : k ≤ j) : (flK rs k).length ≤ (flK rs j).length := by
  induction j with
  | zero => obtain rfl : k = 0 := by omega
            exact Nat.le_refl _
  | succ j ih =>
    by_cases e : k = j + 1
    · subst e; exact Nat.le_refl _
    · by_cases hj : j < rs.length
      · rw [flK_succ rs hj, List.length_append]
        have := ih (by omega)
        omega
      · have : flK rs (j + 1) = flK rs j := by unfold flK; rw [List.take_of_length_le (by rw [dat_len]; omega), List.take_of_length_le (by rw [dat_len]; omega)]
        rw [this]
        exact ih (by omega)
theorem flK_all (rs : List (Row Int)) : flK rs rs.length = (dat rs).flatten := by unfold flK; rw [List.take_of_length_le (by rw [dat_len]; exact Nat.le_refl _)]
set_option maxRecDepth 100000 in
set_option maxHeartbeats 1600000 in
theorem concat_any (A : Option Addr) (c : Nat) (rs : List (Row Int)) (B : Nat) (w : World) (hr : RdR LI w B A c rs) (hB : B ≤ w.heap.size) (hn : (dat rs).flatten.length * 8 ≤ 140737488355328) :
    Calls Tryd.prog 53 #[.slice A rs.length c] w fun e w' => ∃ A' c', e = .returned (.slice A' (dat rs).flatten.length c') ∧ Own LI 2 w' w.heap.size A' c' (dat rs).flatten ∧ Below w.heap.size w w' := by
  have hlen := hr.len63
  rw [← flK_all] at hn ⊢
  go_enter Tryd.func53, Tryd.ntmps53
  go_wp2_with fail
  go_loop [3, 11] (fun s i => ∃ (k m : Nat), k ≤ rs.length ∧ i = .int .i64 k ∧ s = .int .i64 m ∧ m = (flK rs k).length) (fun _ i => rs.length - (intOf i).toNat)
  case atStart => exact ⟨0, 0, by omega, rfl, rfl, by simp [flK]⟩
  case round =>
    obtain ⟨k, m, hk, rfl, rfl, hm⟩ := hrel
    have hmb := flK_len rs hk
    rw [← hm] at hmb
    have HM := Lib.hid hm
    clear hm
    by_cases hlt : k < rs.length
    · obtain ⟨ad, rfl, _, hc, _⟩ := hr.at_ hlt
      have hmb2 := flK_len rs (show k + 1 ≤ rs.length by omega)
      have HS := Lib.hid (flK_succ rs hlt)
      rw [HS.out, List.length_append, ← HM.out] at hmb2
      generalize rs[k].2.2 = ys at *
      generalize rs[k].1 = Ay at *
      generalize rs[k].2.1 = cy at *
      go_wp2_with fail
      go_round
      case rel => exact ⟨k + 1, m + ys.length, by omega, by go_num, by go_num, by rw [HS.out, List.length_append, HM.out]⟩
      case measure => simp [intOf]; omega
    · obtain rfl : k = rs.length := by omega
      have hn2 : m * 8 ≤ 140737488355328 := by rw [HM.out]; exact hn
      go_wp2_with fail
      refine (grow_any m w hn2).mono ?_
      rintro e w1 ⟨A1, c1, rfl, ho1, hb1⟩
      have HO1 := Lib.hid ho1
      have HB1 := Lib.hid hb1
      clear ho1 hb1 hmb
      go_wp2_with fail
      go_loopw [6, 27] (fun v i wr => ∃ (k : Nat) (A1 : Option Addr) (c1 : Nat) (L : List Int), k ≤ rs.length ∧ i = .int .i64 k ∧ v = .slice A1 L.length c1 ∧ Hid (L = flK rs k) ∧ Hid (Own LI 2 wr w.heap.size A1 c1 L) ∧ Hid (Below w.heap.size w wr)) (fun _ i _ => rs.length - (intOf i).toNat)
      case atStart => exact ⟨0, A1, c1, [], by omega, rfl, rfl, Lib.hid (by simp [flK]), HO1, HB1⟩
      case round =>
        clear HO1 HB1
        obtain ⟨k, A1, c1, L, hk, rfl, rfl, HL, HO, HBw⟩ := hrel
        by_cases hlt : k < rs.length
        · obtain ⟨ad, hA, hab, hc, hrk⟩ := (hr.below (HBw.out.mono hB)).at_ hlt
          subst hA
          have hmb := flK_len rs (show k + 1 ≤ rs.length by omega)
          have HS := Lib.hid (flK_succ rs hlt)
          rw [HS.out, List.length_append, ← HL.out] at hmb
          have hfl := Lib.hid hrk.flat
          have hnl := Lib.hid hrk
          have hsz := HBw.out.size
          have HlO := Lib.hid HO.out.blk_lt
          clear hrk
          generalize rs[k].2.2 = ys at *
          generalize rs[k].2.1 = cy at *
          generalize rs[k].1 = Ay at *
          have hn3 : (L.length + ys.length) * 8 ≤ 140737488355328 := by omega
          have hn4 : L.length + ys.length ≤ maxLen := by unfold maxLen; omega
          cases Ay with
          | none =>
            have hy : ys = [] := hnl.out.none_len
            have HY := Lib.hid hy
            clear hnl hfl
            subst hy
            go_wp2_with (at_builtin; go_loud (refine wpL_app0 (L := LI) rowI rfl _ _ rfl rfl HO.out cy rfl ?_))
            go_roundw
            case rel => exact ⟨k + 1, A1, c1, L, by omega, by go_num, rfl, Lib.hid (by rw [HS.out, HL.out, List.append_nil]), HO, HBw⟩
            case measure => simp [intOf]; omega
          | some ay =>
            clear hnl
            go_wp2_with (at_builtin; go_loud (refine wpL_app (L := LI) rowI rfl rfl _ _ rfl rfl HO.out (some ay) ys.length cy ys rfl rfl (fun h => by cases h) (fun ad' e => by cases e; exact hfl.out ay rfl) hn4 hn3 (by exact hsz) ?_); intro A4 c4 w4 ho4 hg4)
            go_roundw
            case rel => exact ⟨k + 1, A4, c4, L ++ ys, by omega, by go_num, by simp, Lib.hid (by rw [HS.out, HL.out]), Lib.hid ho4, Lib.hid (Grew.below HBw.out hg4 hsz fun g hg => (HlO.out g hg).1)⟩
            case measure => simp [intOf]; omega
        · obtain rfl : k = rs.length := by omega
          go_wp2_with fail
          go_ret
          exact ⟨A1, c1, by rw [← HL.out]; rfl, by rw [← HL.out]; exact HO.out, HBw.out⟩
end Go.Proofs.YtiefiikheaiekaaDoor
