/-
  Gangs: who lays and who carries; CarriersFor, DaysFor.
-/
import Derived.Test.YtofcmljnckdknaaDoorGangs
namespace Go.Proofs.YtofcmljnckdknaaDoor
open Go.ChangeShapes Go.WideShapes Go.RowKit

/-- the first k hands' indices, those who lay (b) or the others -/
def layT (xs : List HandD) (b : Bool) (k : Nat) : List Int := ((List.range k).filter fun (i : Nat) => match xs[i]? with | some h => h.2.2 == b | none => false).map fun (i : Nat) => (i : Int)
theorem layT_succ (xs : List HandD) (b : Bool) {k : Nat} (h : k < xs.length) : layT xs b (k + 1) = if (xs[k].2.2 == b) = true then layT xs b k ++ [(k : Int)] else layT xs b k := by
  unfold layT
  rw [List.range_succ, List.filter_append, List.map_append]
  cases hb : (xs[k].2.2 == b) <;> simp [h, hb]
theorem layT_len (xs : List HandD) (b : Bool) (k : Nat) : (layT xs b k).length ≤ k := by
  unfold layT
  have := List.length_filter_le (fun i => match xs[i]? with | some h => h.2.2 == b | none => false) (List.range k)
  simp at this
  simpa using this

theorem gang_len {xs : List HandD} (h : gangB xs = true) : xs.length ≤ 20 := by
  simp [gangB] at h
  omega

set_option maxHeartbeats 800000 in
theorem layersOf_any (A : Option Addr) (c : Nat) (xs : List HandD) (B : Nat) (w : World) (hB : B ≤ w.heap.size) (hr : Rd LHand w B A c xs) (hn : xs.length ≤ 20) :
    Calls Tryd.prog 56 #[.slice A xs.length c] w fun e w' => ∃ A1 c1 A2 c2, e = .returned (.tuple #[.slice A1 (layT xs true xs.length).length c1, .slice A2 (layT xs false xs.length).length c2]) ∧
      Own LI 2 w' w.heap.size A1 c1 (layT xs true xs.length) ∧ Own LI 2 w' w.heap.size A2 c2 (layT xs false xs.length) ∧ Ap A1 A2 ∧ Below w.heap.size w w' := by
  have hlen := hr.len63
  go_enter Tryd.func56, Tryd.ntmps56
  go_wp2_with fail
  have hb2 : Below w.heap.size w ((w.alloc (.cells #[] 2)).alloc (.cells #[] 2)) := ((Below.refl _ w).alloc (Nat.le_refl _) _).alloc (by simp) _
  go_loopw [4, 5, 12] (fun a b i wr => ∃ (k : Nat) (A1 A2 : Option Addr) (c1 c2 : Nat), k ≤ xs.length ∧ i = .int .i64 k ∧ a = .slice A1 (layT xs true k).length c1 ∧ b = .slice A2 (layT xs false k).length c2 ∧
      Own LI 2 wr w.heap.size A1 c1 (layT xs true k) ∧ Own LI 2 wr w.heap.size A2 c2 (layT xs false k) ∧ Ap A1 A2 ∧ Below w.heap.size w wr) (fun _ _ i _ => xs.length - (intOf i).toNat)
  case atStart =>
    refine ⟨0, _, _, _, _, by omega, rfl, rfl, rfl, (Own.lit0 w (Nat.le_refl _) rfl).alloc _, Own.lit0 (w.alloc (.cells #[] 2)) (by simp) (by simp), ?_, hb2⟩
    intro g h1 h2
    simp [blk] at h1 h2
    omega
  case round =>
    obtain ⟨k, A1, A2, c1, c2, hk, rfl, rfl, rfl, ho1, ho2, hap, hbel⟩ := hrel
    have hsz := hbel.size
    by_cases hlt : k < xs.length
    · obtain ⟨ad, rfl, hab, hc0, hc1, hc2⟩ := rdHand (hr.below (hbel.mono hB)) hlt
      have HT := Lib.hid (layT_succ xs true hlt)
      have HF := Lib.hid (layT_succ xs false hlt)
      have l1 := layT_len xs true k
      have l2 := layT_len xs false k
      have ho1' := ho1.alloc (.cells #[.string xs[k].1, .int .i64 xs[k].2.1, .bool xs[k].2.2] 26)
      have ho2' := ho2.alloc (.cells #[.string xs[k].1, .int .i64 xs[k].2.1, .bool xs[k].2.2] 26)
      have hb3 : Below w.heap.size w (wr.alloc (.cells #[.string xs[k].1, .int .i64 xs[k].2.1, .bool xs[k].2.2] 26)) := hbel.alloc hsz _
      cases hx : xs[k].2.2
      · have E1 : Hid (layT xs true (k + 1) = layT xs true k) := Lib.hid (by rw [HT.out, hx]; rfl)
        have E2 : Hid (layT xs false (k + 1) = layT xs false k ++ [(k : Int)]) := Lib.hid (by rw [HF.out, hx]; rfl)
        rw [hx] at hc2 ho1' ho2' hb3
        clear HT HF
        generalize layT xs true k = L1 at *
        generalize layT xs false k = L2 at *
        go_wp2_with (at_builtin; go_loud (refine wpL_app1 (L := LI) rowI rfl rfl _ _ rfl rfl ho2' (k : Int) _ rfl rfl (by simp) (by unfold maxLen; omega) (by omega) (by simp; omega) ?_); intro A4 c4 w4 ho4 hg4)
        have hk4 := hg4.own ho1' hap
        go_roundw
        case rel =>
          refine ⟨k + 1, A1, A4, c1, c4, by omega, by go_num, by rw [E1.out], by rw [E2.out]; simp, by rw [E1.out]; exact hk4.1, by rw [E2.out]; exact ho4, hk4.2, Grew.below hb3 hg4 (by simp; omega) fun g' hg' => ?_⟩
          exact (ho2.blk_lt g' hg').1
        case measure => simp [intOf]; omega
      · have E1 : Hid (layT xs true (k + 1) = layT xs true k ++ [(k : Int)]) := Lib.hid (by rw [HT.out, hx]; rfl)
        have E2 : Hid (layT xs false (k + 1) = layT xs false k) := Lib.hid (by rw [HF.out, hx]; rfl)
        rw [hx] at hc2 ho1' ho2' hb3
        clear HT HF
        generalize layT xs true k = L1 at *
        generalize layT xs false k = L2 at *
        go_wp2_with (at_builtin; go_loud (refine wpL_app1 (L := LI) rowI rfl rfl _ _ rfl rfl ho1' (k : Int) _ rfl rfl (by simp) (by unfold maxLen; omega) (by omega) (by simp; omega) ?_); intro A4 c4 w4 ho4 hg4)
        have hk4 := hg4.own ho2' fun g h1 h2 => hap g h2 h1
        go_roundw
        case rel =>
          refine ⟨k + 1, A4, A2, c4, c2, by omega, by go_num, by rw [E1.out]; simp, by rw [E2.out], by rw [E1.out]; exact ho4, by rw [E2.out]; exact hk4.1, Ap.symm hk4.2, Grew.below hb3 hg4 (by simp; omega) fun g' hg' => ?_⟩
          exact (ho1.blk_lt g' hg').1
        case measure => simp [intOf]; omega
    · have hkk : k = xs.length := by omega
      subst hkk
      go_wp2_with fail
      go_ret2
      exact ⟨A1, c1, A2, c2, rfl, ho1, ho2, hap, hbel⟩

set_option maxHeartbeats 800000 in
theorem l23Layers_any (A : Option Addr) (c : Nat) (xs : List HandD) (b : Bool) (B : Nat) (w : World) (hB : B ≤ w.heap.size) (hr : Rd LHand w B A c xs) (hn : xs.length ≤ 20) :
    Calls Tryd.prog 58 #[.slice A xs.length c, .bool b] w fun e w' => ∃ A1 c1, e = .returned (.slice A1 (layT xs b xs.length).length c1) ∧
      Own LI 2 w' w.heap.size A1 c1 (layT xs b xs.length) ∧ Below w.heap.size w w' := by
  have hlen := hr.len63
  go_enter Tryd.func58, Tryd.ntmps58
  go_wp2_with fail
  have hb2 : Below w.heap.size w (w.alloc (.cells #[] 2)) := (Below.refl _ w).alloc (Nat.le_refl _) _
  go_loopw [5, 6] (fun a i wr => ∃ (k : Nat) (A1 : Option Addr) (c1 : Nat), k ≤ xs.length ∧ i = .int .i64 k ∧ a = .slice A1 (layT xs b k).length c1 ∧
      Own LI 2 wr w.heap.size A1 c1 (layT xs b k) ∧ Below w.heap.size w wr) (fun _ i _ => xs.length - (intOf i).toNat)
  case atStart => exact ⟨0, _, _, by omega, rfl, rfl, Own.lit0 w (Nat.le_refl _) rfl, hb2⟩
  case round =>
    obtain ⟨k, A1, c1, hk, rfl, rfl, ho1, hbel⟩ := hrel
    have hsz := hbel.size
    by_cases hlt : k < xs.length
    · obtain ⟨ad, rfl, hab, hc0, hc1, hc2⟩ := rdHand (hr.below (hbel.mono hB)) hlt
      have HT := Lib.hid (layT_succ xs b hlt)
      have l1 := layT_len xs b k
      cases hx : (xs[k].2.2 == b)
      · have E1 : Hid (layT xs b (k + 1) = layT xs b k) := Lib.hid (by rw [HT.out, hx]; rfl)
        clear HT
        generalize layT xs b k = L1 at *
        go_wp2_with fail
        go_roundw
        case rel => exact ⟨k + 1, A1, c1, by omega, by go_num, by rw [E1.out], by rw [E1.out]; exact ho1, hbel⟩
        case measure => simp [intOf]; omega
      · have E1 : Hid (layT xs b (k + 1) = layT xs b k ++ [(k : Int)]) := Lib.hid (by rw [HT.out, hx]; rfl)
        clear HT
        generalize layT xs b k = L1 at *
        go_wp2_with (at_builtin; go_loud (refine wpL_app1 (L := LI) rowI rfl rfl _ _ rfl rfl ho1 (k : Int) _ rfl rfl (by simp) (by unfold maxLen; omega) (by omega) (by omega) ?_); intro A4 c4 w4 ho4 hg4)
        go_roundw
        case rel =>
          refine ⟨k + 1, A4, c4, by omega, by go_num, by rw [E1.out]; simp, by rw [E1.out]; exact ho4, Grew.below hbel hg4 hsz fun g' hg' => ?_⟩
          exact (ho1.blk_lt g' hg').1
        case measure => simp [intOf]; omega
    · have hkk : k = xs.length := by omega
      subst hkk
      go_wp2_with fail
      go_ret
      exact ⟨A1, c1, rfl, ho1, hbel⟩
end Go.Proofs.YtofcmljnckdknaaDoor
