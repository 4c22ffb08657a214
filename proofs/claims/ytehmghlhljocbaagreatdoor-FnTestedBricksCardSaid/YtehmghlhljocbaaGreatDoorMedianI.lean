/-
  Tested bricks: MedianWater of the program.
-/
import Derived.Test.YtehmghlhljocbaaGreatDoorMedian
import Derived.Test.YtehmghlhljocbaaGreatDoorSortWT
namespace Go.Proofs.YtehmghlhljocbaaGreatDoor
open Go.ChangeShapes Go.WideShapes Go.RowKit

theorem wat_succ (xs : List TestedD) {k : Nat} (h : k < xs.length) : wat (xs.take (k + 1)) = wat (xs.take k) ++ [xs[k].2] := by
  unfold wat; rw [List.take_succ_eq_append_getElem h, List.map_append]; rfl
set_option maxRecDepth 100000 in
set_option maxHeartbeats 3200000 in
theorem implMedianWater_any (A : Option Addr) (c : Nat) (xs : List TestedD) (w : World) (hr : Rd LTested w w.heap.size A c xs) :
    Calls Tryz.prog 18 #[.slice A xs.length c] w fun e w' => e = .returned (.tuple #[.int .i64 (mwP xs).1, .int .i64 (mwP xs).2]) ∧ Below w.heap.size w w' := by
  have hlen := hr.len63
  have hc := testedCode_any A c xs w hr
  obtain ⟨FIN, hF⟩ : ∃ F, F = mwP xs := ⟨_, rfl⟩
  rw [← hF]
  by_cases h0 : tcP xs = 0
  rotate_left
  · have HR : Hid (FIN = (0, tcP xs)) := Lib.hid (by rw [hF]; unfold mwP; rw [if_neg h0])
    have hne : (tcP xs != 0) = true := by rw [bne_iff_ne]; exact h0
    clear h0 hF
    generalize tcP xs = tc at *
    go_enter Tryz.func18, Tryz.ntmps18
    go_wp2_with fail
    refine hc.mono ?_
    rintro e w1 ⟨rfl, hb1⟩
    go_wp2_with fail
    go_ret2
    exact ⟨by rw [HR.out]; rfl, hb1⟩
  have hv : vtB xs = true ∧ xs.length ≠ 0 := by
    unfold tcP at h0
    split at h0
    · rename_i hv
      split at h0
      · omega
      · rename_i h1; exact ⟨hv, h1⟩
    · omega
  have hn20 := (vt_parts hv.1).1
  have hn0 := hv.2
  obtain ⟨a, ha⟩ : ∃ a, a = (xs.length - 1) / 2 := ⟨_, rfl⟩
  have HV : Hid (FIN = ((srt (wat xs)).getD a 0, 0)) := Lib.hid (by rw [hF, ha]; unfold mwP; rw [if_pos h0]; rfl)
  have HA := Lib.hid ha
  rw [h0] at hc
  clear h0 hF hv ha
  go_enter Tryz.func18, Tryz.ntmps18
  go_wp2_with fail
  refine hc.mono ?_
  rintro e w1 ⟨rfl, hb1⟩
  have hs1 := hb1.size
  clear hc
  go_wp2_with fail
  go_loopw [5, 16] (fun o i wr => ∃ (k : Nat) (A1 : Option Addr) (c1 : Nat), k ≤ xs.length ∧ i = .int .i64 k ∧ o = .slice A1 (wat (xs.take k)).length c1 ∧ Own LI 2 wr w.heap.size A1 c1 (wat (xs.take k)) ∧ Below w.heap.size w wr) (fun _ i _ => xs.length - (intOf i).toNat)
  case atStart => exact ⟨0, _, _, by omega, rfl, rfl, Own.lit0 w1 hs1 rfl, hb1.alloc hs1 _⟩
  case round =>
    obtain ⟨k, A1, c1, hk, rfl, rfl, ho1, hbel⟩ := hrel
    have hsz := hbel.size
    by_cases hlt : k < xs.length
    · obtain ⟨ad, rfl, hab, d0, d1⟩ := rdTested (hr.below hbel) hlt
      have E1 := Lib.hid (wat_succ xs hlt)
      have l1 : (wat (xs.take k)).length ≤ 20 := by rw [wat_len]; simp; omega
      generalize xs[k].1 = f0 at *
      generalize xs[k].2 = f1 at *
      generalize wat (xs.take k) = L1 at *
      go_wp2_with (at_builtin; go_loud (refine wpL_app1 (L := LI) rowI rfl rfl _ _ rfl rfl (ho1.alloc _) f1 _ rfl rfl (by simp) (by unfold maxLen; omega) (by omega) (by simp; omega) ?_); intro A4 c4 w4 ho4 hg4)
      go_roundw
      case rel => exact ⟨k + 1, A4, c4, by omega, by go_num, by rw [E1.out]; simp, by rw [E1.out]; exact ho4, Grew.below (hbel.alloc hsz _) hg4 (by simp; omega) fun g' hg' => (ho1.blk_lt g' hg').1⟩
      case measure => simp [intOf]; omega
    · obtain rfl : k = xs.length := by omega
      rw [List.take_of_length_le (Nat.le_refl _)] at ho1
      have wl := wat_len xs
      rw [List.take_of_length_le (Nat.le_refl _)]
      have hal : a < (wat xs).length := by have := HA.out; omega
      have hdiv : (((wat xs).length : Int) - 1) / 2 = (a : Int) := by have := HA.out; omega
      have p1 : (0 : Int) ≤ ((wat xs).length : Int) - 1 := by omega
      have w20 : (wat xs).length ≤ 20 := by omega
      have Wl := Lib.hid wl
      clear wl
      generalize wat xs = W at *
      have hcs := sort_any A1 c1 W w.heap.size wr ho1 hsz (by omega)
      go_wp2_with fail
      refine hcs.mono ?_
      rintro e w2 ⟨rfl, ho2, hb2⟩
      have hsl : a < (srt W).length := by rw [srt_len]; exact hal
      obtain ⟨g, rfl, hg1, hg2, hcc, hff⟩ := ho2.int (k := a) hsl
      have HR : Hid (FIN = ((srt W)[a]'hsl, 0)) := Lib.hid (by rw [HV.out, getD_lt])
      have ali : (a : Int) < W.length := by omega
      generalize (srt W)[a] = v at *
      have HB := Lib.hid (hbel.trans hb2)
      clear hb2 hcs
      go_wp2_with fail
      go_ret2
      exact ⟨by rw [HR.out]; rfl, HB.out⟩
end Go.Proofs.YtehmghlhljocbaaGreatDoor
