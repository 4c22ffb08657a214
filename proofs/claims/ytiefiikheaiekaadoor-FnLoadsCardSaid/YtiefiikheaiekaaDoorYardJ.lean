/-
  Yards: PacksInTheWay of the program.
-/
import Derived.Test.YtiefiikheaiekaaDoorYardI
namespace Go.Proofs.YtiefiikheaiekaaDoor
open Go.ChangeShapes Go.WideShapes Go.RowKit

theorem wayR_mono (o r : List Int) {a b : Nat} (h : a ≤ b) : wayR o r a ≤ wayR o r b := by
  induction b with
  | zero => obtain rfl : a = 0 := by omega
            exact Nat.le_refl _
  | succ b ihb =>
    by_cases e : a = b + 1
    · subst e; exact Nat.le_refl _
    · have := ihb (by omega)
      rw [wayR_succ]
      omega
set_option maxRecDepth 100000 in
set_option maxHeartbeats 3200000 in
theorem implPacksInTheWay_any (A : Option Addr) (c : Nat) (rs : List (Row Int)) (A1 : Option Addr) (c1 : Nat) (o : List Int) (w : World) (hr : RdR LI w w.heap.size A c rs) (hro : Rd LI w w.heap.size A1 c1 o) (hn : tlL (dat rs) ≤ 1048576) :
    Calls Tryd.prog 23 #[.slice A rs.length c, .slice A1 o.length c1] w fun e w' => e = .returned (.tuple #[.int .i64 (piwP (dat rs) o).1, .int .i64 (piwP (dat rs) o).2]) ∧ Below w.heap.size w w' := by
  have hlen := hr.len63
  have hleno := hro.len63
  have hc := fun W h1 h2 => orderCode_any A c rs A1 c1 o W h1 hn h2
  obtain ⟨FIN, hF⟩ : ∃ F, F = piwP (dat rs) o := ⟨_, rfl⟩
  rw [← hF]
  have HR0 := Lib.hid (hr.al (.cells #[.slice A1 o.length c1] 23))
  have HRO := Lib.hid (hro.al (.cells #[.slice A1 o.length c1] 23))
  have HB0 : Hid (Below w.heap.size w (w.alloc (.cells #[.slice A1 o.length c1] 23))) := Lib.hid ((Below.refl _ w).alloc (Nat.le_refl _) _)
  have HK0 : Hid ((w.alloc (.cells #[.slice A1 o.length c1] 23)).cell? ⟨w.heap.size, 0, none⟩ = some (.slice A1 o.length c1)) := Lib.hid (by go_simp)
  by_cases h0 : ocP (dat rs) o = 0
  rotate_left
  · have HR : Hid (FIN = (0, ocP (dat rs) o)) := Lib.hid (by rw [hF]; unfold piwP; rw [if_neg h0])
    have hne : (ocP (dat rs) o != 0) = true := by rw [bne_iff_ne]; exact h0
    clear h0 hF
    generalize ocP (dat rs) o = oc at *
    go_enter Tryd.func23, Tryd.ntmps23
    go_wp2_with fail
    refine (hc _ HR0.out HRO.out).mono ?_
    rintro e w1 ⟨rfl, hb1⟩
    have HB1 := Lib.hid (bthen HB0.out (Nat.le_refl _) hb1)
    clear hb1 hc
    go_wp2_with fail
    go_ret2
    exact ⟨by rw [HR.out]; rfl, HB1.out⟩
  have HR : Hid (FIN = ((wayX o (dat rs) : Int), 0)) := Lib.hid (by rw [hF]; unfold piwP; rw [if_pos h0])
  rw [h0] at hc
  have HX := Lib.hid (dat_len rs)
  have hwb : wayX o (dat rs) ≤ 1048576 := by have := wayX_le o (dat rs); rw [tlL_flat] at this; omega
  have HWB := Lib.hid hwb
  clear h0 hF hwb hn
  go_enter Tryd.func23, Tryd.ntmps23
  go_wp2_with fail
  refine (hc _ HR0.out HRO.out).mono ?_
  rintro e w1 ⟨rfl, hb1⟩
  have HB1 := Lib.hid (bthen HB0.out (Nat.le_refl _) hb1)
  have hz1 : w.heap.size < w1.heap.size := by have := hb1.size; simp at this; omega
  have HK1 : Hid (∀ W : World, Below (w.heap.size + 1) w1 W → W.cell? ⟨w.heap.size, 0, none⟩ = some (.slice A1 o.length c1)) := Lib.hid fun W hb => (hb.cell (p := ⟨w.heap.size, 0, none⟩) (by simp)).trans ((hb1.cell (p := ⟨w.heap.size, 0, none⟩) (by simp)).trans HK0.out)
  clear hb1 hc
  go_wp2_with fail
  go_loopw [7, 21] (fun n i wr => ∃ (k m : Nat), k ≤ rs.length ∧ i = .int .i64 k ∧ n = .int .i64 m ∧ Hid (m = wayX o ((dat rs).take k)) ∧ Hid (Below (w.heap.size + 1) w1 wr)) (fun _ i _ => rs.length - (intOf i).toNat)
  case atStart => exact ⟨0, 0, by omega, rfl, rfl, Lib.hid (by simp [wayX]), Lib.hid (Below.refl _ _)⟩
  case round =>
    obtain ⟨i, m, hi, rfl, rfl, HM, HBW⟩ := hrel
    have HBw := Lib.hid (HB1.out.trans (HBW.out.mono (by omega)))
    by_cases hlt : i < rs.length
    · have hli : (i : Int) < rs.length := by omega
      obtain ⟨ad, rfl, _, hcell, hrk⟩ := (hr.below HBw.out).at_ hlt
      have HRK := Lib.hid (hr.inn _ (List.getElem_mem hlt))
      have HS : Hid (wayX o ((dat rs).take (i + 1)) = m + wayR o rs[i].2.2 rs[i].2.2.length) := Lib.hid (by
        rw [wayX_succ o (dat rs) (by rw [HX.out]; exact hlt), HM.out]
        congr 1
        simp only [dat_get rs i hlt])
      clear hrk
      generalize rs[i].2.2 = ys at *
      generalize rs[i].1 = Ay at *
      generalize rs[i].2.1 = cy at *
      have hyl := HRK.out.len63
      have hyc := HRK.out.le
      have hyc2 := HRK.out.cap
      unfold maxLen at hyc2
      have hmb : m + wayR o ys ys.length ≤ 1048576 := by rw [← HS.out]; exact Nat.le_trans (wayX_take_le o _ _) HWB.out
      have hmb1 : m ≤ 1048576 := by omega
      go_wp2_with fail
      go_loopw [7, 27] (fun n j wr => ∃ (k q : Nat), k ≤ ys.length ∧ j = .int .i64 k ∧ n = .int .i64 q ∧ Hid (q = m + wayR o ys k) ∧ Hid (Below (w.heap.size + 1) w1 wr)) (fun _ j _ => ys.length - (intOf j).toNat)
      case atStart => exact ⟨0, m, by omega, rfl, rfl, Lib.hid rfl, HBW⟩
      case round =>
        clear HBW HBw hcell
        obtain ⟨k, q, hk, rfl, rfl, HQ, HBW⟩ := hrel
        have HBw := Lib.hid (HB1.out.trans (HBW.out.mono (by omega)))
        by_cases hkl : k < ys.length
        · have hki : (k : Int) < ys.length := by omega
          obtain ⟨ay, rfl, hay, hcy⟩ := (HRK.out.below HBw.out).int hkl
          have k0 := HK1.out _ HBW.out
          have hz2 := HBW.out.size
          have hix := slicesIndex_any A1 c1 o ys[k] w.heap.size wr (hro.below HBw.out)
          have hkc : (k : Int) ≤ cy := by omega
          have hkc1 : k ≤ cy := by omega
          have hlk : (ys.take k).length = k := by simp; omega
          have HWS := Lib.hid (wayR_succ o ys k)
          have hqb : q ≤ 1048576 := by
            rw [HQ.out]
            have := wayR_mono o ys (show k ≤ ys.length by omega)
            omega
          have HIN : Hid ((ys.take k).any (fun b => bwB (fIdx (fun y => y == b) o) (fIdx (fun y => y == ys[k]) o)) = inWay o ys k) := Lib.hid (by
            unfold inWay
            rw [getD_lt ys 0 hkl]
            simp only [bwB_plc])
          obtain ⟨hb1, hb2⟩ := fIdx_bd o ys[k]
          generalize hp : ys[k] = p at *
          clear hp
          generalize fIdx (fun y => y == p) o = ow at *
          go_wp2_with fail
          refine hix.mono ?_
          rintro e w3 ⟨rfl, hd3⟩
          clear hix
          have HB3 := Lib.hid (HBW.out.trans hd3.below)
          have HBw3 := Lib.hid (HBw.out.trans hd3.below)
          have k3 := HK1.out _ HB3.out
          have hz3 := HB3.out.size
          clear hd3 k0
          go_wp2_with fail
          have hWs : (w3.alloc (.cells #[.int .i64 ow] 3)).heap.size = w3.heap.size + 1 := by simp
          have hbA : Below w.heap.size w (w3.alloc (.cells #[.int .i64 ow] 3)) := HBw3.out.alloc (by omega) _
          have c1A : (w3.alloc (.cells #[.int .i64 ow] 3)).cell? ⟨w.heap.size, 0, none⟩ = some (.slice A1 o.length c1) := by
            rw [World.cell?_alloc_lt _ _ _ (by show w.heap.size < w3.heap.size; omega)]
            exact k3
          have c2A : (w3.alloc (.cells #[.int .i64 ow] 3)).cell? ⟨w3.heap.size, 0, none⟩ = some (.int .i64 ow) := by go_simp
          have hcf := containsFunc_any (some ay) cy (ys.take k) 39 #[.pointer (some ⟨w.heap.size, 0, none⟩), .pointer (some ⟨w3.heap.size, 0, none⟩)] (fun b => bwB (fIdx (fun y => y == b) o) ow) (w3.heap.size + 1) (w3.alloc (.cells #[.int .i64 ow] 3)) (by simp) (((HRK.out.below hbA).take k).more (by omega))
            ⟨eg_piw1, fun x _ w' hb => (piw1_any x ow A1 c1 o w.heap.size w3.heap.size w.heap.size w' ((hb.cell (p := ⟨w.heap.size, 0, none⟩) (by show w.heap.size < w3.heap.size + 1; omega)).trans c1A) ((hb.cell (p := ⟨w3.heap.size, 0, none⟩) (by show w3.heap.size < w3.heap.size + 1; omega)).trans c2A) (hro.below (hbA.trans (hb.mono (by omega)))) (by have := hb.size; rw [hWs] at this; omega)).mono fun e w'' h => ⟨h.1, h.2.below⟩⟩
          rw [hlk, HIN.out] at hcf
          have HBA3 : Hid (Below (w.heap.size + 1) w1 (w3.alloc (.cells #[.int .i64 ow] 3))) := Lib.hid (HB3.out.alloc (by omega) _)
          clear hbA c1A c2A hlk hWs
          refine hcf.mono ?_
          rintro e w4 ⟨rfl, hb4⟩
          have HB4 := Lib.hid (HBA3.out.trans (hb4.mono (by omega)))
          clear hcf hb4
          cases hin : inWay o ys k
          · have HQ2 : Hid (q = m + wayR o ys (k + 1)) := Lib.hid (by rw [HWS.out, hin, HQ.out]; simp)
            clear hin
            go_wp2_with fail
            go_roundw
            case rel => exact ⟨k + 1, q, by omega, by go_num, rfl, HQ2, HB4⟩
            case measure => simp [intOf]; omega
          · have HQ2 : Hid (q + 1 = m + wayR o ys (k + 1)) := Lib.hid (by rw [HWS.out, hin, HQ.out]; simp; omega)
            clear hin
            go_wp2_with fail
            go_roundw
            case rel => exact ⟨k + 1, q + 1, by omega, by go_num, by go_num, HQ2, HB4⟩
            case measure => simp [intOf]; omega
        · obtain rfl : k = ys.length := by omega
          go_wp2_with fail
          go_roundw
          case rel => exact ⟨i + 1, q, by omega, by go_num, rfl, Lib.hid (by rw [HS.out, HQ.out]), HBW⟩
          case measure => simp [intOf]; omega
    · obtain rfl : i = rs.length := by omega
      have HR2 : Hid (m = wayX o (dat rs)) := Lib.hid (by rw [HM.out, List.take_of_length_le (by rw [HX.out]; exact Nat.le_refl _)])
      go_wp2_with fail
      go_ret2
      exact ⟨by rw [HR.out, ← HR2.out]; rfl, HBw.out⟩
end Go.Proofs.YtiefiikheaiekaaDoor
