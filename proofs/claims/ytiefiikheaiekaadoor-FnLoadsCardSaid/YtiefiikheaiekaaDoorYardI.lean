/-
  Yards: PacksInTheWay.
-/
import Derived.Test.YtiefiikheaiekaaDoorYardH
namespace Go.Proofs.YtiefiikheaiekaaDoor
open Go.ChangeShapes Go.WideShapes Go.RowKit

theorem fIdx_plc (o : List Int) (p : Int) : (fIdx (fun x => x == p) o = -1 ∧ plc o p = o.length) ∨ (fIdx (fun x => x == p) o = (plc o p : Int) ∧ plc o p < o.length) := by
  unfold fIdx plc
  cases h : o.findIdx? (fun x => x == p) with
  | none => exact .inl ⟨rfl, rfl⟩
  | some i =>
    rw [List.findIdx?_eq_some_iff_getElem] at h
    obtain ⟨h, _⟩ := h
    exact .inr ⟨rfl, h⟩
def bwB (k own : Int) : Bool := decide (0 ≤ k) && (decide (own < 0) || decide (k < own))
theorem bwB_plc (o : List Int) (b p : Int) : bwB (fIdx (fun x => x == b) o) (fIdx (fun x => x == p) o) = decide (plc o b < plc o p) := by
  unfold bwB
  rw [Bool.eq_iff_iff]
  simp only [Bool.and_eq_true, Bool.or_eq_true, decide_eq_true_eq]
  have h1 := fIdx_plc o b
  have h2 := fIdx_plc o p
  have h3 := plc_le o b
  have h4 := plc_le o p
  omega
theorem fIdx_bd (o : List Int) (p : Int) : -1 ≤ fIdx (fun x => x == p) o ∧ fIdx (fun x => x == p) o ≤ o.length := by
  have h1 := fIdx_plc o p
  omega
theorem piw1_any (x own : Int) (A1 : Option Addr) (c1 : Nat) (o : List Int) (g1 g2 B : Nat) (w : World) (h1 : w.cell? ⟨g1, 0, none⟩ = some (.slice A1 o.length c1)) (h2 : w.cell? ⟨g2, 0, none⟩ = some (.int .i64 own)) (hr : Rd LI w B A1 c1 o) (hg : g2 < w.heap.size) :
    Calls Tryd.prog 39 #[.int .i64 x, .pointer (some ⟨g1, 0, none⟩), .pointer (some ⟨g2, 0, none⟩)] w fun e w' => e = .returned (.bool (bwB (fIdx (fun y => y == x) o) own)) ∧ Dr w w' := by
  have hix := slicesIndex_any A1 c1 o x B w hr
  obtain ⟨hb1, hb2⟩ := fIdx_bd o x
  have hlo := hr.len63
  generalize fIdx (fun y => y == x) o = k at *
  by_cases hk : 0 ≤ k
  · by_cases ho : own < 0
    · have HB : Hid (bwB k own = true) := Lib.hid (by unfold bwB; simp [hk, ho])
      go_enter Tryd.func39, Tryd.ntmps39
      go_wp2_with fail
      refine hix.mono ?_
      rintro e w2 ⟨rfl, hd⟩
      have h2' := (hd.below (B := w.heap.size)).cell (p := ⟨g2, 0, none⟩) hg
      rw [h2] at h2'
      clear hix
      go_wp2_with fail
      go_ret
      exact ⟨ret_bool HB.out.symm, hd⟩
    · have ho2 : 0 ≤ own := by omega
      by_cases hko : k < own
      · have HB : Hid (bwB k own = true) := Lib.hid (by unfold bwB; simp [hk, hko])
        go_enter Tryd.func39, Tryd.ntmps39
        go_wp2_with fail
        refine hix.mono ?_
        rintro e w2 ⟨rfl, hd⟩
        have h2' := (hd.below (B := w.heap.size)).cell (p := ⟨g2, 0, none⟩) hg
        rw [h2] at h2'
        clear hix
        go_wp2_with fail
        go_ret
        exact ⟨ret_bool (by first | (rw [HB.out]; done) | (rw [HB.out]; simp; omega) | (rw [HB.out]; simp [hko])), hd⟩
      · have hko2 : own ≤ k := by omega
        have HB : Hid (bwB k own = false) := Lib.hid (by unfold bwB; simp; omega)
        go_enter Tryd.func39, Tryd.ntmps39
        go_wp2_with fail
        refine hix.mono ?_
        rintro e w2 ⟨rfl, hd⟩
        have h2' := (hd.below (B := w.heap.size)).cell (p := ⟨g2, 0, none⟩) hg
        rw [h2] at h2'
        clear hix
        go_wp2_with fail
        go_ret
        exact ⟨ret_bool (by first | (rw [HB.out]; done) | (rw [HB.out]; simp; omega) | (rw [HB.out]; simp [hko])), hd⟩
  · have hk2 : k < 0 := by omega
    have HB : Hid (bwB k own = false) := Lib.hid (by unfold bwB; simp [hk])
    go_enter Tryd.func39, Tryd.ntmps39
    go_wp2_with fail
    refine hix.mono ?_
    rintro e w2 ⟨rfl, hd⟩
    clear hix
    go_wp2_with fail
    go_ret
    exact ⟨ret_bool HB.out.symm, hd⟩
theorem eg_piw1 : ∀ args w, (callFunc 39 args).run Tryd.prog w = .ok (.enter 39 args) w := by
  intro args w
  kernel_rfl
theorem l20Place_any (A : Option Addr) (c : Nat) (xs : List Int) (p : Int) (B : Nat) (w : World) (hr : Rd LI w B A c xs) :
    Calls Tryd.prog 64 #[.slice A xs.length c, .int .i64 p] w fun e w' => e = .returned (.int .i64 (plc xs p)) ∧ w = w' := by
  have hlen := hr.len63
  go_enter Tryd.func64, Tryd.ntmps64
  go_wp2_with fail
  go_loop [5] (fun i => ∃ k : Nat, k ≤ xs.length ∧ i = .int .i64 k ∧ Hid (∀ y ∈ xs.take k, (y == p) = false)) (fun i => xs.length - (intOf i).toNat)
  case atStart => exact ⟨0, by omega, rfl, Lib.hid (by simp)⟩
  case round =>
    obtain ⟨k, hk, rfl, HN⟩ := hrel
    by_cases hlt : k < xs.length
    · obtain ⟨ad, rfl, _, hc⟩ := hr.int hlt
      have hki : (k : Int) < xs.length := by omega
      cases hb : (xs[k] == p)
      · have HN2 := Lib.hid (take_no hlt HN.out hb)
        go_wp2_with fail
        go_round
        case rel => exact ⟨k + 1, by omega, by go_num, HN2⟩
        case measure => simp [intOf]; omega
      · have HR : Hid (plc xs p = k) := Lib.hid (plc_hit hlt HN.out hb)
        go_wp2_with fail
        go_ret
        exact ⟨by rw [HR.out]; rfl, rfl⟩
    · obtain rfl : k = xs.length := by omega
      have HR : Hid (plc xs p = xs.length) := Lib.hid (plc_none (by
        have := HN.out
        rw [List.take_of_length_le (Nat.le_refl _)] at this
        exact this))
      go_wp2_with fail
      go_ret
      exact ⟨by rw [HR.out]; rfl, rfl⟩
theorem wayX_take_le (o : List Int) (X : List (List Int)) (i : Nat) : wayX o (X.take i) ≤ wayX o X := by
  have : wayX o X = wayX o (X.take i) + wayX o (X.drop i) := by
    unfold wayX
    rw [← List.sum_append, ← List.map_append, List.take_append_drop]
  omega

set_option maxRecDepth 100000 in
set_option maxHeartbeats 3200000 in
theorem l20Way_any (A : Option Addr) (c : Nat) (rs : List (Row Int)) (A1 : Option Addr) (c1 : Nat) (o : List Int) (B : Nat) (w : World) (hr : RdR LI w B A c rs) (hn : tlL (dat rs) ≤ 1048576) (hro : Rd LI w B A1 c1 o) :
    Calls Tryd.prog 50 #[.slice A rs.length c, .slice A1 o.length c1] w fun e w' => e = .returned (.int .i64 (wayX o (dat rs))) ∧ w = w' := by
  have hlen := hr.len63
  have hleno := hro.len63
  have HX := Lib.hid (dat_len rs)
  have hwb : wayX o (dat rs) ≤ 1048576 := by have := wayX_le o (dat rs); rw [tlL_flat] at this; omega
  have HWB := Lib.hid hwb
  have HPL := Lib.hid (fun p => l20Place_any A1 c1 o p B w hro)
  clear hwb hn
  go_enter Tryd.func50, Tryd.ntmps50
  go_wp2_with fail
  go_loop [5, 6] (fun n i => ∃ (k m : Nat), k ≤ rs.length ∧ i = .int .i64 k ∧ n = .int .i64 m ∧ Hid (m = wayX o ((dat rs).take k))) (fun _ i => rs.length - (intOf i).toNat)
  case atStart => exact ⟨0, 0, by omega, rfl, rfl, Lib.hid (by simp [wayX])⟩
  case round =>
    obtain ⟨i, m, hi, rfl, rfl, HM⟩ := hrel
    by_cases hlt : i < rs.length
    · have hli : (i : Int) < rs.length := by omega
      obtain ⟨ad, rfl, _, hcell, hrk⟩ := hr.at_ hlt
      have HRK := Lib.hid hrk
      have HS : Hid (wayX o ((dat rs).take (i + 1)) = m + wayR o rs[i].2.2 rs[i].2.2.length) := Lib.hid (by
        rw [wayX_succ o (dat rs) (by rw [HX.out]; exact hlt), HM.out]
        congr 1
        simp only [dat_get rs i hlt])
      clear hrk
      generalize rs[i].2.2 = ys at *
      generalize rs[i].1 = Ay at *
      generalize rs[i].2.1 = cy at *
      have hyl := HRK.out.len63
      have hmb : m + wayR o ys ys.length ≤ 1048576 := by rw [← HS.out]; exact Nat.le_trans (wayX_take_le o _ _) HWB.out
      have hmb1 : m ≤ 1048576 := by omega
      go_wp2_with fail
      go_loop [5, 7, 8] (fun n l j => ∃ (k q ls : Nat), k ≤ ys.length ∧ j = .int .i64 k ∧ n = .int .i64 q ∧ l = .int .i64 ls ∧ Hid (q = m + wayR o ys k) ∧ Hid (ls = leastP o ys k)) (fun _ _ j => ys.length - (intOf j).toNat)
      case atStart => exact ⟨0, m, o.length, by omega, rfl, rfl, rfl, Lib.hid rfl, Lib.hid rfl⟩
      case round =>
        obtain ⟨k, q, ls, hk, rfl, rfl, rfl, HQ, HL⟩ := hrel
        by_cases hkl : k < ys.length
        · have hki : (k : Int) < ys.length := by omega
          obtain ⟨ay, rfl, _, hcy⟩ := HRK.out.int hkl
          have hpl := HPL.out ys[k]
          have HI := Lib.hid (leastP_inWay o ys hkl)
          have HLS := Lib.hid (leastP_succ o ys hkl)
          have HWS := Lib.hid (wayR_succ o ys k)
          have hpb := plc_le o ys[k]
          have hqb : q ≤ 2097152 := by
            rw [HQ.out]
            have := wayR_le o ys k
            have : wayR o ys k ≤ wayR o ys ys.length := by
              have h := fun a b (h : a ≤ b) => (show wayR o ys a ≤ wayR o ys b from by
                induction b with
                | zero => obtain rfl : a = 0 := by omega
                          exact Nat.le_refl _
                | succ b ihb =>
                  by_cases e : a = b + 1
                  · subst e; exact Nat.le_refl _
                  · have := ihb (by omega)
                    rw [wayR_succ]
                    omega)
              exact h k ys.length (by omega)
            omega
          generalize ys[k] = p at *
          generalize hpp : plc o p = pp at *
          by_cases h1 : ls < pp
          · have h1i : (ls : Int) < pp := by omega
            have h1j : (ls : Int) ≤ pp := by omega
            have h1k : ls ≤ pp := by omega
            have HQ2 : Hid (q + 1 = m + wayR o ys (k + 1)) := Lib.hid (by rw [HWS.out, if_pos (HI.out.1 (by rw [← HL.out]; exact h1)), HQ.out]; omega)
            have HL2 : Hid (ls = leastP o ys (k + 1)) := Lib.hid (by rw [HLS.out, ← HL.out]; omega)
            clear hpp
            go_wp2_with fail
            refine hpl.mono ?_
            rintro e w3 ⟨rfl, rfl⟩
            clear hpl
            go_wp2_with fail
            go_round
            case rel => exact ⟨k + 1, q + 1, ls, by omega, by go_num, by go_num, rfl, HQ2, HL2⟩
            case measure => simp [intOf]; omega
          · have h1i : (pp : Int) ≤ ls := by omega
            have h1j : pp ≤ ls := by omega
            have HQ2 : Hid (q = m + wayR o ys (k + 1)) := Lib.hid (by rw [HWS.out, if_neg (fun h => h1 (by rw [HL.out]; exact HI.out.2 h)), HQ.out]; omega)
            by_cases h2 : pp < ls
            · have h2i : (pp : Int) < ls := by omega
              have HL2 : Hid (pp = leastP o ys (k + 1)) := Lib.hid (by rw [HLS.out, ← HL.out]; omega)
              clear hpp
              go_wp2_with fail
              refine hpl.mono ?_
              rintro e w3 ⟨rfl, rfl⟩
              clear hpl
              go_wp2_with fail
              go_round
              case rel => exact ⟨k + 1, q, pp, by omega, by go_num, rfl, rfl, HQ2, HL2⟩
              case measure => simp [intOf]; omega
            · have h2i : (ls : Int) ≤ pp := by omega
              have h2j : ls ≤ pp := by omega
              have HL2 : Hid (ls = leastP o ys (k + 1)) := Lib.hid (by rw [HLS.out, ← HL.out]; omega)
              clear hpp
              go_wp2_with fail
              refine hpl.mono ?_
              rintro e w3 ⟨rfl, rfl⟩
              clear hpl
              go_wp2_with fail
              go_round
              case rel => exact ⟨k + 1, q, ls, by omega, by go_num, rfl, rfl, HQ2, HL2⟩
              case measure => simp [intOf]; omega
        · obtain rfl : k = ys.length := by omega
          go_wp2_with fail
          go_round
          case rel => exact ⟨i + 1, q, by omega, by go_num, rfl, Lib.hid (by rw [HS.out, HQ.out])⟩
          case measure => simp [intOf]; omega
    · obtain rfl : i = rs.length := by omega
      have HR : Hid (m = wayX o (dat rs)) := Lib.hid (by rw [HM.out, List.take_of_length_le (by rw [HX.out]; exact Nat.le_refl _)])
      go_wp2_with fail
      go_ret
      exact ⟨by rw [HR.out]; rfl, rfl⟩
noncomputable def piwP (X : List (List Int)) (o : List Int) : Int × Int := if ocP X o = 0 then ((wayX o X : Int), 0) else (0, ocP X o)
end Go.Proofs.YtiefiikheaiekaaDoor
