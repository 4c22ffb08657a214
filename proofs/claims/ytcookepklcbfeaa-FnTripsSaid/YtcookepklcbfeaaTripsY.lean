/-
  impl.fewestTrips: the table over the sets of loads.
-/
import Derived.Test.YtcookepklcbfeaaTripsV
import Derived.Test.YtcookepklcbfeaaTripsBits
namespace Go.Proofs.Ytcookepklcbfeaa
open Go.ChangeShapes Go.WideShapes Go.RowKit

/-- the table holds the least numbers of the sets below s -/
def TabU (most : Int) (xs D : List Int) (s : Nat) : Prop := ∀ q, q < s → Least most xs q (D.getD q 0)

theorem TabU.step {most : Int} {xs D : List Int} {s : Nat} {v : Int} (h : TabU most xs D s) (hl : Least most xs s v) (hs : s < D.length) : TabU most xs (D.set s v) (s + 1) := by
  intro q hq
  by_cases e : q = s
  · subst e
    rw [getD_lt _ 0 (by simpa using hs)]
    simpa using hl
  · have e2 : (D.set s v).getD q 0 = D.getD q 0 := by simp [List.getD, List.getElem?_set, Ne.symm e]
    rw [e2]
    exact h q (by omega)
theorem wsum_bd {most : Int} {xs : List Int} (hx : ∀ x ∈ xs, 1 ≤ x ∧ x ≤ most) (hm : most ≤ 1000000) (p : Nat) (k : Nat) (hk : k ≤ xs.length) : 0 ≤ wsum xs p k ∧ wsum xs p k ≤ 1000000 * k := by
  induction k with
  | zero => simp [wsum, sig]
  | succ k ih =>
    obtain ⟨h1, h2⟩ := ih (by omega)
    have hb := getD_bd hx (i := k) (by omega)
    rw [wsum_succ]
    split <;> omega

set_option maxRecDepth 100000 in
set_option maxHeartbeats 3200000 in
theorem fewestTrips_any (A : Option Addr) (c : Nat) (xs : List Int) (most : Int) (w : World) (hr : Rd LI w w.heap.size A c xs) (hx : ∀ x ∈ xs, 1 ≤ x ∧ x ≤ most) (hm0 : 0 ≤ most) (hm : most ≤ 1000000) (hn : xs.length ≤ 10) :
    Calls Try.prog 38 #[.slice A xs.length c, .int .i64 most] w fun e w' => e = .returned (.int .i64 (bestL most xs).1) ∧ Below w.heap.size w w' := by
  have HX := Lib.hid hx
  clear hx
  obtain ⟨N, hN⟩ : ∃ N, N = 2 ^ xs.length := ⟨_, rfl⟩
  have hN1 : N ≤ 1024 := by rw [hN]; exact Nat.pow_le_pow_right (n := 2) (by decide) hn
  have hN0 : 0 < N := by rw [hN]; exact Nat.two_pow_pos _
  have hw : wrap64 ((2 : Int) ^ xs.length) = (N : Int) := by
    have e : (2 : Int) ^ xs.length = (N : Int) := by rw [hN]; simp
    rw [e, IntWalk.wrap64_in _ ⟨by omega, by omega⟩]
  have hNx : ∀ s, 1 ≤ s → s < N → 1 ≤ xs.length := fun s h1 h2 => by
    by_cases e : xs.length = 0
    · rw [e] at hN; omega
    · omega
  have HNX := Lib.hid hNx
  clear hNx
  have HN := Lib.hid hN
  clear hN
  go_enter Try.func38, Try.ntmps38
  go_wp2_with (at_make; refine wpL_make (L := LI) rowI rfl _ _ rfl .i64 .i64 _ _ N rfl rfl hw hw (by omega) (by unfold maxLen; omega) 0 rfl ?_; intro w1 hown hb)
  go_loopw [6] (fun i wr => ∃ (s : Nat) (D : List Int), i = .int .i64 s ∧ 1 ≤ s ∧ s ≤ N ∧ Hid (D.length = N) ∧ Hid (TabU most xs D s) ∧ Own LI 2 wr w.heap.size (some ⟨w.heap.size, 0, none⟩) N D ∧ Below w.heap.size w wr) (fun i _ => N - (intOf i).toNat)
  case atStart =>
    refine ⟨1, _, rfl, by omega, by omega, Lib.hid (by simp), Lib.hid ?_, hown, hb⟩
    intro q hq
    have hq0 : q = 0 := by omega
    subst hq0
    have e : (List.replicate N (0 : Int)).getD 0 0 = 0 := by rw [getD_lt _ 0 (by simpa using hN0)]; simp
    rw [e]
    exact ⟨by omega, fun t => ⟨fun _ => Bins.none_ hm0 t, fun _ => by omega⟩⟩
  case round =>
    obtain ⟨s, D, rfl, hs1, hsN, HD, HT, ho, hbel⟩ := hrel
    by_cases hlt : s < N
    · have hn1 := HNX.out s hs1 hlt
      have hs63 : s < 2 ^ 63 := by omega
      obtain ⟨ad, rfl, hab, _⟩ := hr.int (k := 0) (by omega)
      have hsz := hbel.size
      obtain ⟨g', hg', hg1, hg2, hcs, hfs⟩ := ho.int (k := s) (by rw [HD.out]; exact hlt)
      cases hg'
      have ho1 := ho.setInt s (xs.length : Int)
      have hbel1 : Below w.heap.size w (wr.setCell ⟨w.heap.size, s, none⟩ (.int .i64 xs.length)) := hbel.setCell (by show w.heap.size ≤ w.heap.size; omega) _
      have hsN0 : (s : Int) < N := by omega
      have HO1 := Lib.hid ho1
      have HB1 := Lib.hid hbel1
      clear ho1 hbel1 ho hbel
      go_wp2_with fail
      generalize wr.setCell ⟨w.heap.size, s, none⟩ (.int .i64 xs.length) = wq at *
      go_loopw [7] (fun i wr => ∃ l : Nat, l < xs.length ∧ i = .int .i64 l ∧ s < 2 ^ (l + 1) ∧ wr = wq) (fun i _ => (intOf i).toNat)
      case atStart => exact ⟨xs.length - 1, by omega, by go_num, by have := HN.out; rw [show xs.length - 1 + 1 = xs.length by omega, ← this]; exact hlt, by first | rfl | trivial⟩
      case round =>
        obtain ⟨l, hl, rfl, hs2, rfl⟩ := hrel
        have hbit := bit_at s l hs63
        by_cases hb : s.testBit l = true
        · rw [if_pos hb] at hbit
          go_wp2_with fail
          go_loopw [8] (fun i wr => ∃ (p : Nat) (v : Int), i = .int .i64 p ∧ p ≤ s ∧ 0 ≤ v ∧ v ≤ xs.length ∧ Hid (DPI most xs (fun q => D.getD q 0) s l p v) ∧ Hid (Own LI 2 wr w.heap.size (some ⟨w.heap.size, 0, none⟩) N (D.set s v)) ∧ Hid (Below w.heap.size w wr)) (fun i _ => (intOf i).toNat)
          case atStart => exact ⟨s, _, rfl, by omega, by omega, by omega, Lib.hid DPI.start, HO1, HB1⟩
          case round =>
            obtain ⟨p, v, rfl, hps, hv0, hv1, HDP, HO, HB⟩ := hrel
            by_cases hp0 : p = 0
            · have hpb : p.testBit l = false := by rw [hp0]; simp
              have hpz : (p : Int) = 0 := by omega
              subst hp0
              have hL : Least most xs s v := DPI.least HX.out hm0 hl hb hs2 HT.out HDP.out hpb
              have HT2 := Lib.hid (HT.out.step hL (by rw [HD.out]; exact hlt))
              have hHD2 : (D.set s v).length = N := by rw [List.length_set]; exact HD.out
              have HD2 := Lib.hid hHD2
              clear hL hHD2
              go_wp2_with fail
              go_roundw
              case rel => exact ⟨s + 1, D.set s v, by go_num, by omega, by omega, HD2, HT2, HO.out, HB.out⟩
              case measure => simp [intOf]; omega
            · have hpp : (0 : Int) < p := by omega
              have hbit2 := bit_at p l (by omega)
              by_cases hbp : p.testBit l = true
              · rw [if_pos hbp] at hbit2
                have hbnd := wsum_bd HX.out hm p
                have HBD := Lib.hid hbnd
                obtain ⟨wz, rfl⟩ : ∃ wz : World, wz = wr := ⟨_, rfl⟩
                clear hbnd
                go_wp2_with fail
                go_loopw [9, 54] (fun a j wr => ∃ k : Nat, k ≤ xs.length ∧ j = .int .i64 k ∧ a = .int .i64 (wsum xs p k) ∧ wr = wz) (fun _ j _ => xs.length - (intOf j).toNat)
                case atStart => exact ⟨0, by omega, rfl, by first | rfl | simp [wsum, sig], by first | rfl | trivial⟩
                case round =>
                  obtain ⟨k, hk, rfl, rfl, rfl⟩ := hrel
                  by_cases hkl : k < xs.length
                  · obtain ⟨ad', had, hab', hck⟩ := (hr.below HB.out).int hkl
                    cases had
                    have hkl0 : (k : Int) < xs.length := by omega
                    have hbk := bit_at p k (by omega)
                    obtain ⟨b1, b2⟩ := HBD.out k hk
                    obtain ⟨x1, x2⟩ := HX.out _ (List.getElem_mem hkl)
                    have hwr : IntKind.i64.wrap (wsum xs p k + xs[k]) = wsum xs p k + xs[k] := wrapS (by omega) (by omega)
                    have HS := Lib.hid (wsum_succ xs p k)
                    by_cases hpk : p.testBit k = true
                    · rw [if_pos hpk] at hbk
                      have HS2 : Hid (wsum xs p (k + 1) = wsum xs p k + xs[k]) := Lib.hid (by rw [HS.out, if_pos hpk, getD_lt _ 0 hkl])
                      go_wp2_with fail
                      go_roundw
                      case rel => exact ⟨k + 1, by omega, by go_num, by rw [HS2.out], by first | rfl | trivial⟩
                      case measure => simp [intOf]; omega
                    · rw [if_neg hpk] at hbk
                      have HS2 : Hid (wsum xs p (k + 1) = wsum xs p k) := Lib.hid (by rw [HS.out, if_neg hpk]; omega)
                      go_wp2_with fail
                      go_roundw
                      case rel => exact ⟨k + 1, by omega, by go_num, by rw [HS2.out], by first | rfl | trivial⟩
                      case measure => simp [intOf]; omega
                  · have hke : k = xs.length := by omega
                    subst hke
                    have hand := and_nat (p - 1) s (by omega) hs63
                    rw [show ((p - 1 : Nat) : Int) = (p : Int) - 1 by omega] at hand
                    have hnlt := next_lt (s := s) (p := p) (by omega)
                    have hnle : (p - 1) &&& s ≤ s := Nat.and_le_right
                    by_cases hw2 : wsum xs p xs.length ≤ most
                    · have hp1 : 1 ≤ p := by omega
                      have hqlt : s - p < s := by omega
                      have HLq := Lib.hid (HT.out (s - p) hqlt)
                      have hlen2 : (D.set s v).length = N := by rw [List.length_set]; exact HD.out
                      have HL2 := Lib.hid hlen2
                      clear hlen2
                      obtain ⟨g1, hg', hg3, hg4, hcs1, hfs1⟩ := HO.out.int (k := s) (by rw [HL2.out]; omega)
                      cases hg'
                      obtain ⟨g2, hg', hg5, hg6, hcs2, hfs2⟩ := HO.out.int (k := s - p) (by rw [HL2.out]; omega)
                      cases hg'
                      rw [List.getElem_set_self] at hcs1
                      rw [List.getElem_set_ne (by omega)] at hcs2
                      obtain ⟨d, hd⟩ : ∃ d, d = D[s - p]'(by rw [HD.out]; omega) := ⟨_, rfl⟩
                      rw [← hd] at hcs2
                      have hdl : Least most xs (s - p) d := by rw [hd, ← getD_lt _ 0 (by rw [HD.out]; omega)]; exact HLq.out
                      have hd0 : 0 ≤ d := hdl.1
                      have hd1 : d ≤ xs.length := (hdl.2 _).2 (Bins.each HX.out hm0 _)
                      have hwd : IntKind.i64.wrap (d + 1) = d + 1 := wrapS (by omega) (by omega)
                      have ht : ((s : Int) - p).toNat = s - p := by omega
                      have hs0 : (0 : Int) ≤ (s : Int) - p := by omega
                      have hs4 : (s : Int) - p < N := by omega
                      have HDP2 := HDP.out.take (by omega) hbp hw2
                      have HDd : Hid (d = D.getD (s - p) 0) := Lib.hid (by rw [hd, getD_lt _ 0 (by rw [HD.out]; omega)])
                      have HDP3 : Hid (DPI most xs (fun q => D.getD q 0) s l ((p - 1) &&& s) (min v (d + 1))) := Lib.hid (by rw [HDd.out]; exact HDP2)
                      clear HDP2 hd hdl
                      go_wp2_with fail
                      go_region
                      go_wp2_with fail
                      go_roundw
                      case rel =>
                        have hmin : (if d + 1 < v then d + 1 else v) = min v (d + 1) := by split <;> omega
                        rw [hmin]
                        have hO2 := HO.out.setInt s (min v (d + 1))
                        rw [List.set_set] at hO2
                        exact ⟨(p - 1) &&& s, min v (d + 1), by go_num, hnle, by omega, by omega, HDP3, Lib.hid (hO2.drewN 1), Lib.hid (below_drewN (HB.out.setCell (Nat.le_refl _) _) 1)⟩
                      case measure => simp [intOf]; omega
                    · have hw3 : most < wsum xs p xs.length := by omega
                      have HDP2 := Lib.hid (HDP.out.skip hw2)
                      go_wp2_with fail
                      go_roundw
                      case rel => exact ⟨(p - 1) &&& s, v, by go_num, hnle, hv0, hv1, HDP2, HO, HB⟩
                      case measure => simp [intOf]; omega
              · rw [if_neg hbp] at hbit2
                have hpb : p.testBit l = false := by simpa using hbp
                have hL : Least most xs s v := DPI.least HX.out hm0 hl hb hs2 HT.out HDP.out hpb
                have HT2 := Lib.hid (HT.out.step hL (by rw [HD.out]; exact hlt))
                have hHD2 : (D.set s v).length = N := by rw [List.length_set]; exact HD.out
                have HD2 := Lib.hid hHD2
                clear hL hHD2
                go_wp2_with fail
                go_roundw
                case rel => exact ⟨s + 1, D.set s v, by go_num, by omega, by omega, HD2, HT2, HO.out, HB.out⟩
                case measure => simp [intOf]; omega
        · rw [if_neg hb] at hbit
          have hl1 : 1 ≤ l := by
            rcases Nat.eq_zero_or_pos l with e | e
            · subst e
              have : s = 1 := by simp at hs2; omega
              subst this
              simp at hb
            · exact e
          go_wp2_with fail
          go_roundw
          case rel => exact ⟨l - 1, by omega, by go_num, by rw [show l - 1 + 1 = l by omega]; exact part_last hs2 (fun _ h => h) (by simpa using hb), by first | rfl | trivial⟩
          case measure => simp [intOf]; omega
    · have hse : s = N := by omega
      subst hse
      obtain ⟨g', hg', hg1, hg2, hcs, hfs⟩ := ho.int (k := s - 1) (by rw [HD.out]; omega)
      cases hg'
      have ht : ((s : Int) - 1).toNat = s - 1 := by omega
      have hs0 : (0 : Int) ≤ (s : Int) - 1 := by omega
      have hL := HT.out (s - 1) (by omega)
      rw [getD_lt _ 0 (by rw [HD.out]; omega)] at hL
      have hV : (bestL most xs).1 = D[s - 1]'(by rw [HD.out]; omega) := by
        have hL2 : Least most xs (2 ^ xs.length - 1) (D[s - 1]'(by rw [HD.out]; omega)) := by rw [← HN.out]; exact hL
        obtain ⟨l, _, h2, h3, _⟩ := least_few HX.out hm0 hL2
        unfold bestL
        rw [h2, h3]
      have HV := Lib.hid hV
      clear hL hV
      go_wp2_with fail
      rw [HV.out]
      go_ret
      exact ⟨rfl, hbel⟩
end Go.Proofs.Ytcookepklcbfeaa
