/-
  Draws of roads with two places, with places, alone.
-/
import Derived.Test.YtcookepklcbfeaaRoadsDrawA
import Derived.Test.YtcookepklcbfeaaPutS
namespace Go.Proofs.Ytcookepklcbfeaa
open Go.ChangeShapes Go.WideShapes Go.RowKit

theorem Fs.rdRB {g b B : Nat} {w w' : World} {c : Nat} {A : Option Addr} {rs : List (Row Int)} (hF : Fs g w w') (h : RdR LI w B A c rs) (hB : B ≤ w.heap.size) (hh : Hi b A rs) (hg : g < b) : RdR LI w' B A c rs :=
  ⟨hF.rdL h.out hB (fun k e => by have := hh.1 k e; omega), fun r hr => hF.rdL (h.inn r hr) hB (fun k e => by have := hh.2 r hr k e; omega)⟩
def DrewRW (w : World) (e : Ending) (w' : World) : Prop :=
  ∃ (Bo : Option Addr) (d : Nat) (rs : List (Row Int)) (u v : Int), e = .returned (.tuple #[.slice Bo rs.length d, .int .i64 u, .int .i64 v]) ∧ rs.length ≤ 9 ∧ RdR LI w' w'.heap.size Bo d rs ∧ Below w.heap.size w w'
def DrewRP (w : World) (e : Ending) (w' : World) : Prop :=
  ∃ (Bo : Option Addr) (d : Nat) (rs : List (Row Int)) (Bp : Option Addr) (dp : Nat) (ps : List Int), e = .returned (.tuple #[.slice Bo rs.length d, .slice Bp ps.length dp]) ∧ rs.length ≤ 9 ∧ ps.length ≤ 7 ∧ RdR LI w' w'.heap.size Bo d rs ∧ Rd LI w' w'.heap.size Bp dp ps ∧ Below w.heap.size w w'
def DrewR1 (w : World) (e : Ending) (w' : World) : Prop :=
  ∃ (Bo : Option Addr) (d : Nat) (rs : List (Row Int)), e = .returned (.slice Bo rs.length d) ∧ rs.length ≤ 9 ∧ RdR LI w' w'.heap.size Bo d rs ∧ Below w.heap.size w w'
set_option maxRecDepth 100000 in
set_option maxHeartbeats 6400000 in
theorem drawRoads_any (A : Option Addr) (c : Nat) (cs : List Int) (w : World) (hr : Rd LU w w.heap.size A c cs) (hb : ∀ x ∈ cs, 0 ≤ x ∧ x ≤ 255) :
    Calls Try.prog 32 #[.slice A cs.length c] w (DrewR1 w) := by
  obtain ⟨g, hg⟩ : ∃ g, g = w.heap.size := ⟨_, rfl⟩
  have hc := from_at g A c cs w hg hr (Nat.le_refl _) hb
  have HG := Lib.hid hg
  clear hg hr
  go_enter Try.func32, Try.ntmps32
  go_wp2_with fail
  refine hc.mono ?_
  rintro e w1 ⟨rfl, hS, hb1⟩
  have hgw : w.heap.size ≤ g := by rw [HG.out]; exact Nat.le_refl _
  rw [HG.out] at hb1
  have HB1 := Lib.hid hb1
  have hc2 := l21DrawRoads_any g A c cs 0 w1 hS (by omega)
  clear hc hS hb1
  go_wp2_with fail
  refine hc2.mono ?_
  rintro e w2 ⟨Bo, d, rs, rfl, h1, h9, hrd, hhi, hS, hF⟩
  have HB := Lib.hid (HB1.out.trans (hF.below HB1.out.size hgw))
  have HRD := Lib.hid hrd
  clear hc2 hhi hS hF hrd
  go_wp2_with fail
  go_ret
  exact ⟨Bo, d, rs, rfl, h9, HRD.out, HB.out⟩
set_option maxRecDepth 100000 in
set_option maxHeartbeats 6400000 in
theorem drawWay_any (A : Option Addr) (c : Nat) (cs : List Int) (w : World) (hr : Rd LU w w.heap.size A c cs) (hb : ∀ x ∈ cs, 0 ≤ x ∧ x ≤ 255) :
    Calls Try.prog 24 #[.slice A cs.length c] w (DrewRW w) := by
  obtain ⟨g, hg⟩ : ∃ g, g = w.heap.size := ⟨_, rfl⟩
  have hc := from_at g A c cs w hg hr (Nat.le_refl _) hb
  have HG := Lib.hid hg
  clear hg hr
  go_enter Try.func24, Try.ntmps24
  go_wp2_with fail
  refine hc.mono ?_
  rintro e w1 ⟨rfl, hS, hb1⟩
  have hg1 := hS.g1
  have hgw : w.heap.size ≤ g := by rw [HG.out]; exact Nat.le_refl _
  rw [HG.out] at hb1
  have HB1 := Lib.hid hb1
  have hc2 := l21DrawRoads_any g A c cs 0 w1 hS (by omega)
  clear hc hS hb1
  go_wp2_with fail
  refine hc2.mono ?_
  rintro e w2 ⟨Bo, d, rs, rfl, h1, h9, hrd, hhi, hS, hF⟩
  have HRD := Lib.hid hrd
  have HHI := Lib.hid hhi
  have HF := Lib.hid hF
  have hc3 := one_any 10 g A c cs _ w2 hS (by omega) (by omega)
  clear hc2 hhi hS hF hrd
  go_wp2_with fail
  refine hc3.mono ?_
  rintro e w3 ⟨q, rfl, hS, hF⟩
  have HRD3 := Lib.hid (hF.rdR HRD.out HHI.out hg1)
  have HF3 := Lib.hid (HF.out.trans hF)
  have HS3 := Lib.hid hS
  clear hc3 hS hF HRD HF
  have hl0 : (1 : Int) ≤ rs.length := by omega
  have hl9 : (rs.length : Int) ≤ 9 := by omega
  cases q
  · have hp := pick_any (rs.length : Int) g A c cs _ w3 HS3.out (by omega) (by omega)
    clear HS3
    go_wp2_with fail
    refine hp.mono ?_
    rintro e w4 ⟨u, rfl, u0, u1, hS, hF⟩
    have HRD4 := Lib.hid (hF.rdR HRD3.out HHI.out hg1)
    have HF4 := Lib.hid (HF3.out.trans hF)
    have hp2 := pick_any (rs.length : Int) g A c cs _ w4 hS (by omega) (by omega)
    clear hp hS hF HRD3 HF3
    go_wp2_with fail
    refine hp2.mono ?_
    rintro e w5 ⟨v, rfl, v0, v1, hS, hF⟩
    have HRD5 := Lib.hid (hF.rdR HRD4.out HHI.out hg1)
    have HB := Lib.hid (HB1.out.trans ((HF4.out.trans hF).below HB1.out.size hgw))
    clear hp2 hS hF HRD4 HF4
    go_wp2_with fail
    exact bodyPost_ret (v := .tuple #[.slice Bo rs.length d, .int .i64 u, .int .i64 v]) (by simp [results, Try.results24, go_sem]) rfl ⟨Bo, d, rs, u, v, rfl, h9, HRD5.out, HB.out⟩
  · have ha := amongLit_any [-1, (rs.length : Int), (rs.length : Int) - 1] 3 #[.int .i64 (-1), .int .i64 (rs.length : Int), .int .i64 ((rs.length : Int) - 1)] rfl rfl (by omega) (by omega) g A c cs _ w3 HS3.out (by omega)
    clear HS3
    go_wp2_with fail
    refine ha.mono ?_
    rintro e w4 ⟨v, rfl, hv, hS, hF⟩
    have HRD4 := Lib.hid (hF.rdR HRD3.out HHI.out hg1)
    have HB := Lib.hid (HB1.out.trans ((HF3.out.trans hF).below HB1.out.size hgw))
    clear ha hv hS hF HRD3 HF3
    go_wp2_with fail
    exact bodyPost_ret (v := .tuple #[.slice Bo rs.length d, .int .i64 0, .int .i64 v]) (by simp [results, Try.results24, go_sem]) rfl ⟨Bo, d, rs, 0, v, rfl, h9, HRD4.out, HB.out⟩
set_option maxRecDepth 100000 in
set_option maxHeartbeats 6400000 in
theorem drawRound_any (A : Option Addr) (c : Nat) (cs : List Int) (w : World) (hr : Rd LU w w.heap.size A c cs) (hb : ∀ x ∈ cs, 0 ≤ x ∧ x ≤ 255) :
    Calls Try.prog 29 #[.slice A cs.length c] w (DrewRP w) := by
  obtain ⟨g, hg⟩ : ∃ g, g = w.heap.size := ⟨_, rfl⟩
  have hc := from_at g A c cs w hg hr (Nat.le_refl _) hb
  have HG := Lib.hid hg
  clear hg hr
  go_enter Try.func29, Try.ntmps29
  go_wp2_with fail
  refine hc.mono ?_
  rintro e w1 ⟨rfl, hS, hb1⟩
  have hg1 := hS.g1
  have hgw : w.heap.size ≤ g := by rw [HG.out]; exact Nat.le_refl _
  rw [HG.out] at hb1
  have HB1 := Lib.hid hb1
  have hc2 := l21DrawRoads_any g A c cs 0 w1 hS (by omega)
  clear hc hS hb1
  go_wp2_with fail
  refine hc2.mono ?_
  rintro e w2 ⟨Bo, d, rs, rfl, h1, h9, hrd, hhi, hS, hF⟩
  have hs2 := hF.size
  have hbl : Below w2.heap.size w2 (w2.alloc (.cells #[] 2)) := (Below.refl _ w2).alloc (Nat.le_refl _) _
  have hO0 := Own.lit0 (L := LI) (T := 2) (base := w2.heap.size) (g := w2.heap.size) w2 (Nat.le_refl _) rfl
  have HRD := Lib.hid (hrd.below hbl)
  have HHI := Lib.hid hhi
  have HF := Lib.hid (hF.then_ hbl hs2)
  have hl0 : (1 : Int) ≤ rs.length := by omega
  have hl9 : (rs.length : Int) ≤ 9 := by omega
  have hc3 := pick_any 6 g A c cs _ _ (hS.below hbl) (by omega) (by omega)
  clear hc2 hhi hS hF hrd hbl
  go_wp2_with fail
  refine hc3.mono ?_
  rintro e w3 ⟨x, rfl, x0, x1, hS, hF⟩
  obtain ⟨K, rfl⟩ : ∃ K : Nat, x = (K : Int) := ⟨x.toNat, by omega⟩
  have hK5 : K ≤ 5 := by omega
  have HRD3 := Lib.hid (hF.rdRB HRD.out (by simp) HHI.out hg1)
  have hs3 := hF.size
  simp at hs3
  have HF3 := Lib.hid (HF.out.trans hF)
  have HO3 := Lib.hid (hF.own hO0 (fun e => by have := (hO0.blk_lt g e).1; omega))
  have HS3 := Lib.hid (hS.more (show _ ≤ 510 + 4 * 0 by omega))
  clear hc3 hS hF HRD HF hO0 x0 x1
  go_wp2_with fail
  go_loopw [7, 8] (fun o i wr => ∃ (k : Nat) (A1 : Option Addr) (c1 : Nat) (L : List Int), k ≤ K ∧ i = .int .i64 ((K : Int) - k) ∧ o = .slice A1 L.length c1 ∧ Hid (L.length ≤ k) ∧ Hid (Own LI 2 wr w2.heap.size A1 c1 L) ∧ Hid (RdR LI wr w2.heap.size Bo d rs) ∧ Hid (w2.heap.size ≤ wr.heap.size) ∧ Hid (Sr wr g A c cs (510 + 4 * k)) ∧ Hid (Fs g w1 wr)) (fun _ i _ => (intOf i).toNat)
  case atStart => exact ⟨0, _, _, [], by omega, by go_num, rfl, Lib.hid (by simp), HO3, HRD3, Lib.hid (by omega), HS3, HF3⟩
  case round =>
    clear HO3 HRD3 HS3 HF3
    obtain ⟨k, A1, c1, L, hk, rfl, rfl, HL, HO, HRD, HZ, HS, HF⟩ := hrel
    have hz := HZ.out
    have hLk := HL.out
    have hsr := HF.out.size
    by_cases hlt : k < K
    · have hki : (0 : Int) < (K : Int) - k := by omega
      have hp := pick_any (rs.length : Int) g A c cs _ wr HS.out (by omega) (by omega)
      clear HS
      go_wp2_with fail
      refine hp.mono ?_
      rintro e w4 ⟨u, rfl, u0, u1, hS, hF⟩
      have hs4 := hF.size
      have HRD4 := Lib.hid (hF.rdRB HRD.out hz HHI.out hg1)
      have HF4 := Lib.hid (HF.out.trans hF)
      have HO4 := Lib.hid (hF.own HO.out (fun e => by have := (HO.out.blk_lt g e).1; omega))
      have HS4 := Lib.hid hS
      have hput := l00Put_any u A1 c1 L w4 HO4.out.rd (by omega)
      clear hp hS hF HRD HF HO
      go_wp2_with fail
      refine hput.mono ?_
      rintro e w5 ⟨A2, c2, L2, rfl, hl2, ho2, hb5⟩
      have hs5 := hb5.size
      have HRD5 := Lib.hid (HRD4.out.below (hb5.mono (show w2.heap.size ≤ w4.heap.size by omega)))
      have HF5 := Lib.hid (HF4.out.then_ hb5 (by omega))
      have HO5 := Lib.hid (ho2.lower (show w2.heap.size ≤ w4.heap.size by omega))
      have HS5 := Lib.hid ((HS4.out.below hb5).more (show 510 + 4 * k + 2 ≤ 510 + 4 * (k + 1) by omega))
      clear hput hb5 ho2 HRD4 HF4 HO4 HS4
      go_wp2_with fail
      go_roundw
      case rel => exact ⟨k + 1, A2, c2, L2, by omega, by go_num, rfl, Lib.hid (by omega), HO5, HRD5, Lib.hid (by omega), HS5, HF5⟩
      case measure => simp [intOf]; omega
    · have hki : (K : Int) - k ≤ 0 := by omega
      obtain ⟨wq, rfl⟩ : ∃ q, q = wr := ⟨_, rfl⟩
      have ho := one_any 12 g A c cs _ wq HS.out (by omega) (by omega)
      clear HS
      go_wp2_with fail
      refine ho.mono ?_
      rintro e w4 ⟨q, rfl, hS, hF⟩
      have hs4 := hF.size
      have HRD4 := Lib.hid (hF.rdRB HRD.out hz HHI.out hg1)
      have HF4 := Lib.hid (HF.out.trans hF)
      have HO4 := Lib.hid (hF.own HO.out (fun e => by have := (HO.out.blk_lt g e).1; omega))
      have HS4 := Lib.hid hS
      clear ho hS hF HRD HF HO
      cases q
      · have HB := Lib.hid (HB1.out.trans (HF4.out.below HB1.out.size hgw))
        clear HS4
        go_wp2_with fail
        exact bodyPost_ret (v := .tuple #[.slice Bo rs.length d, .slice A1 L.length c1]) (by simp [results, Try.results29, go_sem]) rfl ⟨Bo, d, rs, A1, c1, L, rfl, h9, by omega, HRD4.out.more (by omega), HO4.out.rd, HB.out⟩
      · have ha := amongLit_any [-1, 0, (rs.length : Int) - 1, (rs.length : Int)] 4 #[.int .i64 (-1), .int .i64 0, .int .i64 ((rs.length : Int) - 1), .int .i64 (rs.length : Int)] rfl rfl (by omega) (by omega) g A c cs _ w4 HS4.out (by omega)
        clear HS4
        go_wp2_with fail
        refine ha.mono ?_
        rintro e w5 ⟨v, rfl, hv, hS, hF⟩
        have hs5 := hF.size
        have hnn := HO4.out.blk_lt
        have HRD5 := Lib.hid (hF.rdRB HRD4.out (by omega) HHI.out hg1)
        have HF5 := Lib.hid (HF4.out.trans hF)
        have HO5 := Lib.hid (hF.own HO4.out (fun e => by have := (hnn g e).1; omega))
        clear ha hv hS hF HRD4 HF4 HO4
        go_wp2_with (at_builtin; go_loud (refine wpL_app1 (L := LI) rowI rfl rfl _ _ rfl rfl HO5.out v _ rfl rfl (by simp) (by unfold maxLen; omega) (by omega) (by omega) ?_); intro A6 c6 w6 ho6 hg6)
        have hb6 : Below w2.heap.size w5 w6 := Grew.below' hg6 (by omega) (fun q e => (hnn q e).1)
        have hs6 := hb6.size
        have HRD6 := Lib.hid ((HRD5.out.below hb6).more (show w2.heap.size ≤ w6.heap.size by omega))
        have HB := Lib.hid (HB1.out.trans ((HF5.out.then_ hb6 hs2).below HB1.out.size hgw))
        have HO6 := Lib.hid ho6
        clear ho6 hg6 hb6 HRD5 HF5 HO5
        go_wp2_with fail
        exact bodyPost_ret (v := .tuple #[.slice Bo rs.length d, .slice A6 (L ++ [v]).length c6]) (by simp [results, Try.results29, go_sem]) rfl ⟨Bo, d, rs, A6, c6, L ++ [v], rfl, h9, by simp; omega, HRD6.out, HO6.out.rd, HB.out⟩
end Go.Proofs.Ytcookepklcbfeaa
