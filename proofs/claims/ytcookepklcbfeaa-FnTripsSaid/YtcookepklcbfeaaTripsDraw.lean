/-
  Draws of loads: l21Draw, DrawBestTrips, DrawEvenestTrips.
-/
import Derived.Test.YtcookepklcbfeaaRoadsDraw
namespace Go.Proofs.Ytcookepklcbfeaa
open Go.ChangeShapes Go.WideShapes Go.RowKit

def DrewTr (g : Nat) (A : Option Addr) (c : Nat) (cs : List Int) (m : Nat) (w : World) (e : Ending) (w' : World) : Prop :=
  ∃ (B : Option Addr) (d : Nat) (xs : List Int) (v : Int), e = .returned (.tuple #[.slice B xs.length d, .int .i64 v]) ∧ xs.length ≤ 12 ∧ (∀ x ∈ xs, x ≤ 101) ∧ Own LI 2 w' w.heap.size B d xs ∧ Sr w' g A c cs m ∧ Fs g w w'
def DrewT2 (w : World) (e : Ending) (w' : World) : Prop :=
  ∃ (B : Option Addr) (d : Nat) (xs : List Int) (v : Int), e = .returned (.tuple #[.slice B xs.length d, .int .i64 v]) ∧ xs.length ≤ 12 ∧ (∀ x ∈ xs, x ≤ 101) ∧ Rd LI w' w'.heap.size B d xs ∧ Below w.heap.size w w'
set_option maxRecDepth 100000 in
set_option maxHeartbeats 6400000 in
theorem l21Draw_any (g : Nat) (A : Option Addr) (c : Nat) (cs : List Int) (m : Nat) (w : World) (h : Sr w g A c cs m) (hm : m ≤ 1000000) :
    Calls Try.prog 47 #[.pointer (some ⟨g, 0, none⟩)] w (DrewTr g A c cs (m + 60) w) := by
  have hg := h.g1
  have hc := pick_any 60 g A c cs m w h (by omega) (by omega)
  clear h
  go_enter Try.func47, Try.ntmps47
  go_wp2_with fail
  refine hc.mono ?_
  rintro e w1 ⟨x, rfl, x0, x1, hS, hF⟩
  have hs1 := hF.size
  have hbl : Below w1.heap.size w1 (w1.alloc (.cells #[] 2)) := (Below.refl _ w1).alloc (Nat.le_refl _) _
  have hO0 := Own.lit0 (L := LI) (T := 2) (base := w1.heap.size) (g := w1.heap.size) w1 (Nat.le_refl _) rfl
  have HF1 := Lib.hid (hF.then_ hbl hs1)
  have hg1 : g < w1.heap.size := by omega
  have hc2 := pick_any 8 g A c cs _ _ (hS.belowB hbl hg1) (by omega) (by omega)
  obtain ⟨M, hM⟩ : ∃ M : Int, M = 40 + x := ⟨_, rfl⟩
  have e0 : IntKind.i64.wrap (40 + x) = M := by rw [hM]; exact wrapS (by omega) (by omega)
  have hM1 : 40 ≤ M ∧ M ≤ 99 := by omega
  have HM := Lib.hid hM
  clear hc hS hF hbl hM
  go_wp2_with fail
  refine hc2.mono ?_
  rintro e w2 ⟨y, rfl, y0, y1, hS, hF⟩
  have hs2 := hF.size
  simp at hs2
  obtain ⟨n0, rfl⟩ : ∃ n : Nat, y = (n : Int) := ⟨y.toNat, by omega⟩
  have hO2 := hF.own hO0 (fun e => by have := (hO0.blk_lt g e).1; omega)
  have HF2 := Lib.hid (HF1.out.trans hF)
  have hc3 := one_any 24 g A c cs _ _ hS (by omega) (by omega)
  clear hc2 hS hF HF1 hO0
  go_wp2_with fail
  refine hc3.mono ?_
  rintro e w3 ⟨q, rfl, hS, hF⟩
  have hs3 := hF.size
  have HO3 := Lib.hid (hF.own hO2 (fun e => by have := (hO2.blk_lt g e).1; omega))
  have HF3 := Lib.hid (HF2.out.trans hF)
  have HS3 := Lib.hid hS
  clear hc3 hS hF HF2 hO2
  go_upto_if 15 with fail
  go_cut [6] from 14 to 19 (fun s wx => ∃ n : Nat, s = .int .i64 n ∧ n ≤ 11 ∧ Sr wx g A c cs (m + 8) ∧ Fs g w3 wx)
  case first =>
    cases q
    · go_wp2_with fail
      go_meet
      case rel => exact ⟨n0, rfl, by omega, HS3.out.more (by omega), Fs.refl _ _⟩
    · have hp := pick_any 2 g A c cs _ w3 HS3.out (by omega) (by omega)
      clear HS3
      go_wp2_with fail
      refine hp.mono ?_
      rintro e w4 ⟨z, rfl, z0, z1, hS, hF⟩
      obtain ⟨n2, hn2⟩ : ∃ n : Nat, (n : Int) = 10 + z := ⟨(10 + z).toNat, by omega⟩
      have e1 : IntKind.i64.wrap (10 + z) = n2 := by rw [hn2]; exact wrapS (by omega) (by omega)
      have hn3 : n2 ≤ 11 := by omega
      have HS4 := Lib.hid hS
      have HF4 := Lib.hid hF
      clear hp hS hF hn2 z0 z1
      go_wp2_with fail
      go_meet
      case rel => exact ⟨n2, by first | rfl | (rw [e1]; done) | simp [e1], by omega, HS4.out.more (by omega), HF4.out⟩
  case rest =>
  clear HS3
  obtain ⟨n, rfl, n11, hS, hF⟩ := hcut
  have hsc := hF.size
  have HO := Lib.hid (hF.own HO3.out (fun e => by have := (HO3.out.blk_lt g e).1; omega))
  have HS := Lib.hid (hS.more (show m + 8 ≤ m + 8 + 2 * 0 by omega))
  have HF := Lib.hid (HF3.out.trans hF)
  clear hS hF HO3 HF3
  go_wp2_with fail
  go_loopw [5, 7] (fun o i wr => ∃ (L : List Int) (A1 : Option Addr) (c1 : Nat), L.length ≤ n ∧ i = .int .i64 ((n : Int) - L.length) ∧ o = .slice A1 L.length c1 ∧ Hid (∀ x ∈ L, x ≤ 101) ∧ Hid (Own LI 2 wr w1.heap.size A1 c1 L) ∧ Hid (Sr wr g A c cs (m + 8 + 2 * L.length)) ∧ Hid (Fs g w wr) ∧ Hid (w1.heap.size ≤ wr.heap.size)) (fun _ i _ => (intOf i).toNat)
  case atStart => exact ⟨[], _, _, by simp, by go_num, rfl, Lib.hid (fun x hx => by cases hx), HO, HS, HF, Lib.hid (by omega)⟩
  case round =>
    clear HO HS HF
    obtain ⟨L, A1, c1, hj, rfl, rfl, HL, HO, HS, HF, HZ⟩ := hrel
    have hz := HZ.out
    by_cases hlt : L.length < n
    · have hki : (0 : Int) < (n : Int) - L.length := by omega
      have hp := pick_any M g A c cs _ wr HS.out (by omega) (by omega)
      clear HS
      go_wp2_with fail
      refine hp.mono ?_
      rintro e w4 ⟨v, rfl, v0, v1, hS, hF⟩
      obtain ⟨z, hz2⟩ : ∃ z, z = 1 + v := ⟨_, rfl⟩
      have z0 : z ≤ 101 := by omega
      have e1 : IntKind.i64.wrap (1 + v) = z := by rw [hz2]; exact wrapS (by omega) (by omega)
      have hs4 := hF.size
      have hnn := HO.out.blk_lt
      have HO4 := Lib.hid (hF.own HO.out (fun e => by have := (hnn g e).1; omega))
      have HF4 := Lib.hid (HF.out.trans hF)
      have HS4 := Lib.hid hS
      clear hp hS hF HO HF hz2 v0 v1
      go_wp2_with (at_builtin; go_loud (refine wpL_app1 (L := LI) rowI rfl rfl _ _ rfl rfl HO4.out z _ rfl rfl (by simp) (by unfold maxLen; omega) (by omega) (by omega) ?_); intro A6 c6 w6 ho6 hg6)
      have hbz : Below w1.heap.size w4 w6 := Grew.below' hg6 (by omega) (fun b e => (hnn b e).1)
      have HS6 := Lib.hid ((HS4.out.belowB hbz hg1).more (show m + 8 + 2 * L.length + 2 ≤ m + 8 + 2 * (L ++ [z]).length by simp; omega))
      have HF6 := Lib.hid (HF4.out.then_ hbz (by omega))
      have HO6 := Lib.hid ho6
      have HL6 : Hid (∀ x ∈ L ++ [z], x ≤ 101) := Lib.hid (fun x hx => by
        rcases List.mem_append.1 hx with h | h
        · exact HL.out x h
        · simp at h; omega)
      have HZ6 := Lib.hid (show w1.heap.size ≤ w6.heap.size by have := hbz.size; omega)
      clear ho6 hg6 hbz e1
      go_roundw
      case rel => exact ⟨L ++ [z], A6, c6, by simp; omega, by go_num, by simp, HL6, HO6, HS6, HF6, HZ6⟩
      case measure => simp [intOf]; omega
    · have hki : (n : Int) - L.length ≤ 0 := by omega
      have hl11 : L.length ≤ 11 := by omega
      obtain ⟨wq, rfl⟩ : ∃ q, q = wr := ⟨_, rfl⟩
      have hp := pick_any 20 g A c cs _ wq HS.out (by omega) (by omega)
      clear HS
      go_wp2_with fail
      refine hp.mono ?_
      rintro e w4 ⟨q, rfl, q0, q1, hS, hF⟩
      have hs4 := hF.size
      have hnn := HO.out.blk_lt
      have HO4 := Lib.hid (hF.own HO.out (fun e => by have := (hnn g e).1; omega))
      have HF4 := Lib.hid (HF.out.trans hF)
      have HS4 := Lib.hid (hS.more (show _ ≤ m + 40 by omega))
      clear hp hS hF HO HF
      by_cases z0 : q = 0
      · subst z0
        have ha := amongLit_any [-1, 0, 1, 5000, 5001] 5 #[.int .i64 (-1), .int .i64 0, .int .i64 1, .int .i64 5000, .int .i64 5001] rfl rfl (by omega) (by omega) g A c cs _ w4 HS4.out (by omega)
        clear HS4
        go_wp2_with fail
        refine ha.mono ?_
        rintro e w5 ⟨v, rfl, hv, hS, hF⟩
        have HO5 := Lib.hid (hF.own HO4.out (fun e => by have := (hnn g e).1; omega))
        have HF5 := Lib.hid (HF4.out.trans hF)
        have HS5 := Lib.hid hS
        clear ha hS hF HO4 HF4 hv
        go_wp2_with fail
        exact bodyPost_ret (v := .tuple #[.slice A1 L.length c1, .int .i64 v]) (by simp [results, Try.results47, go_sem]) rfl ⟨A1, c1, L, v, rfl, by omega, HL.out, HO5.out.lower hs1, HS5.out.more (by omega), HF5.out⟩
      have f0 : (q == 0) = false := by rw [beq_eq_false_iff_ne]; exact z0
      by_cases z1 : q = 1
      · subst z1
        have e1 : IntKind.i64.wrap (M + 1) = M + 1 := wrapS (by omega) (by omega)
        have ha := amongLit_any [-1, 0, M, M + 1] 4 #[.int .i64 (-1), .int .i64 0, .int .i64 M, .int .i64 (M + 1)] rfl rfl (by omega) (by omega) g A c cs _ w4 HS4.out (by omega)
        clear HS4
        go_wp2_with fail
        refine ha.mono ?_
        rintro e w5 ⟨v, rfl, hv, hS, hF⟩
        have hs5 := hF.size
        have HO5 := Lib.hid (hF.own HO4.out (fun e => by have := (hnn g e).1; omega))
        have HF5 := Lib.hid (HF4.out.trans hF)
        have HS5 := Lib.hid hS
        have hv2 : v ≤ 101 := by
          simp at hv
          omega
        clear ha hS hF HO4 HF4 hv
        go_wp2_with (at_builtin; go_loud (refine wpL_app1 (L := LI) rowI rfl rfl _ _ rfl rfl HO5.out v _ rfl rfl (by simp) (by unfold maxLen; omega) (by omega) (by omega) ?_); intro A6 c6 w6 ho6 hg6)
        have hbz : Below w1.heap.size w5 w6 := Grew.below' hg6 (by omega) (fun b e => (hnn b e).1)
        have HS6 := Lib.hid ((HS5.out.belowB hbz hg1).more (show _ ≤ m + 60 by omega))
        have HF6 := Lib.hid (HF5.out.then_ hbz (by omega))
        have HO6 := Lib.hid ho6
        have HL6 : Hid (∀ x ∈ L ++ [v], x ≤ 101) := Lib.hid (fun x hx => by
          rcases List.mem_append.1 hx with h | h
          · exact HL.out x h
          · simp at h; omega)
        clear ho6 hg6 hbz e1
        go_wp2_with fail
        exact bodyPost_ret (v := .tuple #[.slice A6 (L ++ [v]).length c6, .int .i64 M]) (by simp [results, Try.results47, go_sem]) rfl ⟨A6, c6, L ++ [v], M, rfl, by simp; omega, HL6.out, HO6.out.lower hs1, HS6.out, HF6.out⟩
      have f1 : (q == 1) = false := by rw [beq_eq_false_iff_ne]; exact z1
      go_wp2_with fail
      exact bodyPost_ret (v := .tuple #[.slice A1 L.length c1, .int .i64 M]) (by simp [results, Try.results47, go_sem]) rfl ⟨A1, c1, L, M, rfl, by omega, HL.out, HO4.out.lower hs1, HS4.out.more (by omega), HF4.out⟩
set_option maxRecDepth 100000 in
set_option maxHeartbeats 6400000 in
theorem l21Only_any (A : Option Addr) (c : Nat) (cs : List Int) (w : World) (hr : Rd LU w w.heap.size A c cs) (hb : ∀ x ∈ cs, 0 ≤ x ∧ x ≤ 255) :
    Calls Try.prog 36 #[.slice A cs.length c] w (DrewT2 w) := by
  obtain ⟨g, hg⟩ : ∃ g, g = w.heap.size := ⟨_, rfl⟩
  have hc := from_at g A c cs w hg hr (Nat.le_refl _) hb
  have HG := Lib.hid hg
  clear hg hr
  go_enter Try.func36, Try.ntmps36
  go_wp2_with fail
  refine hc.mono ?_
  rintro e w1 ⟨rfl, hS, hb1⟩
  have hgw : w.heap.size ≤ g := by rw [HG.out]; exact Nat.le_refl _
  rw [HG.out] at hb1
  have HB1 := Lib.hid hb1
  have hc2 := l21Draw_any g A c cs 0 w1 hS (by omega)
  clear hc hS hb1
  go_wp2_with fail
  refine hc2.mono ?_
  rintro e w2 ⟨B, d, xs, v, rfl, hl, hx, ho, hS, hF⟩
  have HB := Lib.hid (HB1.out.trans (hF.below HB1.out.size hgw))
  have HO := Lib.hid ho.rd
  have HX := Lib.hid hx
  clear hc2 hS hF ho hx
  go_wp2_with fail
  exact bodyPost_ret (v := .tuple #[.slice B xs.length d, .int .i64 v]) (by simp [results, Try.results36, go_sem]) rfl ⟨B, d, xs, v, rfl, hl, HX.out, HO.out, HB.out⟩
set_option maxRecDepth 100000 in
set_option maxHeartbeats 6400000 in
theorem drawBestT_any (A : Option Addr) (c : Nat) (cs : List Int) (w : World) (hr : Rd LU w w.heap.size A c cs) (hb : ∀ x ∈ cs, 0 ≤ x ∧ x ≤ 255) :
    Calls Try.prog 6 #[.slice A cs.length c] w (DrewT2 w) := by
  have hc := l21Only_any A c cs w hr hb
  go_enter Try.func6, Try.ntmps6
  go_wp2_with fail
  refine hc.mono ?_
  rintro e w2 ⟨B, d, xs, v, rfl, hl, hx, ho, hbz⟩
  have HB := Lib.hid hbz
  have HO := Lib.hid ho
  have HX := Lib.hid hx
  clear hc ho hx hbz
  go_wp2_with fail
  exact bodyPost_ret (v := .tuple #[.slice B xs.length d, .int .i64 v]) (by simp [results, Try.results6, go_sem]) rfl ⟨B, d, xs, v, rfl, hl, HX.out, HO.out, HB.out⟩
set_option maxRecDepth 100000 in
set_option maxHeartbeats 6400000 in
theorem drawEven_any (A : Option Addr) (c : Nat) (cs : List Int) (w : World) (hr : Rd LU w w.heap.size A c cs) (hb : ∀ x ∈ cs, 0 ≤ x ∧ x ≤ 255) :
    Calls Try.prog 18 #[.slice A cs.length c] w (DrewT2 w) := by
  obtain ⟨g, hg⟩ : ∃ g, g = w.heap.size := ⟨_, rfl⟩
  have hc := from_at g A c cs w hg hr (Nat.le_refl _) hb
  have HG := Lib.hid hg
  clear hg hr
  go_enter Try.func18, Try.ntmps18
  go_wp2_with fail
  refine hc.mono ?_
  rintro e w1 ⟨rfl, hS, hb1⟩
  have hg1 := hS.g1
  have hgw : w.heap.size ≤ g := by rw [HG.out]; exact Nat.le_refl _
  rw [HG.out] at hb1
  have HB1 := Lib.hid hb1
  have hc2 := l21Draw_any g A c cs 0 w1 hS (by omega)
  clear hc hS hb1
  go_wp2_with fail
  refine hc2.mono ?_
  rintro e w2 ⟨B, d, xs, v, rfl, hl, hx, ho, hS, hF⟩
  have HF := Lib.hid hF
  have hnn := ho.blk_lt
  have HO := Lib.hid ho
  have HX := Lib.hid hx
  have hc3 := one_any 8 g A c cs _ _ hS (by omega) (by omega)
  clear hc2 hS hF ho hx
  go_wp2_with fail
  refine hc3.mono ?_
  rintro e w3 ⟨q, rfl, hS, hF⟩
  have HO3 := Lib.hid (hF.own HO.out (fun e => by have := (hnn g e).1; omega))
  have HF3 := Lib.hid (HF.out.trans hF)
  have HS3 := Lib.hid hS
  clear hc3 hS hF HO HF
  cases q
  · have hp := pick_any 4 g A c cs _ w3 HS3.out (by omega) (by omega)
    clear HS3
    go_wp2_with fail
    refine hp.mono ?_
    rintro e w4 ⟨u, rfl, u0, u1, hS, hF⟩
    have HB := Lib.hid (HB1.out.trans ((HF3.out.trans hF).below HB1.out.size hgw))
    have HO4 := Lib.hid (hF.own HO3.out (fun e => by have := (hnn g e).1; omega)).rd
    clear hp hS hF HO3 HF3
    go_wp2_with fail
    exact bodyPost_ret (v := .tuple #[.slice B xs.length d, .int .i64 (1 + u)]) (by simp [results, Try.results18, go_sem]) rfl ⟨B, d, xs, 1 + u, rfl, hl, HX.out, HO4.out, HB.out⟩
  · have ha := amongLit_any [-1, 0, 1, 10, 11] 5 #[.int .i64 (-1), .int .i64 0, .int .i64 1, .int .i64 10, .int .i64 11] rfl rfl (by omega) (by omega) g A c cs _ w3 HS3.out (by omega)
    clear HS3
    go_wp2_with fail
    refine ha.mono ?_
    rintro e w4 ⟨u, rfl, hv, hS, hF⟩
    have HB := Lib.hid (HB1.out.trans ((HF3.out.trans hF).below HB1.out.size hgw))
    have HO4 := Lib.hid (hF.own HO3.out (fun e => by have := (hnn g e).1; omega)).rd
    clear ha hS hF HO3 HF3
    go_wp2_with fail
    exact bodyPost_ret (v := .tuple #[.slice B xs.length d, .int .i64 u]) (by simp [results, Try.results18, go_sem]) rfl ⟨B, d, xs, u, rfl, hl, HX.out, HO4.out, HB.out⟩
end Go.Proofs.Ytcookepklcbfeaa
