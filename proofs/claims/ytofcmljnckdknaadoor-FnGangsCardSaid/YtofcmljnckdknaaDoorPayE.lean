/-
  Draws of hands and work.
-/
import Derived.Test.YtofcmljnckdknaaDoorPayD
import Derived.Test.YtofcmljnckdknaaDoorFlatWork
namespace Go.Proofs.YtofcmljnckdknaaDoor
open Go.ChangeShapes Go.WideShapes Go.RowKit

def DrewSome (g : Nat) (A : Option Addr) (c : Nat) (cs : List Int) (m : Nat) (w : World) (e : Ending) (w' : World) : Prop :=
  ∃ (B B2 : Option Addr) (d d2 : Nat) (xs : List HandD) (ws : List WorkD), e = .returned (.tuple #[.slice B xs.length d, .slice B2 ws.length d2]) ∧ xs.length ≤ 21 ∧ ws.length ≤ 101 ∧ Own LHand 26 w' w.heap.size B d xs ∧ Own LWork 56 w' w.heap.size B2 d2 ws ∧ (∀ n ∈ xs, OkHand n) ∧ (∀ n ∈ ws, OkWork n) ∧ (∀ b, blk B = some b → blk B2 ≠ some b) ∧ Sr w' g A c cs m ∧ Fs g w w'
set_option maxRecDepth 100000 in
set_option maxHeartbeats 3200000 in
theorem l23Some_any (g : Nat) (A : Option Addr) (c : Nat) (cs : List Int) (m : Nat) (w : World) (h : Sr w g A c cs m) (hm : m ≤ 10000) :
    Calls Tryd.prog 49 #[.pointer (some ⟨g, 0, none⟩)] w (DrewSome g A c cs (m + 1000) w) := by
  have hg := h.g1
  have hc := l23Bent_any g A c cs m w h (by omega)
  clear h
  go_enter Tryd.func49, Tryd.ntmps49
  go_wp2_with fail
  refine hc.mono ?_
  rintro e w1 ⟨B, d, xs, rfl, hl, ho, hok, hS, hF⟩
  have hs1 := hF.size
  have hb1 : Below w.heap.size w1 (w1.alloc (.cells #[] 56)) := (Below.refl _ w1).alloc (by omega) _
  have hc2 := pick_any 10 g A c cs _ _ (hS.belowB hb1 hg) (by omega) (by omega)
  have hW0 : Own LWork 56 (w1.alloc (.cells #[] 56)) w.heap.size (some ⟨w1.heap.size, 0, none⟩) 0 ([] : List WorkD) := Own.lit0 _ (by omega) (by simp)
  have HO1 := Lib.hid (ho.alloc (.cells #[] 56))
  have hbl := ho.blk_lt
  have HOK := Lib.hid hok
  have HF1 := Lib.hid (hF.then_ hb1 (Nat.le_refl _))
  clear hc hS ho hok hF hb1
  go_wp2_with fail
  refine hc2.mono ?_
  rintro e w2 ⟨x, rfl, x0, x1, hS, hF⟩
  have hs2 := hF.size
  simp at hs2
  obtain ⟨K, rfl⟩ : ∃ K : Nat, x = (K : Int) := ⟨x.toNat, by omega⟩
  have hK1 : K ≤ 9 := by omega
  have HO2 := Lib.hid (hF.own HO1.out (fun e => by have := (hbl g e).1; omega))
  have HW2 := Lib.hid (hF.own hW0 (by intro e; injection e with e; dsimp only at e; omega))
  have HF2 := Lib.hid (HF1.out.trans hF)
  have HS2 := Lib.hid hS
  have HN2 : Hid (∀ b, blk B = some b → blk (some (⟨w1.heap.size, 0, none⟩ : Addr)) ≠ some b) := Lib.hid (fun b hb e => by have := (hbl b hb).2; injection e with e; dsimp only at e; omega)
  clear hc2 hS hF HO1 HF1 hW0
  go_wp2_with fail
  go_loopw [5, 7] (fun o i wr => ∃ (L : List WorkD) (A1 : Option Addr) (c1 : Nat), L.length ≤ K ∧ i = .int .i64 ((K : Int) - L.length) ∧ o = .slice A1 L.length c1 ∧ Hid (∀ n ∈ L, OkWork n) ∧ Hid (Own LHand 26 wr w.heap.size B d xs) ∧ Hid (Own LWork 56 wr w.heap.size A1 c1 L) ∧ Hid (∀ b, blk B = some b → blk A1 ≠ some b) ∧ Hid (Sr wr g A c cs (m + 300 + 20 * L.length)) ∧ Hid (Fs g w wr)) (fun _ i _ => (intOf i).toNat)
  case atStart => exact ⟨[], _, _, by simp, by go_num, rfl, Lib.hid (fun n hn => by cases hn), HO2, HW2, HN2, Lib.hid (HS2.out.more (by simp)), HF2⟩
  case round =>
    obtain ⟨L, A1, c1, hj, rfl, rfl, HOKW, HO, HW, HN, HS, HF⟩ := hrel
    clear HO2 HW2 HN2 HS2 HF2
    have hfs := HF.out.size
    by_cases hlt : L.length < K ∧ 0 < xs.length
    · obtain ⟨hlt, hx0⟩ := hlt
      have hki : (0 : Int) < (K : Int) - L.length := by omega
      have hxi : (0 : Int) < xs.length := by omega
      have hp1 := pick_any (xs.length : Int) g A c cs _ wr HS.out (by omega) (by omega)
      go_wp2_with fail
      refine hp1.mono ?_
      rintro e w3 ⟨x, rfl, x0, x1, hS, hF⟩
      obtain ⟨hd, rfl⟩ : ∃ hd : Nat, x = (hd : Int) := ⟨x.toNat, by omega⟩
      have hhd : hd < xs.length := by omega
      have hhi : (hd : Int) < xs.length := by omega
      have hs3 := hF.size
      have HF3 := Lib.hid (HF.out.trans hF)
      have HO3 := Lib.hid (hF.own HO.out (fun e => by have := (HO.out.blk_lt g e).1; omega))
      have HW3 := Lib.hid (hF.own HW.out (fun e => by have := (HW.out.blk_lt g e).1; omega))
      have hp2 := pick_any 5 g A c cs _ w3 hS (by omega) (by omega)
      clear hp1 hS hF HF HO HW HS
      go_wp2_with fail
      refine hp2.mono ?_
      rintro e w4 ⟨dy, rfl, dy0, dy1, hS, hF⟩
      have hs4 := hF.size
      have HF4 := Lib.hid (HF3.out.trans hF)
      have HO4 := Lib.hid (hF.own HO3.out (fun e => by have := (HO3.out.blk_lt g e).1; omega))
      have HW4 := Lib.hid (hF.own HW3.out (fun e => by have := (HW3.out.blk_lt g e).1; omega))
      have hbB : Below w.heap.size w4 (w4.alloc (.cells #[.int .i64 hd, .int .i64 dy, .int .i64 0, .int .i64 0] 56)) := (Below.refl _ _).alloc (by omega) _
      have hp3 := pick_any 11 g A c cs _ _ (hS.belowB hbB hg) (by omega) (by omega)
      clear hp2 hS hF HF3 HO3 HW3
      go_wp2_with fail
      refine hp3.mono ?_
      rintro e w5 ⟨hh, rfl, hh0, hh1, hS, hF⟩
      have hs5 := hF.size
      simp at hs5
      have hb8 : Below w4.heap.size w4 (w4.alloc (.cells #[.int .i64 hd, .int .i64 dy, .int .i64 0, .int .i64 0] 56)) := (Below.refl _ _).alloc (Nat.le_refl _) _
      have k0 : w5.cell? ⟨w4.heap.size, 0, none⟩ = some (.int .i64 hd) := by rw [hF.cell _ (by simp) (by simp; omega)]; go_simp
      have k1 : w5.cell? ⟨w4.heap.size, 1, none⟩ = some (.int .i64 dy) := by rw [hF.cell _ (by simp) (by simp; omega)]; go_simp
      have k2 : w5.cell? ⟨w4.heap.size, 2, none⟩ = some (.int .i64 0) := by rw [hF.cell _ (by simp) (by simp; omega)]; go_simp
      have k3 : w5.cell? ⟨w4.heap.size, 3, none⟩ = some (.int .i64 0) := by rw [hF.cell _ (by simp) (by simp; omega)]; go_simp
      have kf : ∀ j, w5.frozen? ⟨w4.heap.size, j, none⟩ = false := fun j => by rw [hF.frozen _ (by simp) (by simp; omega)]; go_simp
      have hOb := HO4.out.blk_lt
      have hWb := HW4.out.blk_lt
      have HO5a := hF.own (HO4.out.alloc (.cells #[.int .i64 hd, .int .i64 dy, .int .i64 0, .int .i64 0] 56)) (fun e => by have := (hOb g e).1; omega)
      have HW5a := hF.own (HW4.out.alloc (.cells #[.int .i64 hd, .int .i64 dy, .int .i64 0, .int .i64 0] 56)) (fun e => by have := (hWb g e).1; omega)
      have hb5 : Below w4.heap.size w5 (w5.setCell ⟨w4.heap.size, 3, none⟩ (.int .i64 hh)) := (Below.refl _ _).setCell (p := ⟨w4.heap.size, 3, none⟩) (Nat.le_refl _) _
      have HO5 := Lib.hid (Own.keepBlk (w' := w5.setCell ⟨w4.heap.size, 3, none⟩ (.int .i64 hh)) HO5a fun b hb => hb5.block b (hOb b hb).2)
      have HW5 := Lib.hid (Own.keepBlk (w' := w5.setCell ⟨w4.heap.size, 3, none⟩ (.int .i64 hh)) HW5a fun b hb => hb5.block b (hWb b hb).2)
      have HS5 := Lib.hid (hS.belowB hb5 (by omega))
      have HF5 := Lib.hid (((HF4.out.then_ hbB (Nat.le_refl _)).trans hF).then_ hb5 (by omega))
      obtain ⟨bB, hBe, hbb0, hbb1⟩ := HO4.out.ptr (by omega)
      obtain ⟨gg, hgg, _, _, hcl, _⟩ := HO5a.field hhd
      rw [hBe] at hgg
      injection hgg with hgg
      have hgg2 : bB = gg := by injection hgg
      subst hgg2
      have hlay : w5.cell? ⟨bB, hd * 3 + 2, none⟩ = some (.bool xs[hd].2.2) := hcl 2 _ rfl
      have hneB : bB ≠ w4.heap.size := by omega
      have hneB2 : w4.heap.size ≠ bB := by omega
      have hl5 : w4.heap.size < w5.heap.size := by omega
      have hl6 : bB < w5.heap.size := by omega
      have hhB : hh ≤ 10 := by omega
      have hdB : dy ≤ 4 := by omega
      generalize xs[hd].2.2 = lays at *
      subst hBe
      clear hp3 hS hF HF4 HO4 HW4 hbB hb8 hcl HO5a HW5a hb5
      cases lays
      · have hfr := kf 3
        have hnn := HW5.out.blk_lt
        go_wp2_with (at_builtin; go_loud (refine wpL_app1 (L := LWork) rowWork rfl rfl _ _ rfl rfl HW5.out ((hd : Int), dy, 0, hh) _ rfl rfl (by simp) (by unfold maxLen; omega) (by omega) (by simp; omega) ?_); intro A6 c6 w8 ho6 hg6)
        have hbw : Below w.heap.size _ w8 := hg6.below' (by simp; omega) (fun b e => by have := (hnn b e).1; omega)
        have HS8 := Lib.hid (HS5.out.belowB hbw hg)
        have HF8 := Lib.hid (HF5.out.then_ hbw (Nat.le_refl _))
        have HO8 := Lib.hid (hg6.own HO5.out (fun b hb e => HN.out b hb e)).1
        have HN8 := Lib.hid (hg6.own HO5.out (fun b hb e => HN.out b hb e)).2
        have HW8 := Lib.hid ho6
        have HOK8 : Hid (∀ n ∈ L ++ [((hd : Int), dy, 0, hh)], OkWork n) := Lib.hid (fun n hn => by
          rcases List.mem_append.1 hn with h | h
          · exact HOKW.out n h
          · simp at h; rw [h]; refine ⟨?_, ?_, ?_, ?_⟩ <;> (unfold I64; dsimp only; omega))
        clear ho6 hg6 hbw
        go_roundw
        case rel => exact ⟨L ++ [((hd : Int), dy, 0, hh)], A6, c6, by simp; omega, by go_num, by simp, HOK8, HO8, HW8, HN8, Lib.hid (HS8.out.more (by simp; omega)), HF8⟩
        case measure => simp [intOf]; omega
      · by_cases hh2 : 0 < hh
        · have hp4 := pick_any 90 g A c cs _ _ HS5.out (by omega) (by omega)
          go_wp2_with fail
          refine hp4.mono ?_
          rintro e w6 ⟨x, rfl, x0, x1, hS, hF⟩
          have hs6 := hF.size
          simp at hs6
          obtain ⟨ld, hld⟩ : ∃ ld, ld = 10 * x := ⟨_, rfl⟩
          have e1 : IntKind.i64.wrap (10 * x) = ld := by rw [hld]; exact wrapS (by omega) (by omega)
          have hld0 : 0 ≤ ld := by omega
          have hld1 : ld ≤ 900 := by omega
          have m0 : w6.cell? ⟨w4.heap.size, 0, none⟩ = some (.int .i64 hd) := by rw [hF.cell _ (by simp; omega) (by simp; omega), cell_setS _ (by omega)]; exact k0
          have m1 : w6.cell? ⟨w4.heap.size, 1, none⟩ = some (.int .i64 dy) := by rw [hF.cell _ (by simp; omega) (by simp; omega), cell_setS _ (by omega)]; exact k1
          have m2 : w6.cell? ⟨w4.heap.size, 2, none⟩ = some (.int .i64 0) := by rw [hF.cell _ (by simp; omega) (by simp; omega), cell_setS _ (by omega)]; exact k2
          have m3 : w6.cell? ⟨w4.heap.size, 3, none⟩ = some (.int .i64 hh) := by rw [hF.cell _ (by simp; omega) (by simp; omega)]; exact World.cell?_setCell_same' _ _ _ (by rw [k3]; rfl)
          have mf : ∀ j, w6.frozen? ⟨w4.heap.size, j, none⟩ = false := fun j => by rw [hF.frozen _ (by simp; omega) (by simp; omega)]; simpa using kf j
          have hb6 : Below w4.heap.size w6 (w6.setCell ⟨w4.heap.size, 2, none⟩ (.int .i64 ld)) := (Below.refl _ _).setCell (p := ⟨w4.heap.size, 2, none⟩) (Nat.le_refl _) _
          have hO6a := hF.own HO5.out (fun e => by have := (hOb g e).1; omega)
          have hW6a := hF.own HW5.out (fun e => by have := (hWb g e).1; omega)
          have HO6 := Lib.hid (Own.keepBlk (w' := w6.setCell ⟨w4.heap.size, 2, none⟩ (.int .i64 ld)) hO6a fun b hb => hb6.block b (hOb b hb).2)
          have HW6 := Lib.hid (Own.keepBlk (w' := w6.setCell ⟨w4.heap.size, 2, none⟩ (.int .i64 ld)) hW6a fun b hb => hb6.block b (hWb b hb).2)
          have HS6 := Lib.hid (hS.belowB hb6 (by omega))
          have HF6 := Lib.hid ((HF5.out.trans hF).then_ hb6 (by omega))
          have hl7 : w4.heap.size < w6.heap.size := by omega
          clear hp4 hS hF HO5 HW5 HF5 HS5 hO6a hW6a hb6 hld x1 x0 k0 k1 k2 k3 kf hlay
          have hnn := HW6.out.blk_lt
          go_wp2_with (at_builtin; go_loud (refine wpL_app1 (L := LWork) rowWork rfl rfl _ _ rfl rfl HW6.out ((hd : Int), dy, ld, hh) _ rfl rfl (by simp) (by unfold maxLen; omega) (by omega) (by simp; omega) ?_); intro A6 c6 w8 ho6 hg6)
          have hbw : Below w.heap.size _ w8 := hg6.below' (by simp; omega) (fun b e => by have := (hnn b e).1; omega)
          have HS8 := Lib.hid (HS6.out.belowB hbw hg)
          have HF8 := Lib.hid (HF6.out.then_ hbw (Nat.le_refl _))
          have HO8 := Lib.hid (hg6.own HO6.out (fun b hb e => HN.out b hb e)).1
          have HN8 := Lib.hid (hg6.own HO6.out (fun b hb e => HN.out b hb e)).2
          have HW8 := Lib.hid ho6
          have HOK8 : Hid (∀ n ∈ L ++ [((hd : Int), dy, ld, hh)], OkWork n) := Lib.hid (fun n hn => by
            rcases List.mem_append.1 hn with h | h
            · exact HOKW.out n h
            · simp at h; rw [h]; refine ⟨?_, ?_, ?_, ?_⟩ <;> (unfold I64; dsimp only; omega))
          clear ho6 hg6 hbw
          go_roundw
          case rel => exact ⟨L ++ [((hd : Int), dy, ld, hh)], A6, c6, by simp; omega, by go_num, by simp, HOK8, HO8, HW8, HN8, Lib.hid (HS8.out.more (by simp; omega)), HF8⟩
          case measure => simp [intOf]; omega
        · have hh3 : hh ≤ 0 := by omega
          have hnn := HW5.out.blk_lt
          go_wp2_with (at_builtin; go_loud (refine wpL_app1 (L := LWork) rowWork rfl rfl _ _ rfl rfl HW5.out ((hd : Int), dy, 0, hh) _ rfl rfl (by simp) (by unfold maxLen; omega) (by omega) (by simp; omega) ?_); intro A6 c6 w8 ho6 hg6)
          have hbw : Below w.heap.size _ w8 := hg6.below' (by simp; omega) (fun b e => by have := (hnn b e).1; omega)
          have HS8 := Lib.hid (HS5.out.belowB hbw hg)
          have HF8 := Lib.hid (HF5.out.then_ hbw (Nat.le_refl _))
          have HO8 := Lib.hid (hg6.own HO5.out (fun b hb e => HN.out b hb e)).1
          have HN8 := Lib.hid (hg6.own HO5.out (fun b hb e => HN.out b hb e)).2
          have HW8 := Lib.hid ho6
          have HOK8 : Hid (∀ n ∈ L ++ [((hd : Int), dy, 0, hh)], OkWork n) := Lib.hid (fun n hn => by
            rcases List.mem_append.1 hn with h | h
            · exact HOKW.out n h
            · simp at h; rw [h]; refine ⟨?_, ?_, ?_, ?_⟩ <;> (unfold I64; dsimp only; omega))
          clear ho6 hg6 hbw
          go_roundw
          case rel => exact ⟨L ++ [((hd : Int), dy, 0, hh)], A6, c6, by simp; omega, by go_num, by simp, HOK8, HO8, HW8, HN8, Lib.hid (HS8.out.more (by simp; omega)), HF8⟩
          case measure => simp [intOf]; omega
    · have hex : ((K : Int) - L.length ≤ 0) ∨ ((0 : Int) < (K : Int) - L.length ∧ (xs.length : Int) ≤ 0) := by omega
      have hl9 : L.length ≤ 9 := by omega
      rcases hex with hk0 | ⟨hk0, hk1⟩
      all_goals
        by_cases hzl : 0 < L.length
        rotate_left
        · have hzn : (L.length : Int) ≤ 0 := by omega
          go_wp2_with fail
          exact bodyPost_ret (v := .tuple #[.slice B xs.length d, .slice A1 L.length c1]) (by simp [results, Tryd.results49, go_sem]) rfl ⟨B, A1, d, c1, xs, L, rfl, hl, by omega, HO.out, HW.out, HOK.out, HOKW.out, HN.out, HS.out.more (by omega), HF.out⟩
        · have HOKZ := Lib.hid HOKW.out
          have hzi : (0 : Int) < L.length := by omega
          obtain ⟨bW, hbe, hbW0, hbW1⟩ := HW.out.ptr (by omega)
          subst hbe
          have HNZ := Lib.hid HN.out
          have hp5 := pick_any (L.length : Int) g A c cs _ wr HS.out (by omega) (by omega)
          have hxm : xs.length ≤ 1000 := by omega
          go_wp2_with fail
          refine hp5.mono ?_
          rintro e w5 ⟨x, rfl, x0, x1, hS, hF⟩
          obtain ⟨k, rfl⟩ : ∃ k : Nat, x = (k : Int) := ⟨x.toNat, by omega⟩
          have hk : k < L.length := by omega
          have hki : (k : Int) < L.length := by omega
          have hs5 := hF.size
          have HO5 := Lib.hid (hF.own HO.out (fun e => by have := (HO.out.blk_lt g e).1; omega))
          have HW5 := Lib.hid (hF.own HW.out (by intro e; injection e with e; dsimp only at e; omega))
          have HF5 := Lib.hid (HF.out.trans hF)
          have hp6 := pick_any 24 g A c cs _ w5 hS (by omega) (by omega)
          clear hp5 hS hF HO HW HF HS HN HOKW
          go_wp2_with fail
          refine hp6.mono ?_
          rintro e w6 ⟨q, rfl, q0, q1, hS, hF⟩
          have hs6 := hF.size
          have HO6 := Lib.hid (hF.own HO5.out (fun e => by have := (HO5.out.blk_lt g e).1; omega))
          have HW6 := Lib.hid (hF.own HW5.out (by intro e; injection e with e; dsimp only at e; omega))
          have HF6 := Lib.hid (HF5.out.trans hF)
          have HS6 := Lib.hid hS
          clear hp6 hS hF HO5 HW5 HF5
          by_cases z0 : q = 0
          · subst z0
            have ha := amongLit_any [-1, (xs.length : Int)] 2 _ rfl rfl (by omega) (by omega) g A c cs _ w6 HS6.out (by omega)
            go_wp2_with fail
            refine ha.mono ?_
            rintro e w7 ⟨v, rfl, hv, hS, hF⟩
            have hs7 := hF.size
            have HO7 := Lib.hid (hF.own HO6.out (fun e => by have := (HO6.out.blk_lt g e).1; omega))
            have HW7 := Lib.hid (hF.own HW6.out (by intro e; injection e with e; dsimp only at e; omega))
            have HF7 := Lib.hid (HF6.out.trans hF)
            have HS7 := Lib.hid hS
            obtain ⟨gg, hgg, _, hgl, hcl, hfz⟩ := HW7.out.field hk
            cases hgg
            have qc : w7.cell? ⟨bW, k * 4, none⟩ = some (.int .i64 L[k].1) := hcl 0 _ rfl
            have HV : Hid (I64 v) := Lib.hid (by
              simp only [List.mem_cons, List.not_mem_nil, or_false] at hv
              unfold I64
              omega)
            clear ha hS hF hcl hv HO6 HW6 HF6 HS6
            have HOK7 : Hid (∀ n ∈ L.set k (v, L[k].2.1, L[k].2.2.1, L[k].2.2.2), OkWork n) := Lib.hid (fun n hn => by
              rcases List.mem_or_eq_of_mem_set hn with h | h
              · exact HOKZ.out n h
              · rw [h]; have h4 := HOKZ.out _ (List.getElem_mem hk); exact ⟨HV.out, h4.2⟩)
            have HW8 := Lib.hid (HW7.out.setField hk 0 (by decide) (.int .i64 v) (v, L[k].2.1, L[k].2.2.1, L[k].2.2.2) rfl)
            have hBl : Below w.heap.size w7 (w7.setCell ⟨bW, k * 4, none⟩ (.int .i64 v)) := (Below.refl _ w7).setCell (p := ⟨bW, k * 4, none⟩) (by dsimp only; omega) _
            have HB := Lib.hid hBl
            have HO8 := Lib.hid (HO7.out.keepBlk (w' := w7.setCell ⟨bW, k * 4, none⟩ (.int .i64 v)) fun b hb => Below.heap_setCell w7 ⟨bW, k * 4, none⟩ _ b (fun e => HNZ.out b hb (by rw [e]; rfl)))
            clear hBl HO7 HW7 HOKZ
            go_wp2_with fail
            exact bodyPost_ret (v := .tuple #[.slice B xs.length d, .slice (some ⟨bW, 0, none⟩) L.length c1]) (by simp [results, Tryd.results49, go_sem]) rfl ⟨B, _, d, c1, xs, L.set k (v, L[k].2.1, L[k].2.2.1, L[k].2.2.2), by simp, hl, by simp; omega, HO8.out, HW8.out, HOK.out, HOK7.out, HNZ.out, (HS7.out.belowB HB.out hg).more (by omega), HF7.out.then_ HB.out (Nat.le_refl _)⟩
          by_cases z1 : q = 1
          · subst z1
            have ha := amongLit_any [-1, 0, 10000, 10001] 4 _ rfl rfl (by omega) (by omega) g A c cs _ w6 HS6.out (by omega)
            go_wp2_with fail
            refine ha.mono ?_
            rintro e w7 ⟨v, rfl, hv, hS, hF⟩
            have hs7 := hF.size
            have HO7 := Lib.hid (hF.own HO6.out (fun e => by have := (HO6.out.blk_lt g e).1; omega))
            have HW7 := Lib.hid (hF.own HW6.out (by intro e; injection e with e; dsimp only at e; omega))
            have HF7 := Lib.hid (HF6.out.trans hF)
            have HS7 := Lib.hid hS
            obtain ⟨gg, hgg, _, hgl, hcl, hfz⟩ := HW7.out.field hk
            cases hgg
            have qc : w7.cell? ⟨bW, k * 4 + 1, none⟩ = some (.int .i64 L[k].2.1) := hcl 1 _ rfl
            have HV : Hid (I64 v) := Lib.hid (by
              simp only [List.mem_cons, List.not_mem_nil, or_false] at hv
              unfold I64
              omega)
            clear ha hS hF hcl hv HO6 HW6 HF6 HS6
            have HOK7 : Hid (∀ n ∈ L.set k (L[k].1, v, L[k].2.2.1, L[k].2.2.2), OkWork n) := Lib.hid (fun n hn => by
              rcases List.mem_or_eq_of_mem_set hn with h | h
              · exact HOKZ.out n h
              · rw [h]; have h4 := HOKZ.out _ (List.getElem_mem hk); exact ⟨h4.1, HV.out, h4.2.2⟩)
            have HW8 := Lib.hid (HW7.out.setField hk 1 (by decide) (.int .i64 v) (L[k].1, v, L[k].2.2.1, L[k].2.2.2) rfl)
            have hBl : Below w.heap.size w7 (w7.setCell ⟨bW, k * 4 + 1, none⟩ (.int .i64 v)) := (Below.refl _ w7).setCell (p := ⟨bW, k * 4 + 1, none⟩) (by dsimp only; omega) _
            have HB := Lib.hid hBl
            have HO8 := Lib.hid (HO7.out.keepBlk (w' := w7.setCell ⟨bW, k * 4 + 1, none⟩ (.int .i64 v)) fun b hb => Below.heap_setCell w7 ⟨bW, k * 4 + 1, none⟩ _ b (fun e => HNZ.out b hb (by rw [e]; rfl)))
            clear hBl HO7 HW7 HOKZ
            go_wp2_with fail
            exact bodyPost_ret (v := .tuple #[.slice B xs.length d, .slice (some ⟨bW, 0, none⟩) L.length c1]) (by simp [results, Tryd.results49, go_sem]) rfl ⟨B, _, d, c1, xs, L.set k (L[k].1, v, L[k].2.2.1, L[k].2.2.2), by simp, hl, by simp; omega, HO8.out, HW8.out, HOK.out, HOK7.out, HNZ.out, (HS7.out.belowB HB.out hg).more (by omega), HF7.out.then_ HB.out (Nat.le_refl _)⟩
          by_cases z2 : q = 2
          · subst z2
            have ha := amongLit_any [-1, 0, 100000, 100001] 4 _ rfl rfl (by omega) (by omega) g A c cs _ w6 HS6.out (by omega)
            go_wp2_with fail
            refine ha.mono ?_
            rintro e w7 ⟨v, rfl, hv, hS, hF⟩
            have hs7 := hF.size
            have HO7 := Lib.hid (hF.own HO6.out (fun e => by have := (HO6.out.blk_lt g e).1; omega))
            have HW7 := Lib.hid (hF.own HW6.out (by intro e; injection e with e; dsimp only at e; omega))
            have HF7 := Lib.hid (HF6.out.trans hF)
            have HS7 := Lib.hid hS
            obtain ⟨gg, hgg, _, hgl, hcl, hfz⟩ := HW7.out.field hk
            cases hgg
            have qc : w7.cell? ⟨bW, k * 4 + 2, none⟩ = some (.int .i64 L[k].2.2.1) := hcl 2 _ rfl
            have HV : Hid (I64 v) := Lib.hid (by
              simp only [List.mem_cons, List.not_mem_nil, or_false] at hv
              unfold I64
              omega)
            clear ha hS hF hcl hv HO6 HW6 HF6 HS6
            have HOK7 : Hid (∀ n ∈ L.set k (L[k].1, L[k].2.1, v, L[k].2.2.2), OkWork n) := Lib.hid (fun n hn => by
              rcases List.mem_or_eq_of_mem_set hn with h | h
              · exact HOKZ.out n h
              · rw [h]; have h4 := HOKZ.out _ (List.getElem_mem hk); exact ⟨h4.1, h4.2.1, HV.out, h4.2.2.2⟩)
            have HW8 := Lib.hid (HW7.out.setField hk 2 (by decide) (.int .i64 v) (L[k].1, L[k].2.1, v, L[k].2.2.2) rfl)
            have hBl : Below w.heap.size w7 (w7.setCell ⟨bW, k * 4 + 2, none⟩ (.int .i64 v)) := (Below.refl _ w7).setCell (p := ⟨bW, k * 4 + 2, none⟩) (by dsimp only; omega) _
            have HB := Lib.hid hBl
            have HO8 := Lib.hid (HO7.out.keepBlk (w' := w7.setCell ⟨bW, k * 4 + 2, none⟩ (.int .i64 v)) fun b hb => Below.heap_setCell w7 ⟨bW, k * 4 + 2, none⟩ _ b (fun e => HNZ.out b hb (by rw [e]; rfl)))
            clear hBl HO7 HW7 HOKZ
            go_wp2_with fail
            exact bodyPost_ret (v := .tuple #[.slice B xs.length d, .slice (some ⟨bW, 0, none⟩) L.length c1]) (by simp [results, Tryd.results49, go_sem]) rfl ⟨B, _, d, c1, xs, L.set k (L[k].1, L[k].2.1, v, L[k].2.2.2), by simp, hl, by simp; omega, HO8.out, HW8.out, HOK.out, HOK7.out, HNZ.out, (HS7.out.belowB HB.out hg).more (by omega), HF7.out.then_ HB.out (Nat.le_refl _)⟩
          by_cases z3 : q = 3
          · subst z3
            have ha := amongLit_any [-1, 0, 16, 17] 4 _ rfl rfl (by omega) (by omega) g A c cs _ w6 HS6.out (by omega)
            go_wp2_with fail
            refine ha.mono ?_
            rintro e w7 ⟨v, rfl, hv, hS, hF⟩
            have hs7 := hF.size
            have HO7 := Lib.hid (hF.own HO6.out (fun e => by have := (HO6.out.blk_lt g e).1; omega))
            have HW7 := Lib.hid (hF.own HW6.out (by intro e; injection e with e; dsimp only at e; omega))
            have HF7 := Lib.hid (HF6.out.trans hF)
            have HS7 := Lib.hid hS
            obtain ⟨gg, hgg, _, hgl, hcl, hfz⟩ := HW7.out.field hk
            cases hgg
            have qc : w7.cell? ⟨bW, k * 4 + 3, none⟩ = some (.int .i64 L[k].2.2.2) := hcl 3 _ rfl
            have HV : Hid (I64 v) := Lib.hid (by
              simp only [List.mem_cons, List.not_mem_nil, or_false] at hv
              unfold I64
              omega)
            clear ha hS hF hcl hv HO6 HW6 HF6 HS6
            have HOK7 : Hid (∀ n ∈ L.set k (L[k].1, L[k].2.1, L[k].2.2.1, v), OkWork n) := Lib.hid (fun n hn => by
              rcases List.mem_or_eq_of_mem_set hn with h | h
              · exact HOKZ.out n h
              · rw [h]; have h4 := HOKZ.out _ (List.getElem_mem hk); exact ⟨h4.1, h4.2.1, h4.2.2.1, HV.out⟩)
            have HW8 := Lib.hid (HW7.out.setField hk 3 (by decide) (.int .i64 v) (L[k].1, L[k].2.1, L[k].2.2.1, v) rfl)
            have hBl : Below w.heap.size w7 (w7.setCell ⟨bW, k * 4 + 3, none⟩ (.int .i64 v)) := (Below.refl _ w7).setCell (p := ⟨bW, k * 4 + 3, none⟩) (by dsimp only; omega) _
            have HB := Lib.hid hBl
            have HO8 := Lib.hid (HO7.out.keepBlk (w' := w7.setCell ⟨bW, k * 4 + 3, none⟩ (.int .i64 v)) fun b hb => Below.heap_setCell w7 ⟨bW, k * 4 + 3, none⟩ _ b (fun e => HNZ.out b hb (by rw [e]; rfl)))
            clear hBl HO7 HW7 HOKZ
            go_wp2_with fail
            exact bodyPost_ret (v := .tuple #[.slice B xs.length d, .slice (some ⟨bW, 0, none⟩) L.length c1]) (by simp [results, Tryd.results49, go_sem]) rfl ⟨B, _, d, c1, xs, L.set k (L[k].1, L[k].2.1, L[k].2.2.1, v), by simp, hl, by simp; omega, HO8.out, HW8.out, HOK.out, HOK7.out, HNZ.out, (HS7.out.belowB HB.out hg).more (by omega), HF7.out.then_ HB.out (Nat.le_refl _)⟩
          have f0 : (q == 0) = false := by rw [beq_eq_false_iff_ne]; exact z0
          have f1 : (q == 1) = false := by rw [beq_eq_false_iff_ne]; exact z1
          have f2 : (q == 2) = false := by rw [beq_eq_false_iff_ne]; exact z2
          have f3 : (q == 3) = false := by rw [beq_eq_false_iff_ne]; exact z3
          by_cases z4 : q = 4
          · subst z4
            have hp7 := pick_any 2 g A c cs _ w6 HS6.out (by omega) (by omega)
            go_wp2_with fail
            refine hp7.mono ?_
            rintro e w7 ⟨x, rfl, x0, x1, hS, hF⟩
            have hs7 := hF.size
            obtain ⟨N, hN⟩ : ∃ N : Nat, (N : Int) = 100 + x := ⟨(100 + x).toNat, by omega⟩
            have e1 : IntKind.i64.wrap (100 + x) = (N : Int) := by rw [hN]; exact wrapS (by omega) (by omega)
            have hN1 : N ≤ 101 := by omega
            have HO7 := Lib.hid (hF.own HO6.out (fun e => by have := (HO6.out.blk_lt g e).1; omega))
            have HF7 := Lib.hid (HF6.out.trans hF)
            have HS7 := Lib.hid hS
            have HE1 := Lib.hid e1
            clear hp7 hS hF HO6 HF6 HS6 HW6 hN
            go_wp2_with (at_make; refine wpL_make (L := LWork) rowWork rfl _ _ rfl .i64 .i64 _ _ N rfl rfl rfl rfl (by omega) (by unfold maxLen; omega) (0, 0, 0, 0) rfl ?_; intro w8 hown hb8)
            have HW8 := Lib.hid (hown.lower (show w.heap.size ≤ w7.heap.size by omega))
            have HO8 := Lib.hid (HO7.out.below hb8)
            have HN8 : Hid (∀ b, blk B = some b → blk (some (⟨w7.heap.size, 0, none⟩ : Addr)) ≠ some b) := Lib.hid (fun b hb e => by have := (HO7.out.blk_lt b hb).2; injection e with e; dsimp only at e; omega)
            have HS8 := Lib.hid (HS7.out.below hb8)
            have HF8 := Lib.hid (HF7.out.then_ hb8 (by omega))
            have hOKR : ∀ n ∈ List.replicate N ((0, 0, 0, 0) : WorkD), OkWork n := fun n hn => by
              rw [List.eq_of_mem_replicate hn]
              refine ⟨?_, ?_, ?_, ?_⟩ <;> (unfold I64; dsimp only; omega)
            have HOKR := Lib.hid hOKR
            clear hown hb8 hOKR
            go_wp2_with fail
            exact bodyPost_ret (v := .tuple #[.slice B xs.length d, .slice (some ⟨w7.heap.size, 0, none⟩) N N]) (by simp [results, Tryd.results49, go_sem]) rfl ⟨B, _, d, N, xs, List.replicate N (0, 0, 0, 0), by simp, hl, by simp; omega, HO8.out, HW8.out, HOK.out, HOKR.out, HN8.out, HS8.out.more (by omega), HF8.out⟩
          · have f4 : (q == 4) = false := by rw [beq_eq_false_iff_ne]; exact z4
            go_wp2_with fail
            exact bodyPost_ret (v := .tuple #[.slice B xs.length d, .slice (some ⟨bW, 0, none⟩) L.length c1]) (by simp [results, Tryd.results49, go_sem]) rfl ⟨B, _, d, c1, xs, L, rfl, hl, by omega, HO6.out, HW6.out, HOK.out, HOKZ.out, HNZ.out, HS6.out.more (by omega), HF6.out⟩
end Go.Proofs.YtofcmljnckdknaaDoor
