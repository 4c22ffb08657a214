/-
  Draws of a length and sizes of bays.
-/
import Derived.Test.YtamhkiakplmlmaaSrc3
import Derived.Test.YtamhkiakplmlmaaSteps
import Derived.Test.YtamhkiakplmlmaaNum
import Derived.Deep.CutRange
import Derived.Deep.CutBlock
import Derived.Deep.RegionHeld3
namespace Go.Proofs.Ytamhkiakplmlmaa
open Go.ChangeShapes Go.WideShapes Go.RowKit

def DrewIS (w : World) (e : Ending) (w' : World) : Prop :=
  ∃ (v : Int) (B : Option Addr) (d : Nat) (xs : List Int), e = .returned (.tuple #[.int .i64 v, .slice B xs.length d]) ∧ xs.length ≤ 10 ∧ Rd LI w' w'.heap.size B d xs ∧ Below w.heap.size w w'
theorem growB {w w' : World} {A A' : Option Addr} {B : Nat} (h : Grew w w' A A') (hB : B ≤ w.heap.size) (hA : ∀ b, blk A = some b → B ≤ b) : Below B w w' := Grew.below (Below.refl B w) h hB hA
theorem Fs.rd {g : Nat} {w w' : World} {B c : Nat} {A : Option Addr} {xs : List Int} (hF : Fs g w w') (h : Rd LI w B A c xs) (hB : B ≤ w.heap.size) (hn : ∀ b, blk A = some b → b ≠ g) : Rd LI w' B A c xs :=
  ⟨h.le, h.cap, fun i hi => by
    obtain ⟨ad, e, hb, hc⟩ := h.at_ i hi
    refine ⟨ad, e, hb, fun j u hu => ?_⟩
    rw [← hc j u hu]
    refine hF.cell _ (by rw [block_of_add]; omega) ?_
    rw [block_of_add]
    exact hn ad.block (by rw [e]; rfl)⟩
set_option maxRecDepth 100000 in
set_option maxHeartbeats 6400000 in
theorem drawBays_any (A : Option Addr) (c : Nat) (cs : List Int) (w : World) (hr : Rd LU w w.heap.size A c cs) (hb : ∀ x ∈ cs, 0 ≤ x ∧ x ≤ 255) :
    Calls Try.prog 5 #[.slice A cs.length c] w (DrewIS w) := by
  obtain ⟨g, hg⟩ : ∃ g, g = w.heap.size := ⟨_, rfl⟩
  have hc := from_at g A c cs w hg hr (Nat.le_refl _) hb
  have HG := Lib.hid hg
  clear hg hr
  go_enter Try.func5, Try.ntmps5
  go_wp2_with fail
  refine hc.mono ?_
  rintro e w1 ⟨rfl, hS, hb1⟩
  have hg1 := hS.g1
  have hgw : w.heap.size ≤ g := by rw [HG.out]; exact Nat.le_refl _
  have hs1 := hb1.size
  rw [HG.out] at hb1
  have HB1 := Lib.hid hb1
  have hbl : Below w1.heap.size w1 (w1.alloc (.cells #[] 2)) := (Below.refl _ w1).alloc (Nat.le_refl _) _
  have hO0 := Own.lit0 (L := LI) (T := 2) (base := w1.heap.size) (g := w1.heap.size) w1 (Nat.le_refl _) rfl
  have hc2 := pick_any 4 g A c cs _ _ (hS.belowB hbl hg1) (by omega) (by omega)
  clear hc hS hb1 HG
  go_wp2_with fail
  refine hc2.mono ?_
  rintro e w2 ⟨x, rfl, x0, x1, hS, hF⟩
  obtain ⟨K, hK⟩ : ∃ K : Nat, (K : Int) = 1 + x := ⟨(1 + x).toNat, by omega⟩
  have hK4 : K ≤ 4 ∧ 1 ≤ K := by omega
  have HO := Lib.hid (hF.own hO0 (fun e => by have := (hO0.blk_lt g e).1; omega))
  have HF := Lib.hid ((Fs.of_below (g := g) hbl).trans hF)
  have HS := Lib.hid (hS.more (show 0 + 2 ≤ 2 + 2 * 0 by omega))
  clear hc2 hS hF hO0 hbl
  go_wp2_with fail
  rw [← hK]
  clear hK x0 x1
  go_loopw [5, 6, 7] (fun o a i wr => ∃ (L : List Int) (A1 : Option Addr) (c1 : Nat) (at_ : Int), L.length ≤ K ∧ i = .int .i64 ((K : Int) - L.length) ∧ o = .slice A1 L.length c1 ∧ a = .int .i64 at_ ∧ 450 ≤ at_ ∧ at_ ≤ 450 + 600 * L.length ∧ Hid (Own LI 2 wr w1.heap.size A1 c1 L) ∧ Hid (Sr wr g A c cs (2 + 2 * L.length)) ∧ Hid (Fs g w1 wr)) (fun _ _ i _ => (intOf i).toNat)
  case atStart => exact ⟨[], _, _, 450, by simp, by go_num, rfl, rfl, by omega, by simp, HO, HS, HF⟩
  case round =>
    clear HO HS HF
    obtain ⟨L, A1, c1, at_, hj, rfl, rfl, rfl, a0, a1, HO, HS, HF⟩ := hrel
    have hfs := HF.out.size
    by_cases hlt : L.length < K
    · have hki : (0 : Int) < (K : Int) - L.length := by omega
      have hp := pick_any 12 g A c cs _ wr HS.out (by omega) (by omega)
      clear HS
      go_wp2_with fail
      refine hp.mono ?_
      rintro e w3 ⟨v, rfl, v0, v1, hS, hF⟩
      obtain ⟨z, hz⟩ : ∃ z, z = at_ + 50 * (1 + v) := ⟨_, rfl⟩
      have z0 : 450 ≤ z ∧ z ≤ 450 + 600 * (L.length + 1) := by omega
      have e1 : IntKind.i64.wrap (1 + v) = 1 + v := wrapS (by omega) (by omega)
      have e2 : IntKind.i64.wrap (50 * (1 + v)) = 50 * (1 + v) := wrapS (by omega) (by omega)
      have e3 : IntKind.i64.wrap (at_ + 50 * (1 + v)) = z := by rw [hz]; exact wrapS (by omega) (by omega)
      have hs3 := hF.size
      have hnn := HO.out.blk_lt
      have HO3 := Lib.hid (hF.own HO.out (fun e => by have := (hnn g e).1; omega))
      have HF3 := Lib.hid (HF.out.trans hF)
      have HS3 := Lib.hid hS
      clear hp hS hF HO HF hz
      go_wp2_with (at_builtin; go_loud (refine wpL_app1 (L := LI) rowI rfl rfl _ _ rfl rfl HO3.out z _ rfl rfl (by simp) (by unfold maxLen; omega) (by omega) (by omega) ?_); intro A6 c6 w6 ho6 hg6)
      have hbz : Below w1.heap.size w3 w6 := growB hg6 (by omega) (fun b e => (hnn b e).1)
      have HS6 := Lib.hid ((HS3.out.belowB hbz hg1).more (show 2 + 2 * L.length + 2 ≤ 2 + 2 * (L ++ [z]).length by simp; omega))
      have HF6 := Lib.hid (HF3.out.then_ hbz (Nat.le_refl _))
      have HO6 := Lib.hid ho6
      clear ho6 hg6 hbz e1 e2 e3
      go_roundw
      case rel => exact ⟨L ++ [z], A6, c6, z, by simp; omega, by go_num, by simp, rfl, z0.1, by simp; omega, HO6, HS6, HF6⟩
      case measure => simp [intOf]; omega
    · have hki : (K : Int) - L.length ≤ 0 := by omega
      have hl4 : L.length ≤ 4 := by omega
      obtain ⟨wq, rfl⟩ : ∃ q, q = wr := ⟨_, rfl⟩
      have hp := pick_any 16 g A c cs _ wq HS.out (by omega) (by omega)
      clear HS
      go_wp2_with fail
      refine hp.mono ?_
      rintro e w3 ⟨q, rfl, q0, q1, hS, hF⟩
      have hs3 := hF.size
      have hnn := HO.out.blk_lt
      have HO3 := Lib.hid (hF.own HO.out (fun e => by have := (hnn g e).1; omega))
      have HF3 := Lib.hid (HF.out.trans hF)
      have HS3 := Lib.hid (hS.more (show _ ≤ 20 by omega))
      clear hp hS hF HO HF
      go_upto_block 2 with fail
      go_cut [5] from 28 to 48 (fun s wx => ∃ (A1 : Option Addr) (c1 : Nat) (L : List Int), s = .slice A1 L.length c1 ∧ L.length ≤ 10 ∧ Rd LI wx wx.heap.size A1 c1 L ∧ (∀ b, blk A1 = some b → w1.heap.size ≤ b) ∧ Sr wx g A c cs 30 ∧ Fs g w1 wx)
      case first =>
        by_cases z0 : q = 0
        · subst z0
          have ha := amongLit_any [499, at_, 3000, 3001] 4 #[.int .i64 499, .int .i64 at_, .int .i64 3000, .int .i64 3001] rfl rfl (by omega) (by omega) g A c cs _ w3 HS3.out (by omega)
          clear HS3
          go_wp2_with fail
          refine ha.mono ?_
          rintro e w4 ⟨v, rfl, hv, hS, hF⟩
          have hs4 := hF.size
          have HO4 := Lib.hid (hF.own HO3.out (fun e => by have := (hnn g e).1; omega))
          have HF4 := Lib.hid (HF3.out.trans hF)
          have HS4 := Lib.hid hS
          clear ha hS hF HO3 HF3 hv
          go_wp2_with (at_builtin; go_loud (refine wpL_app1 (L := LI) rowI rfl rfl _ _ rfl rfl HO4.out v _ rfl rfl (by simp) (by unfold maxLen; omega) (by omega) (by omega) ?_); intro A6 c6 w6 ho6 hg6)
          have hbz : Below w1.heap.size w4 w6 := growB hg6 (by omega) (fun b e => (hnn b e).1)
          have HS6 := Lib.hid ((HS4.out.belowB hbz hg1).more (show _ ≤ 30 by omega))
          have HF6 := Lib.hid (HF4.out.then_ hbz (Nat.le_refl _))
          have HO6 := Lib.hid ho6
          clear ho6 hg6 hbz
          go_meet
          case rel => exact ⟨A6, c6, L ++ [v], by simp, by simp; omega, HO6.out.rd, fun b e => (HO6.out.blk_lt b e).1, HS6.out, HF6.out⟩
        · have f0 : (q == 0) = false := by rw [beq_eq_false_iff_ne]; exact z0
          by_cases z1 : q = 1
          · subst z1
            have hbz : Below w3.heap.size w3 (w3.alloc (.cells #[] 2)) := (Below.refl _ w3).alloc (Nat.le_refl _) _
            have HO6 := Lib.hid (Own.lit0 (L := LI) (T := 2) (base := w1.heap.size) (g := w3.heap.size) w3 (by omega) rfl)
            have HS6 := Lib.hid ((HS3.out.below hbz).more (show _ ≤ 30 by omega))
            have HF6 := Lib.hid (HF3.out.then_ hbz (by omega))
            clear hbz HS3 HF3 HO3
            go_wp2_with fail
            go_meet
            case rel => exact ⟨_, 0, [], rfl, by simp, HO6.out.rd, fun b e => (HO6.out.blk_lt b e).1, HS6.out, HF6.out⟩
          by_cases z2 : q = 2
          · subst z2
            have hbz : Below w3.heap.size w3 (w3.alloc (.cells #[.int .i64 500, .int .i64 600, .int .i64 700, .int .i64 800, .int .i64 900, .int .i64 1000] 2)) := (Below.refl _ w3).alloc (Nat.le_refl _) _
            have HO6 := Lib.hid (Own.lit (L := LI) (T := 2) (base := w1.heap.size) (g := w3.heap.size) w3 (by omega) rfl [500, 600, 700, 800, 900, 1000] #[.int .i64 500, .int .i64 600, .int .i64 700, .int .i64 800, .int .i64 900, .int .i64 1000] 6 rfl (by unfold maxLen; omega) rfl)
            have HF6 := Lib.hid (HF3.out.then_ hbz (by omega))
            have ho := one_any 2 g A c cs _ _ (HS3.out.below hbz) (by omega) (by omega)
            clear hbz HS3 HF3 HO3
            go_wp2_with fail
            refine ho.mono ?_
            rintro e w7 ⟨o, rfl, hS, hF⟩
            have HO7 := Lib.hid (hF.own HO6.out (fun e => by have := (HO6.out.blk_lt g e).1; omega))
            have HF7 := Lib.hid (HF6.out.trans hF)
            have HS7 := Lib.hid (hS.more (show _ ≤ 30 by omega))
            clear ho hS hF HO6 HF6
            cases o
            · go_wp2_with fail
              go_meet
              case rel => exact ⟨_, 6, [500, 600, 700, 800, 900, 1000], rfl, by simp, HO7.out.rd, fun b e => (HO7.out.blk_lt b e).1, HS7.out, HF7.out⟩
            · go_wp2_with fail
              go_meet
              case rel => exact ⟨_, 6, [500, 600, 700, 800, 900], rfl, by simp, (HO7.out.take 5).rd, fun b e => (HO7.out.blk_lt b e).1, HS7.out, HF7.out⟩
          have f1 : (q == 1) = false := by rw [beq_eq_false_iff_ne]; exact z1
          have f2 : (q == 2) = false := by rw [beq_eq_false_iff_ne]; exact z2
          go_wp2_with fail
          go_meet
          case rel => exact ⟨A1, c1, L, rfl, by omega, HO3.out.rd, fun b e => (hnn b e).1, HS3.out.more (by omega), HF3.out⟩
      case rest =>
      clear HO3 HS3 HF3 hnn
      obtain ⟨A2, c2, L2, rfl, hl2, hR, hnb, hS, hF⟩ := hcut
      have HR := Lib.hid hR
      have HF := Lib.hid hF
      have hc3 := one_any 8 g A c cs _ wc hS (by omega) (by omega)
      clear hR hS hF
      go_wp2_with fail
      refine hc3.mono ?_
      rintro e w8 ⟨o, rfl, hS, hF⟩
      have HR2 := Lib.hid ((hF.rd HR.out (Nat.le_refl _) (fun b e => by have := hnb b e; omega)).more hF.size)
      have HF2 := Lib.hid (HF.out.trans hF)
      have HS2 := Lib.hid hS
      clear hc3 hS hF HR HF
      cases o
      · have hp := pick_any 1500 g A c cs _ w8 HS2.out (by omega) (by omega)
        clear HS2
        go_wp2_with fail
        refine hp.mono ?_
        rintro e w9 ⟨v, rfl, v0, v1, hS, hF⟩
        obtain ⟨z, hz⟩ : ∃ z, z = 500 + 10 * v := ⟨_, rfl⟩
        have e1 : IntKind.i64.wrap (10 * v) = 10 * v := wrapS (by omega) (by omega)
        have e2 : IntKind.i64.wrap (500 + 10 * v) = z := by rw [hz]; exact wrapS (by omega) (by omega)
        have HR3 := Lib.hid ((hF.rd HR2.out (Nat.le_refl _) (fun b e => by have := hnb b e; omega)).more hF.size)
        have HBz := Lib.hid (HB1.out.trans ((HF2.out.trans hF).below HB1.out.size hgw))
        clear hp hS hF hz
        go_wp2_with fail
        exact bodyPost_ret (v := .tuple #[.int .i64 z, .slice A2 L2.length c2]) (by simp [results, Try.results5, go_sem, e2]) rfl ⟨z, A2, c2, L2, rfl, hl2, HR3.out, HBz.out⟩
      · have ha := amongLit_any [499, 500, 20000, 20001, -9223372036854775808] 5 _ rfl rfl (by omega) (by omega) g A c cs _ w8 HS2.out (by omega)
        clear HS2
        go_wp2_with fail
        refine ha.mono ?_
        rintro e w9 ⟨v, rfl, hv, hS, hF⟩
        have HR3 := Lib.hid ((hF.rd HR2.out (Nat.le_refl _) (fun b e => by have := hnb b e; omega)).more hF.size)
        have HBz := Lib.hid (HB1.out.trans ((HF2.out.trans hF).below HB1.out.size hgw))
        clear ha hS hF hv
        go_wp2_with fail
        exact bodyPost_ret (v := .tuple #[.int .i64 v, .slice A2 L2.length c2]) (by simp [results, Try.results5, go_sem]) rfl ⟨v, A2, c2, L2, rfl, hl2, HR3.out, HBz.out⟩
end Go.Proofs.Ytamhkiakplmlmaa
