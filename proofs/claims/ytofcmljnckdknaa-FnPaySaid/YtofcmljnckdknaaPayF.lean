/-
  Draws of hands, work and pay; of hands and bricks.
-/
import Derived.Test.YtofcmljnckdknaaPayE
namespace Go.Proofs.Ytofcmljnckdknaa
open Go.ChangeShapes Go.WideShapes Go.RowKit

theorem from_at (g : Nat) (A : Option Addr) (c : Nat) (cs : List Int) (w : World) (hg : g = w.heap.size) {B : Nat} (hr : Rd LU w B A c cs) (hB : B ≤ w.heap.size) (hb : ∀ x ∈ cs, 0 ≤ x ∧ x ≤ 255) :
    Calls Try.prog 62 #[.slice A cs.length c] w fun e w' => e = .returned (.pointer (some ⟨g, 0, none⟩)) ∧ Sr w' g A c cs 0 ∧ Below g w w' := by
  subst hg
  exact l00From_any A c cs w (hr.more hB) hb
def DrewHW (w : World) (e : Ending) (w' : World) : Prop :=
  ∃ (B B2 : Option Addr) (d d2 : Nat) (xs : List HandD) (ws : List WorkD) (v : Int), e = .returned (.tuple #[.slice B xs.length d, .slice B2 ws.length d2, .int .i64 v]) ∧ xs.length ≤ 21 ∧ ws.length ≤ 101 ∧ Own LHand 58 w' w.heap.size B d xs ∧ Own LWork 68 w' w.heap.size B2 d2 ws ∧ (∀ n ∈ xs, OkHand n) ∧ (∀ n ∈ ws, OkWork n) ∧ Below w.heap.size w w'
set_option maxRecDepth 100000 in
set_option maxHeartbeats 1600000 in
theorem drawDivide_any (A : Option Addr) (c : Nat) (cs : List Int) (w : World) (hr : Rd LU w w.heap.size A c cs) (hb : ∀ x ∈ cs, 0 ≤ x ∧ x ≤ 255) :
    Calls Try.prog 26 #[.slice A cs.length c] w (DrewHW w) := by
  obtain ⟨g, hg⟩ : ∃ g, g = w.heap.size := ⟨_, rfl⟩
  have hc := from_at g A c cs w hg hr (Nat.le_refl _) hb
  have HG := Lib.hid hg
  clear hg hr
  go_enter Try.func26, Try.ntmps26
  go_wp2_with fail
  refine hc.mono ?_
  rintro e w1 ⟨rfl, hS, hb1⟩
  have hg1 := hS.g1
  have hgw : w.heap.size ≤ g := by rw [HG.out]; exact Nat.le_refl _
  have hs1 := hb1.size
  have hc2 := l23Some_any g A c cs 0 w1 hS (by omega)
  rw [HG.out] at hb1
  have HB1 := Lib.hid hb1
  clear hc hS hb1
  go_wp2_with fail
  refine hc2.mono ?_
  rintro e w2 ⟨B, B2, d, d2, xs, ws, rfl, hl, hl2, ho, ho2, hok, hok2, _, hS, hF⟩
  have hs2 := hF.size
  have HO := Lib.hid ho
  have HO2 := Lib.hid ho2
  have HOK := Lib.hid hok
  have HOK2 := Lib.hid hok2
  have HF := Lib.hid hF
  have hc3 := one_any 8 g A c cs _ w2 hS (by omega) (by omega)
  clear hc2 ho ho2 hok hok2 hF hS
  go_wp2_with fail
  refine hc3.mono ?_
  rintro e w3 ⟨q, rfl, hS, hF⟩
  have hs3 := hF.size
  have HO3 := Lib.hid (hF.own HO.out (fun e => by have := (HO.out.blk_lt g e).1; omega))
  have HW3 := Lib.hid (hF.own HO2.out (fun e => by have := (HO2.out.blk_lt g e).1; omega))
  have HF3 := Lib.hid (HF.out.trans hF)
  clear hc3 hF HO HO2 HF
  cases q
  · have hp4 := pick_any 200 g A c cs _ w3 hS (by omega) (by omega)
    clear hS
    go_wp2_with fail
    refine hp4.mono ?_
    rintro e w4 ⟨x4, rfl, a4, b4, hS, hF⟩
    have hs4 := hF.size
    have HO4 := Lib.hid (hF.own HO3.out (fun e => by have := (HO3.out.blk_lt g e).1; omega))
    have HW4 := Lib.hid (hF.own HW3.out (fun e => by have := (HW3.out.blk_lt g e).1; omega))
    have HF4 := Lib.hid (HF3.out.trans hF)
    clear hp4 hF HO3 HW3 HF3
    have hp5 := pick_any 50 g A c cs _ w4 hS (by omega) (by omega)
    clear hS
    go_wp2_with fail
    refine hp5.mono ?_
    rintro e w5 ⟨x5, rfl, a5, b5, hS, hF⟩
    have hs5 := hF.size
    have HO5 := Lib.hid (hF.own HO4.out (fun e => by have := (HO4.out.blk_lt g e).1; omega))
    have HW5 := Lib.hid (hF.own HW4.out (fun e => by have := (HW4.out.blk_lt g e).1; omega))
    have HF5 := Lib.hid (HF4.out.trans hF)
    clear hp5 hF HO4 HW4 HF4
    obtain ⟨y, hy⟩ : ∃ y, y = 1 + x5 := ⟨_, rfl⟩
    have e1 : IntKind.i64.wrap (1 + x5) = y := by rw [hy]; exact wrapS (by omega) (by omega)
    have hp : x4 * y ≤ 200 * 60 := Int.mul_le_mul (by omega) (by omega) (by omega) (by omega)
    have hp0 := Int.mul_nonneg a4 (show 0 ≤ y by omega)
    obtain ⟨v, hv⟩ : ∃ v, v = x4 * y := ⟨_, rfl⟩
    have e2 : IntKind.i64.wrap (x4 * y) = v := by rw [hv]; exact wrapS (by omega) (by omega)
    clear hy hv hp hp0
    have HBz := Lib.hid (HB1.out.trans (HF5.out.below HB1.out.size hgw))
    clear hS
    go_wp2_with fail
    exact bodyPost_ret (v := .tuple #[.slice B xs.length d, .slice B2 ws.length d2, .int .i64 v]) (by simp [results, Try.results26, go_sem]) rfl ⟨B, B2, d, d2, xs, ws, v, rfl, hl, hl2, HO5.out.lower (by omega), HW5.out.lower (by omega), HOK.out, HOK2.out, HBz.out⟩
  · have ha := amongLit_any [-1, 0, 1000000000, 1000000001] 4 _ rfl rfl (by omega) (by omega) g A c cs _ w3 hS (by omega)
    clear hS
    go_wp2_with fail
    refine ha.mono ?_
    rintro e w4 ⟨v, rfl, hv, hS, hF⟩
    have hs4 := hF.size
    have HO4 := Lib.hid (hF.own HO3.out (fun e => by have := (HO3.out.blk_lt g e).1; omega))
    have HW4 := Lib.hid (hF.own HW3.out (fun e => by have := (HW3.out.blk_lt g e).1; omega))
    have HF4 := Lib.hid (HF3.out.trans hF)
    have HB4 := Lib.hid (HB1.out.trans (HF4.out.below HB1.out.size hgw))
    clear ha hS hF HO3 HW3 HF3
    go_wp2_with fail
    exact bodyPost_ret (v := .tuple #[.slice B xs.length d, .slice B2 ws.length d2, .int .i64 v]) (by simp [results, Try.results26, go_sem]) rfl ⟨B, B2, d, d2, xs, ws, v, rfl, hl, hl2, HO4.out.lower (by omega), HW4.out.lower (by omega), HOK.out, HOK2.out, HB4.out⟩
set_option maxRecDepth 100000 in
set_option maxHeartbeats 1600000 in
theorem drawPayFor_any (A : Option Addr) (c : Nat) (cs : List Int) (w : World) (hr : Rd LU w w.heap.size A c cs) (hb : ∀ x ∈ cs, 0 ≤ x ∧ x ≤ 255) :
    Calls Try.prog 27 #[.slice A cs.length c] w (DrewHW w) := by
  obtain ⟨g, hg⟩ : ∃ g, g = w.heap.size := ⟨_, rfl⟩
  have hc := from_at g A c cs w hg hr (Nat.le_refl _) hb
  have HG := Lib.hid hg
  clear hg hr
  go_enter Try.func27, Try.ntmps27
  go_wp2_with fail
  refine hc.mono ?_
  rintro e w1 ⟨rfl, hS, hb1⟩
  have hg1 := hS.g1
  have hgw : w.heap.size ≤ g := by rw [HG.out]; exact Nat.le_refl _
  have hs1 := hb1.size
  have hc2 := l23Some_any g A c cs 0 w1 hS (by omega)
  rw [HG.out] at hb1
  have HB1 := Lib.hid hb1
  clear hc hS hb1
  go_wp2_with fail
  refine hc2.mono ?_
  rintro e w2 ⟨B, B2, d, d2, xs, ws, rfl, hl, hl2, ho, ho2, hok, hok2, _, hS, hF⟩
  have hs2 := hF.size
  have HO := Lib.hid ho
  have HO2 := Lib.hid ho2
  have HOK := Lib.hid hok
  have HOK2 := Lib.hid hok2
  have HF := Lib.hid hF
  have hc3 := one_any 8 g A c cs _ w2 hS (by omega) (by omega)
  clear hc2 ho ho2 hok hok2 hF hS
  go_wp2_with fail
  refine hc3.mono ?_
  rintro e w3 ⟨q, rfl, hS, hF⟩
  have hs3 := hF.size
  have HO3 := Lib.hid (hF.own HO.out (fun e => by have := (HO.out.blk_lt g e).1; omega))
  have HW3 := Lib.hid (hF.own HO2.out (fun e => by have := (HO2.out.blk_lt g e).1; omega))
  have HF3 := Lib.hid (HF.out.trans hF)
  clear hc3 hF HO HO2 HF
  cases q
  · have hp4 := pick_any 60 g A c cs _ w3 hS (by omega) (by omega)
    clear hS
    go_wp2_with fail
    refine hp4.mono ?_
    rintro e w4 ⟨x4, rfl, a4, b4, hS, hF⟩
    have hs4 := hF.size
    have HO4 := Lib.hid (hF.own HO3.out (fun e => by have := (HO3.out.blk_lt g e).1; omega))
    have HW4 := Lib.hid (hF.own HW3.out (fun e => by have := (HW3.out.blk_lt g e).1; omega))
    have HF4 := Lib.hid (HF3.out.trans hF)
    clear hp4 hF HO3 HW3 HF3
    obtain ⟨v, hv⟩ : ∃ v, v = 50 * x4 := ⟨_, rfl⟩
    have e2 : IntKind.i64.wrap (50 * x4) = v := by rw [hv]; exact wrapS (by omega) (by omega)
    clear hv
    have HBz := Lib.hid (HB1.out.trans (HF4.out.below HB1.out.size hgw))
    clear hS
    go_wp2_with fail
    exact bodyPost_ret (v := .tuple #[.slice B xs.length d, .slice B2 ws.length d2, .int .i64 v]) (by simp [results, Try.results27, go_sem]) rfl ⟨B, B2, d, d2, xs, ws, v, rfl, hl, hl2, HO4.out.lower (by omega), HW4.out.lower (by omega), HOK.out, HOK2.out, HBz.out⟩
  · have ha := amongLit_any [-1, 0, 10000, 10001] 4 _ rfl rfl (by omega) (by omega) g A c cs _ w3 hS (by omega)
    clear hS
    go_wp2_with fail
    refine ha.mono ?_
    rintro e w4 ⟨v, rfl, hv, hS, hF⟩
    have hs4 := hF.size
    have HO4 := Lib.hid (hF.own HO3.out (fun e => by have := (HO3.out.blk_lt g e).1; omega))
    have HW4 := Lib.hid (hF.own HW3.out (fun e => by have := (HW3.out.blk_lt g e).1; omega))
    have HF4 := Lib.hid (HF3.out.trans hF)
    have HB4 := Lib.hid (HB1.out.trans (HF4.out.below HB1.out.size hgw))
    clear ha hS hF HO3 HW3 HF3
    go_wp2_with fail
    exact bodyPost_ret (v := .tuple #[.slice B xs.length d, .slice B2 ws.length d2, .int .i64 v]) (by simp [results, Try.results27, go_sem]) rfl ⟨B, B2, d, d2, xs, ws, v, rfl, hl, hl2, HO4.out.lower (by omega), HW4.out.lower (by omega), HOK.out, HOK2.out, HB4.out⟩
end Go.Proofs.Ytofcmljnckdknaa
