/-
  Draws of hands and bricks.
-/
import Derived.Test.YtofcmljnckdknaaPayF
namespace Go.Proofs.Ytofcmljnckdknaa
open Go.ChangeShapes Go.WideShapes Go.RowKit

def DrewI (g : Nat) (A : Option Addr) (c : Nat) (cs : List Int) (m : Nat) (w : World) (e : Ending) (w' : World) : Prop :=
  ∃ v : Int, e = .returned (.int .i64 v) ∧ Sr w' g A c cs m ∧ Fs g w w'
set_option maxRecDepth 100000 in
set_option maxHeartbeats 1600000 in
theorem l11DrawMany_any (g : Nat) (A : Option Addr) (c : Nat) (cs : List Int) (m : Nat) (w : World) (h : Sr w g A c cs m) (hm : m ≤ 10000) :
    Calls Try.prog 71 #[.pointer (some ⟨g, 0, none⟩)] w (DrewI g A c cs (m + 10) w) := by
  have hg := h.g1
  have hc := one_any 10 g A c cs m w h (by omega) (by omega)
  clear h
  go_enter Try.func71, Try.ntmps71
  go_wp2_with fail
  refine hc.mono ?_
  rintro e w1 ⟨q, rfl, hS, hF⟩
  have HF1 := Lib.hid hF
  have HS1 := Lib.hid hS
  clear hc hF hS
  cases q
  · have hp := pick_any 200 g A c cs _ w1 HS1.out (by omega) (by omega)
    go_wp2_with fail
    refine hp.mono ?_
    rintro e w2 ⟨x, rfl, x0, x1, hS, hF⟩
    have HF2 := Lib.hid (HF1.out.trans hF)
    have hp2 := pick_any 60 g A c cs _ w2 hS (by omega) (by omega)
    clear hp hS hF HS1 HF1
    go_wp2_with fail
    refine hp2.mono ?_
    rintro e w3 ⟨y0, rfl, y1, y2, hS, hF⟩
    have HF3 := Lib.hid (HF2.out.trans hF)
    have HS3 := Lib.hid (hS.more (show m + 2 + 2 + 2 ≤ m + 10 by omega))
    obtain ⟨y, hy⟩ : ∃ y, y = 1 + y0 := ⟨_, rfl⟩
    have e1 : IntKind.i64.wrap (1 + y0) = y := by rw [hy]; exact wrapS (by omega) (by omega)
    have hq : x * y ≤ 200 * 61 := Int.mul_le_mul (by omega) (by omega) (by omega) (by omega)
    have hq0 := Int.mul_nonneg x0 (show 0 ≤ y by omega)
    obtain ⟨v, hv⟩ : ∃ v, v = x * y := ⟨_, rfl⟩
    have e2 : IntKind.i64.wrap (x * y) = v := by rw [hv]; exact wrapS (by omega) (by omega)
    clear hp2 hS hF hy hv hq hq0
    go_wp2_with fail
    go_ret
    exact ⟨v, rfl, HS3.out, HF3.out⟩
  · have ha := amongLit_any [-1, 0, 1, 1000000, 1000001, 9223372036854775807] 6 _ rfl rfl (by omega) (by omega) g A c cs _ w1 HS1.out (by omega)
    go_wp2_with fail
    refine ha.mono ?_
    rintro e w2 ⟨v, rfl, _, hS, hF⟩
    have HF2 := Lib.hid (HF1.out.trans hF)
    have HS2 := Lib.hid (hS.more (show m + 2 + 2 ≤ m + 10 by omega))
    clear ha hS hF HS1 HF1
    go_wp2_with fail
    go_ret
    exact ⟨v, rfl, HS2.out, HF2.out⟩
def DrewHI (w : World) (e : Ending) (w' : World) : Prop :=
  ∃ (B : Option Addr) (d : Nat) (xs : List HandD) (u v : Int), e = .returned (.tuple #[.slice B xs.length d, .int .i64 u, .int .i64 v]) ∧ xs.length ≤ 21 ∧ Own LHand 58 w' w.heap.size B d xs ∧ (∀ n ∈ xs, OkHand n) ∧ Below w.heap.size w w'
set_option maxRecDepth 100000 in
set_option maxHeartbeats 1600000 in
theorem drawDays_any (A : Option Addr) (c : Nat) (cs : List Int) (w : World) (hr : Rd LU w w.heap.size A c cs) (hb : ∀ x ∈ cs, 0 ≤ x ∧ x ≤ 255) :
    Calls Try.prog 31 #[.slice A cs.length c] w (DrewHI w) := by
  obtain ⟨g, hg⟩ : ∃ g, g = w.heap.size := ⟨_, rfl⟩
  have hc := from_at g A c cs w hg hr (Nat.le_refl _) hb
  have HG := Lib.hid hg
  clear hg hr
  go_enter Try.func31, Try.ntmps31
  go_wp2_with fail
  refine hc.mono ?_
  rintro e w1 ⟨rfl, hS, hb1⟩
  have hg1 := hS.g1
  have hgw : w.heap.size ≤ g := by rw [HG.out]; exact Nat.le_refl _
  have hs1 := hb1.size
  have hc2 := l23Bent_any g A c cs 0 w1 hS (by omega)
  rw [HG.out] at hb1
  have HB1 := Lib.hid hb1
  clear hc hS hb1
  go_wp2_with fail
  refine hc2.mono ?_
  rintro e w2 ⟨B, d, xs, rfl, hl, ho, hok, hS, hF⟩
  have hs2 := hF.size
  have HO := Lib.hid ho
  have HOK := Lib.hid hok
  have HF := Lib.hid hF
  have hc3 := l11DrawMany_any g A c cs _ w2 hS (by omega)
  clear hc2 ho hok hF hS
  go_wp2_with fail
  refine hc3.mono ?_
  rintro e w3 ⟨u, rfl, hS, hF⟩
  have hs3 := hF.size
  have HO3 := Lib.hid (hF.own HO.out (fun e => by have := (HO.out.blk_lt g e).1; omega))
  have HF3 := Lib.hid (HF.out.trans hF)
  have hc4 := one_any 8 g A c cs _ w3 hS (by omega) (by omega)
  clear hc3 hF HO HF hS
  go_wp2_with fail
  refine hc4.mono ?_
  rintro e w4 ⟨q, rfl, hS, hF⟩
  have hs4 := hF.size
  have HO4 := Lib.hid (hF.own HO3.out (fun e => by have := (HO3.out.blk_lt g e).1; omega))
  have HF4 := Lib.hid (HF3.out.trans hF)
  clear hc4 hF HO3 HF3
  cases q
  · have hp := pick_any 60 g A c cs _ w4 hS (by omega) (by omega)
    clear hS
    go_wp2_with fail
    refine hp.mono ?_
    rintro e w5 ⟨x, rfl, x0, x1, hS, hF⟩
    have hs5 := hF.size
    have HO5 := Lib.hid (hF.own HO4.out (fun e => by have := (HO4.out.blk_lt g e).1; omega))
    have HF5 := Lib.hid (HF4.out.trans hF)
    have HB5 := Lib.hid (HB1.out.trans (HF5.out.below HB1.out.size hgw))
    obtain ⟨y, hy⟩ : ∃ y, y = 10 * x := ⟨_, rfl⟩
    have e1 : IntKind.i64.wrap (10 * x) = y := by rw [hy]; exact wrapS (by omega) (by omega)
    obtain ⟨v, hv⟩ : ∃ v, v = 100 + y := ⟨_, rfl⟩
    have e2 : IntKind.i64.wrap (100 + y) = v := by rw [hv]; exact wrapS (by omega) (by omega)
    clear hp hS hF HO4 HF4 hy hv
    go_wp2_with fail
    exact bodyPost_ret (v := .tuple #[.slice B xs.length d, .int .i64 u, .int .i64 v]) (by simp [results, Try.results31, go_sem]) rfl ⟨B, d, xs, u, v, rfl, hl, HO5.out.lower (by omega), HOK.out, HB5.out⟩
  · have ha := amongLit_any [-1, 0, 1, 2000, 2001] 5 _ rfl rfl (by omega) (by omega) g A c cs _ w4 hS (by omega)
    clear hS
    go_wp2_with fail
    refine ha.mono ?_
    rintro e w5 ⟨v, rfl, hv, hS, hF⟩
    have hs5 := hF.size
    have HO5 := Lib.hid (hF.own HO4.out (fun e => by have := (HO4.out.blk_lt g e).1; omega))
    have HF5 := Lib.hid (HF4.out.trans hF)
    have HB5 := Lib.hid (HB1.out.trans (HF5.out.below HB1.out.size hgw))
    clear ha hS hF HO4 HF4 hv
    go_wp2_with fail
    exact bodyPost_ret (v := .tuple #[.slice B xs.length d, .int .i64 u, .int .i64 v]) (by simp [results, Try.results31, go_sem]) rfl ⟨B, d, xs, u, v, rfl, hl, HO5.out.lower (by omega), HOK.out, HB5.out⟩
end Go.Proofs.Ytofcmljnckdknaa
