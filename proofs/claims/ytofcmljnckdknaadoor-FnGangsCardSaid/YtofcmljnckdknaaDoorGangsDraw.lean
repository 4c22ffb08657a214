/-
  Draws of gangs with work, with one hand, with a number.
-/
import Derived.Test.YtofcmljnckdknaaDoorPayE
import Derived.Test.YtofcmljnckdknaaDoorSrc3
namespace Go.Proofs.YtofcmljnckdknaaDoor
open Go.ChangeShapes Go.WideShapes Go.RowKit

def DrewG2 (w : World) (e : Ending) (w' : World) : Prop :=
  ∃ (B B2 : Option Addr) (d d2 : Nat) (xs : List HandD) (ws : List WorkD), e = .returned (.tuple #[.slice B xs.length d, .slice B2 ws.length d2]) ∧ xs.length ≤ 21 ∧ ws.length ≤ 101 ∧ Own LHand 26 w' w.heap.size B d xs ∧ Own LWork 56 w' w.heap.size B2 d2 ws ∧ (∀ n ∈ xs, OkHand n) ∧ (∀ n ∈ ws, OkWork n) ∧ Below w.heap.size w w'
def DrewG3 (w : World) (e : Ending) (w' : World) : Prop :=
  ∃ (B B2 : Option Addr) (d d2 : Nat) (xs : List HandD) (ws : List WorkD) (v : Int), e = .returned (.tuple #[.slice B xs.length d, .slice B2 ws.length d2, .int .i64 v]) ∧ xs.length ≤ 21 ∧ ws.length ≤ 101 ∧ Own LHand 26 w' w.heap.size B d xs ∧ Own LWork 56 w' w.heap.size B2 d2 ws ∧ (∀ n ∈ xs, OkHand n) ∧ (∀ n ∈ ws, OkWork n) ∧ I64 v ∧ Below w.heap.size w w'
def DrewG1 (w : World) (e : Ending) (w' : World) : Prop :=
  ∃ (B : Option Addr) (d : Nat) (xs : List HandD) (v : Int), e = .returned (.tuple #[.slice B xs.length d, .int .i64 v]) ∧ xs.length ≤ 21 ∧ Own LHand 26 w' w.heap.size B d xs ∧ (∀ n ∈ xs, OkHand n) ∧ Below w.heap.size w w'
set_option maxRecDepth 100000 in
set_option maxHeartbeats 3200000 in
theorem l23Both_any (A : Option Addr) (c : Nat) (cs : List Int) (w : World) (hr : Rd LU w w.heap.size A c cs) (hb : ∀ x ∈ cs, 0 ≤ x ∧ x ≤ 255) :
    Calls Tryd.prog 43 #[.slice A cs.length c] w (DrewG2 w) := by
  obtain ⟨g, hg⟩ : ∃ g, g = w.heap.size := ⟨_, rfl⟩
  have hc := from_at g A c cs w hg hr (Nat.le_refl _) hb
  have HG := Lib.hid hg
  clear hg hr
  go_enter Tryd.func43, Tryd.ntmps43
  go_wp2_with fail
  refine hc.mono ?_
  rintro e w1 ⟨rfl, hS, hb1⟩
  have hgw : w.heap.size ≤ g := by rw [HG.out]; exact Nat.le_refl _
  rw [HG.out] at hb1
  have hs1 := hb1.size
  have HB1 := Lib.hid hb1
  have hc2 := l23Some_any g A c cs 0 w1 hS (by omega)
  clear hc hS hb1
  go_wp2_with fail
  refine hc2.mono ?_
  rintro e w2 ⟨B, B2, d, d2, xs, ws, rfl, hl, hl2, ho, ho2, hok, hok2, _, hS, hF⟩
  have HB := Lib.hid (HB1.out.trans (hF.below HB1.out.size hgw))
  have HO := Lib.hid (ho.lower hs1)
  have HO2 := Lib.hid (ho2.lower hs1)
  have HOK := Lib.hid hok
  have HOK2 := Lib.hid hok2
  clear hc2 hS hF ho ho2 hok hok2
  go_wp2_with fail
  exact bodyPost_ret (v := .tuple #[.slice B xs.length d, .slice B2 ws.length d2]) (by simp [results, Tryd.results43, go_sem]) rfl ⟨B, B2, d, d2, xs, ws, rfl, hl, hl2, HO.out, HO2.out, HOK.out, HOK2.out, HB.out⟩
set_option maxRecDepth 100000 in
theorem drawBest_any (A : Option Addr) (c : Nat) (cs : List Int) (w : World) (hr : Rd LU w w.heap.size A c cs) (hb : ∀ x ∈ cs, 0 ≤ x ∧ x ≤ 255) :
    Calls Tryd.prog 8 #[.slice A cs.length c] w (DrewG2 w) := by
  have hc := l23Both_any A c cs w hr hb
  go_enter Tryd.func8, Tryd.ntmps8
  go_wp2_with fail
  refine hc.mono ?_
  rintro e w2 ⟨B, B2, d, d2, xs, ws, rfl, hl, hl2, ho, ho2, hok, hok2, hbz⟩
  have HB := Lib.hid hbz
  have HO := Lib.hid ho
  have HO2 := Lib.hid ho2
  have HOK := Lib.hid hok
  have HOK2 := Lib.hid hok2
  clear hc ho ho2 hok hok2 hbz
  go_wp2_with fail
  exact bodyPost_ret (v := .tuple #[.slice B xs.length d, .slice B2 ws.length d2]) (by simp [results, Tryd.results8, go_sem]) rfl ⟨B, B2, d, d2, xs, ws, rfl, hl, hl2, HO.out, HO2.out, HOK.out, HOK2.out, HB.out⟩
set_option maxRecDepth 100000 in
set_option maxHeartbeats 3200000 in
theorem drawEach_any (A : Option Addr) (c : Nat) (cs : List Int) (w : World) (hr : Rd LU w w.heap.size A c cs) (hb : ∀ x ∈ cs, 0 ≤ x ∧ x ≤ 255) :
    Calls Tryd.prog 15 #[.slice A cs.length c] w (DrewG3 w) := by
  obtain ⟨g, hg⟩ : ∃ g, g = w.heap.size := ⟨_, rfl⟩
  have hc := from_at g A c cs w hg hr (Nat.le_refl _) hb
  have HG := Lib.hid hg
  clear hg hr
  go_enter Tryd.func15, Tryd.ntmps15
  go_wp2_with fail
  refine hc.mono ?_
  rintro e w1 ⟨rfl, hS, hb1⟩
  have hg1 := hS.g1
  have hgw : w.heap.size ≤ g := by rw [HG.out]; exact Nat.le_refl _
  rw [HG.out] at hb1
  have hs1 := hb1.size
  have HB1 := Lib.hid hb1
  have hc2 := l23Some_any g A c cs 0 w1 hS (by omega)
  clear hc hS hb1
  go_wp2_with fail
  refine hc2.mono ?_
  rintro e w2 ⟨B, B2, d, d2, xs, ws, rfl, hl, hl2, ho, ho2, hok, hok2, _, hS, hF⟩
  have HF := Lib.hid hF
  have HO := Lib.hid ho
  have HO2 := Lib.hid ho2
  have HOK := Lib.hid hok
  have HOK2 := Lib.hid hok2
  have hc3 := one_any 10 g A c cs _ w2 hS (by omega) (by omega)
  clear hc2 hS hF ho ho2 hok hok2
  go_wp2_with fail
  refine hc3.mono ?_
  rintro e w3 ⟨q, rfl, hS, hF⟩
  have HF3 := Lib.hid (HF.out.trans hF)
  have HO3 := Lib.hid (hF.own HO.out (fun e => by have := (HO.out.blk_lt g e).1; omega))
  have HP3 := Lib.hid (hF.own HO2.out (fun e => by have := (HO2.out.blk_lt g e).1; omega))
  have HS3 := Lib.hid hS
  clear hc3 hS hF HF HO HO2
  cases q
  · have hp := pick_any (xs.length : Int) g A c cs _ w3 HS3.out (by omega) (by omega)
    clear HS3
    go_wp2_with fail
    refine hp.mono ?_
    rintro e w4 ⟨v, rfl, v0, v1, hS, hF⟩
    have HB := Lib.hid (HB1.out.trans ((HF3.out.trans hF).below HB1.out.size hgw))
    have HO4 := Lib.hid ((hF.own HO3.out (fun e => by have := (HO3.out.blk_lt g e).1; omega)).lower hs1)
    have HP4 := Lib.hid ((hF.own HP3.out (fun e => by have := (HP3.out.blk_lt g e).1; omega)).lower hs1)
    have hv : I64 v := by unfold I64; omega
    clear hp hS hF HF3 HO3 HP3 v0 v1
    go_wp2_with fail
    exact bodyPost_ret (v := .tuple #[.slice B xs.length d, .slice B2 ws.length d2, .int .i64 v]) (by simp [results, Tryd.results15, go_sem]) rfl ⟨B, B2, d, d2, xs, ws, v, rfl, hl, hl2, HO4.out, HP4.out, HOK.out, HOK2.out, hv, HB.out⟩
  · have ha := amongLit_any [-1, (xs.length : Int), 9223372036854775807] 3 #[.int .i64 (-1), .int .i64 (xs.length : Int), .int .i64 9223372036854775807] rfl rfl (by omega) (by omega) g A c cs _ w3 HS3.out (by omega)
    clear HS3
    go_wp2_with fail
    refine ha.mono ?_
    rintro e w4 ⟨v, rfl, hv, hS, hF⟩
    have HB := Lib.hid (HB1.out.trans ((HF3.out.trans hF).below HB1.out.size hgw))
    have HO4 := Lib.hid ((hF.own HO3.out (fun e => by have := (HO3.out.blk_lt g e).1; omega)).lower hs1)
    have HP4 := Lib.hid ((hF.own HP3.out (fun e => by have := (HP3.out.blk_lt g e).1; omega)).lower hs1)
    have hv2 : I64 v := by
      unfold I64
      simp at hv
      omega
    clear ha hS hF HF3 HO3 HP3 hv
    go_wp2_with fail
    exact bodyPost_ret (v := .tuple #[.slice B xs.length d, .slice B2 ws.length d2, .int .i64 v]) (by simp [results, Tryd.results15, go_sem]) rfl ⟨B, B2, d, d2, xs, ws, v, rfl, hl, hl2, HO4.out, HP4.out, HOK.out, HOK2.out, hv2, HB.out⟩
set_option maxRecDepth 100000 in
set_option maxHeartbeats 3200000 in
theorem drawCarriers_any (A : Option Addr) (c : Nat) (cs : List Int) (w : World) (hr : Rd LU w w.heap.size A c cs) (hb : ∀ x ∈ cs, 0 ≤ x ∧ x ≤ 255) :
    Calls Tryd.prog 18 #[.slice A cs.length c] w (DrewG1 w) := by
  obtain ⟨g, hg⟩ : ∃ g, g = w.heap.size := ⟨_, rfl⟩
  have hc := from_at g A c cs w hg hr (Nat.le_refl _) hb
  have HG := Lib.hid hg
  clear hg hr
  go_enter Tryd.func18, Tryd.ntmps18
  go_wp2_with fail
  refine hc.mono ?_
  rintro e w1 ⟨rfl, hS, hb1⟩
  have hg1 := hS.g1
  have hgw : w.heap.size ≤ g := by rw [HG.out]; exact Nat.le_refl _
  rw [HG.out] at hb1
  have hs1 := hb1.size
  have HB1 := Lib.hid hb1
  have hc2 := l23Bent_any g A c cs 0 w1 hS (by omega)
  clear hc hS hb1
  go_wp2_with fail
  refine hc2.mono ?_
  rintro e w2 ⟨B, d, xs, rfl, hl, ho, hok, hS, hF⟩
  have HF := Lib.hid hF
  have HO := Lib.hid ho
  have HOK := Lib.hid hok
  have hc3 := one_any 8 g A c cs _ w2 hS (by omega) (by omega)
  clear hc2 hS hF ho hok
  go_wp2_with fail
  refine hc3.mono ?_
  rintro e w3 ⟨q, rfl, hS, hF⟩
  have HF3 := Lib.hid (HF.out.trans hF)
  have HO3 := Lib.hid (hF.own HO.out (fun e => by have := (HO.out.blk_lt g e).1; omega))
  have HS3 := Lib.hid hS
  clear hc3 hS hF HF HO
  cases q
  · have hp := pick_any 4 g A c cs _ w3 HS3.out (by omega) (by omega)
    clear HS3
    go_wp2_with fail
    refine hp.mono ?_
    rintro e w4 ⟨v0, rfl, v1, v2, hS, hF⟩
    obtain ⟨v, hv⟩ : ∃ v, v = 1 + v0 := ⟨_, rfl⟩
    have e1 : IntKind.i64.wrap (1 + v0) = v := by rw [hv]; exact wrapS (by omega) (by omega)
    have HB := Lib.hid (HB1.out.trans ((HF3.out.trans hF).below HB1.out.size hgw))
    have HO4 := Lib.hid ((hF.own HO3.out (fun e => by have := (HO3.out.blk_lt g e).1; omega)).lower hs1)
    clear hp hS hF HF3 HO3 v1 v2 hv
    go_wp2_with fail
    exact bodyPost_ret (v := .tuple #[.slice B xs.length d, .int .i64 v]) (by simp [results, Tryd.results18, go_sem]) rfl ⟨B, d, xs, v, rfl, hl, HO4.out, HOK.out, HB.out⟩
  · have ha := amongLit_any [-1, 0, 1, 10, 11] 5 _ rfl rfl (by omega) (by omega) g A c cs _ w3 HS3.out (by omega)
    clear HS3
    go_wp2_with fail
    refine ha.mono ?_
    rintro e w4 ⟨v, rfl, hv, hS, hF⟩
    have HB := Lib.hid (HB1.out.trans ((HF3.out.trans hF).below HB1.out.size hgw))
    have HO4 := Lib.hid ((hF.own HO3.out (fun e => by have := (HO3.out.blk_lt g e).1; omega)).lower hs1)
    clear ha hS hF HF3 HO3 hv
    go_wp2_with fail
    exact bodyPost_ret (v := .tuple #[.slice B xs.length d, .int .i64 v]) (by simp [results, Tryd.results18, go_sem]) rfl ⟨B, d, xs, v, rfl, hl, HO4.out, HOK.out, HB.out⟩
end Go.Proofs.YtofcmljnckdknaaDoor
