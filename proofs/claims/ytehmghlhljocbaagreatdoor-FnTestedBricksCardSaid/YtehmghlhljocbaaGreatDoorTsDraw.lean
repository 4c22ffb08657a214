/-
  Draws of tested bricks.
-/
import Derived.Test.YtehmghlhljocbaaGreatDoorSrc3
import Derived.Test.YtehmghlhljocbaaGreatDoorFlatTested
import Derived.Test.YtehmghlhljocbaaGreatDoorTestedM
import Derived.Deep.CutRange
namespace Go.Proofs.YtehmghlhljocbaaGreatDoor
open Go.ChangeShapes Go.WideShapes Go.RowKit

theorem rowTs : TyRow Tryz.prog 24 54 (.agg #[.int .i64 (0), .int .i64 (0)]) LTested.sz 16 := ⟨Tryz.underlying24, by kernel_rfl⟩
theorem Sr.belowB' {w w' : World} {g c m B : Nat} {A : Option Addr} {cs : List Int} (h : Sr w g A c cs m) (hb : Below B w w') (hB : g < B) : Sr w' g A c cs m := by
  exact h.belowB hb hB
/-- a drawn brick -/
def TsD (x : TestedD) : Prop := 2000 ≤ x.1 ∧ x.1 ≤ 4900 ∧ 60 ≤ x.2 ∧ x.2 ≤ 205
def DrewTd (g : Nat) (A : Option Addr) (c : Nat) (cs : List Int) (m : Nat) (w0 : World) (e : Ending) (w' : World) : Prop :=
  ∃ (B : Option Addr) (d : Nat) (xs : List TestedD), e = .returned (.slice B xs.length d) ∧ xs.length ≤ 7 ∧ Own LTested 54 w' w0.heap.size B d xs ∧ (∀ x ∈ xs, TsD x) ∧ Sr w' g A c cs m ∧ Fs g w0 w'
set_option maxRecDepth 100000 in
set_option maxHeartbeats 1600000 in
theorem l19Draw_any (g : Nat) (A : Option Addr) (c : Nat) (cs : List Int) (m : Nat) (w : World) (h : Sr w g A c cs m) (hm : m ≤ 100000) :
    Calls Tryz.prog 58 #[.pointer (some ⟨g, 0, none⟩)] w (DrewTd g A c cs (m + 60) w) := by
  have hg := h.g1
  have hb0 : Below w.heap.size w (w.alloc (.cells #[] 54)) := (Below.refl _ w).alloc (Nat.le_refl _) _
  have hc := pick_any 8 g A c cs m _ (h.below hb0) (by omega) (by omega)
  have hO0 : Own LTested 54 (w.alloc (.cells #[] 54)) w.heap.size (some ⟨w.heap.size, 0, none⟩) 0 ([] : List TestedD) := Own.lit0 _ (Nat.le_refl _) rfl
  clear h
  go_enter Tryz.func58, Tryz.ntmps58
  go_wp2_with fail
  refine hc.mono ?_
  rintro e w1 ⟨x, rfl, x0, x1, hS, hF⟩
  obtain ⟨K, rfl⟩ : ∃ K : Nat, x = (K : Int) := ⟨x.toNat, by omega⟩
  have hK : K ≤ 7 := by omega
  have HO1 := Lib.hid (hF.own hO0 (by intro e; injection e with e; dsimp only at e; omega))
  have HF1 := Lib.hid ((Fs.of_below (g := g) hb0).trans hF)
  have HS1 := Lib.hid hS
  clear hc hS hF hO0 hb0 x0 x1
  go_wp2_with fail
  go_loopw [3, 4] (fun o i wr => ∃ (L : List TestedD) (A1 : Option Addr) (c1 : Nat), L.length ≤ K ∧ i = .int .i64 ((K : Int) - L.length) ∧ o = .slice A1 L.length c1 ∧ Hid (∀ n ∈ L, TsD n) ∧ Hid (Own LTested 54 wr w.heap.size A1 c1 L) ∧ Hid (Sr wr g A c cs (m + 2 + 8 * L.length)) ∧ Hid (Fs g w wr)) (fun _ i _ => (intOf i).toNat)
  case atStart => exact ⟨[], _, _, by simp, by go_num, rfl, Lib.hid (fun n hn => by cases hn), HO1, Lib.hid (HS1.out.more (by simp)), HF1⟩
  case round =>
    obtain ⟨L, A1, c1, hj, rfl, rfl, HOK, HO, HS, HF⟩ := hrel
    have hfs := HF.out.size
    by_cases hlt : L.length < K
    · have hki : (0 : Int) < (K : Int) - L.length := by omega
      have hl6 : L.length < 7 := by omega
      have hc2 := pick_any 30 g A c cs _ wr HS.out (by omega) (by omega)
      go_wp2_with fail
      refine hc2.mono ?_
      rintro e w4 ⟨x, rfl, x0, x1, hS, hF⟩
      have hs4 := hF.size
      obtain ⟨st, hst⟩ : ∃ st, st = 100 * (20 + x) := ⟨_, rfl⟩
      have e1 : IntKind.i64.wrap (20 + x) = 20 + x := wrapS (by omega) (by omega)
      have e2 : IntKind.i64.wrap (100 * (20 + x)) = st := by rw [wrapS (by omega) (by omega), hst]
      have hstb : 2000 ≤ st ∧ st ≤ 4900 := by omega
      have hnn := HO.out.blk_lt
      have hb4 : Below w.heap.size w4 (w4.alloc (.cells #[.int .i64 st, .int .i64 0] 54)) := (Below.refl _ _).alloc (by omega) _
      have hbx : Own LTested 54 (w4.alloc (.cells #[.int .i64 st, .int .i64 0] 54)) w4.heap.size (some ⟨w4.heap.size, 0, none⟩) 1 [(st, (0 : Int))] := Own.lit w4 (Nat.le_refl _) rfl _ _ _ rfl (by unfold maxLen; omega) rfl
      have hc3 := pick_any 30 g A c cs _ _ (hS.belowB hb4 hg) (by omega) (by omega)
      have HO4 := Lib.hid ((hF.own HO.out (fun e => by have := (hnn g e).1; omega)).alloc (.cells #[.int .i64 st, .int .i64 0] 54))
      have HF4 := Lib.hid ((HF.out.trans hF).then_ hb4 (Nat.le_refl _))
      have HX4 := Lib.hid hbx
      clear hc2 hS hF hb4 hbx hst
      go_wp2_with fail
      refine hc3.mono ?_
      rintro e w5 ⟨y, rfl, y0, y1, hS, hF⟩
      have hs5 := hF.size
      simp at hs5
      obtain ⟨wt, hwt⟩ : ∃ wt, wt = 60 + 5 * y := ⟨_, rfl⟩
      have e3 : IntKind.i64.wrap (5 * y) = 5 * y := wrapS (by omega) (by omega)
      have e4 : IntKind.i64.wrap (60 + 5 * y) = wt := by rw [wrapS (by omega) (by omega), hwt]
      have hwtb : 60 ≤ wt ∧ wt ≤ 205 := by omega
      have HO5 := Lib.hid (hF.own HO4.out (fun e => by have := (hnn g e).1; omega))
      have hx5 := hF.own HX4.out (by intro e; injection e with e; dsimp only at e; omega)
      generalize w4.heap.size = bx at *
      obtain ⟨gg, hgg, _, hlt5, hcl, hfz⟩ := hx5.field (k := 0) (by simp)
      cases hgg
      have q0 : w5.cell? ⟨bx, 0, none⟩ = some (.int .i64 st) := hcl 0 _ rfl
      have q1 : w5.cell? ⟨bx, 1, none⟩ = some (.int .i64 0) := hcl 1 _ rfl
      have q2 : w5.frozen? ⟨bx, 1, none⟩ = false := hfz 1
      have HF5 := Lib.hid (HF4.out.trans hF)
      have HS5 := Lib.hid hS
      have hown : Own LTested 54 (w5.setCell ⟨bx, 1, none⟩ (.int .i64 wt)) w.heap.size A1 c1 L := HO5.out.setFar (fun e => by have := (hnn bx e).2; omega) _
      have hbs : Below w.heap.size w5 (w5.setCell ⟨bx, 1, none⟩ (.int .i64 wt)) := (Below.refl _ _).setCell (p := ⟨bx, 1, none⟩) (by dsimp only; omega) _
      have hTS : TsD (st, wt) := ⟨hstb.1, hstb.2, hwtb.1, hwtb.2⟩
      have HTS := Lib.hid hTS
      clear hc3 hS hF hx5 hcl hwt e1 e2 hTS HX4
      go_wp2_with (at_builtin; go_loud (refine wpL_app1 (L := LTested) rowTs rfl rfl _ _ rfl rfl hown (st, wt) _ rfl rfl (by simp) (by unfold maxLen; omega) (by omega) (by simp; omega) ?_); intro A6 c6 w6 ho6 hg6)
      have hbw : Below w.heap.size (w5.setCell ⟨bx, 1, none⟩ (.int .i64 wt)) w6 := Grew.below (Below.refl _ _) hg6 (by simp; omega) (fun b e => (hnn b e).1)
      have HS6 := Lib.hid ((HS5.out.belowB hbs hg).belowB hbw hg)
      have HF6 := Lib.hid ((HF5.out.then_ hbs (Nat.le_refl _)).then_ hbw (Nat.le_refl _))
      have HO6 := Lib.hid ho6
      have HOK6 : Hid (∀ n ∈ L ++ [(st, wt)], TsD n) := Lib.hid (fun n hn => by
        rcases List.mem_append.1 hn with h | h
        · exact HOK.out n h
        · simp at h; rw [h]; exact HTS.out)
      clear ho6 hg6 hbw hbs hown
      go_roundw
      case rel => exact ⟨L ++ [(st, wt)], A6, c6, by simp; omega, by go_num, by simp, HOK6, HO6, Lib.hid (HS6.out.more (by simp; omega)), HF6⟩
      case measure => simp [intOf]; omega
    · have hki : (K : Int) - L.length ≤ 0 := by omega
      go_wp2_with fail
      go_ret
      exact ⟨A1, c1, L, rfl, by omega, HO.out, HOK.out, HS.out.more (by omega), HF.out⟩
def DrewTs (g : Nat) (A : Option Addr) (c : Nat) (cs : List Int) (m : Nat) (w0 : World) (e : Ending) (w' : World) : Prop :=
  ∃ (B : Option Addr) (d : Nat) (xs : List TestedD), e = .returned (.slice B xs.length d) ∧ xs.length ≤ 21 ∧ Own LTested 54 w' w0.heap.size B d xs ∧ Sr w' g A c cs m ∧ Fs g w0 w'
def BentT (g : Nat) (A : Option Addr) (c : Nat) (cs : List Int) (m : Nat) (w0 : World) (s : Value) (w : World) : Prop :=
  ∃ (B : Option Addr) (d : Nat) (xs : List TestedD), s = .slice B xs.length d ∧ xs.length ≤ 21 ∧ Own LTested 54 w w0.heap.size B d xs ∧ Sr w g A c cs m ∧ Fs g w0 w
def BadS : List Int := [-1, 0, 100000, 100001, -9223372036854775808]
def BadW : List Int := [-1, 0, 1000, 1001]
set_option maxRecDepth 100000 in
set_option maxHeartbeats 1600000 in
theorem l19Bent_any (g : Nat) (A : Option Addr) (c : Nat) (cs : List Int) (m : Nat) (w : World) (h : Sr w g A c cs m) (hm : m ≤ 100000) :
    Calls Tryz.prog 32 #[.pointer (some ⟨g, 0, none⟩)] w (DrewTs g A c cs (m + 100) w) := by
  have hg := h.g1
  have hc := l19Draw_any g A c cs m w h (by omega)
  clear h
  go_enter Tryz.func32, Tryz.ntmps32
  go_wp2_with fail
  refine hc.mono ?_
  rintro e w1 ⟨B, d, xs, rfl, hl, ho, hok, hS, hF⟩
  have hs1 := hF.size
  have hc2 := one_any 24 g A c cs _ w1 hS (by omega) (by omega)
  have HO1 := Lib.hid ho
  have HF1 := Lib.hid hF
  clear hc hS ho hok hF
  go_wp2_with fail
  refine hc2.mono ?_
  rintro e w2 ⟨q, rfl, hS, hF⟩
  have hs2 := hF.size
  have HO2 := Lib.hid (hF.own HO1.out (fun e => by have := (HO1.out.blk_lt g e).1; omega))
  have HF2 := Lib.hid (HF1.out.trans hF)
  have HS2 := Lib.hid hS
  clear hc2 hS hF HO1 HF1
  go_upto_if 8 with fail
  go_cut [3] from 8 to 13 (fun s wx => BentT g A c cs (m + 80) w s wx)
  case first =>
    cases q
    · go_wp2_with fail
      go_meet
      case rel => exact ⟨B, d, xs, rfl, by omega, HO2.out, HS2.out.more (by omega), HF2.out⟩
    · have hc3 := pick_any 2 g A c cs _ _ HS2.out (by omega) (by omega)
      go_wp2_with fail
      refine hc3.mono ?_
      rintro e w3 ⟨x, rfl, x0, x1, hS, hF⟩
      have hs3 := hF.size
      obtain ⟨K, hK⟩ : ∃ K : Nat, (K : Int) = 20 + x := ⟨(20 + x).toNat, by omega⟩
      have e1 : IntKind.i64.wrap (20 + x) = (K : Int) := by rw [hK]; exact wrapS (by omega) (by omega)
      have hK1 : K ≤ 21 := by omega
      have HF3 := Lib.hid (HF2.out.trans hF)
      have HS3 := Lib.hid hS
      clear hc3 hS hF HO2 HF2 HS2 hK x0 x1
      go_wp2_with (at_make; refine wpL_make (L := LTested) rowTs rfl _ _ rfl .i64 .i64 _ _ K rfl rfl rfl rfl (by omega) (by unfold maxLen; omega) (0, 0) rfl ?_; intro w4 hown hb)
      go_meet
      case rel => exact ⟨_, K, List.replicate K (0, 0), by simp, by simp; omega, hown.lower (by omega), HS3.out.belowB hb (by omega) |>.more (by omega), HF3.out.then_ hb (by omega)⟩
  case rest =>
  clear HO2 HF2 HS2
  obtain ⟨B2, d2, ys, rfl, hl2, ho, hS, hF⟩ := hcut
  have hyn := ho.len63
  have hsc := hF.size
  cases ys with
  | nil =>
    have HO := Lib.hid ho
    have HF := Lib.hid hF
    have HS := Lib.hid hS
    clear ho hF hS
    go_wp2_with fail
    go_ret
    exact ⟨B2, d2, [], rfl, by simp, HO.out, HS.out.more (by omega), HF.out⟩
  | cons y ys =>
    obtain ⟨zs, hzs⟩ : ∃ zs, zs = y :: ys := ⟨_, rfl⟩
    rw [← hzs] at ho hl2
    have hzl : 0 < zs.length := by rw [hzs]; simp
    have hzi : (0 : Int) < zs.length := by omega
    rw [← hzs]
    clear hzs
    obtain ⟨b, rfl, hbb, hbl⟩ := ho.ptr (by omega)
    have HO := Lib.hid ho
    have HF := Lib.hid hF
    have hc6 := pick_any (zs.length : Int) g A c cs _ wc hS (by omega) (by omega)
    clear ho hF hS
    go_wp2_with fail
    refine hc6.mono ?_
    rintro e w6 ⟨x, rfl, x0, x1, hS, hF⟩
    have hs6 := hF.size
    obtain ⟨k, rfl⟩ : ∃ k : Nat, x = (k : Int) := ⟨x.toNat, by omega⟩
    have hk : k < zs.length := by omega
    have hki : (k : Int) < zs.length := by omega
    have HO6 := Lib.hid (hF.own HO.out (by intro e; injection e with e; dsimp only at e; omega))
    have HF6 := Lib.hid (HF.out.trans hF)
    have hc7 := pick_any 20 g A c cs _ w6 hS (by omega) (by omega)
    clear hc6 hS hF HO HF x0 x1
    go_wp2_with fail
    refine hc7.mono ?_
    rintro e w7 ⟨z, rfl, z0, z1, hS, hF⟩
    have hs7 := hF.size
    have HO7 := Lib.hid (hF.own HO6.out (by intro e; injection e with e; dsimp only at e; omega))
    have HF7 := Lib.hid (HF6.out.trans hF)
    have HS7 := Lib.hid hS
    clear hc7 hS hF HO6 HF6
    by_cases hz0 : z = 0
    · subst hz0
      have ha := amongLit_any BadS 5 _ rfl rfl (by omega) (by omega) g A c cs _ w7 HS7.out (by omega)
      clear HS7
      go_wp2_with fail
      refine ha.mono ?_
      rintro e w8 ⟨v, rfl, hv, hS, hF⟩
      have hs8 := hF.size
      have HO8 := Lib.hid (hF.own HO7.out (by intro e; injection e with e; dsimp only at e; omega))
      have HF8 := Lib.hid (HF7.out.trans hF)
      have HS8 := Lib.hid hS
      obtain ⟨gg, hgg, _, hlt, hcl, hfz⟩ := HO8.out.field hk
      cases hgg
      have q1 : w8.cell? ⟨b, k * 2, none⟩ = some (.int .i64 zs[k].1) := hcl 0 _ rfl
      have HO9 := Lib.hid (setTested_0 HO8.out hk v)
      have HB : Hid (Below w.heap.size w8 (w8.setCell ⟨b, k * 2, none⟩ (.int .i64 v))) := Lib.hid ((Below.refl _ w8).setCell (p := ⟨b, k * 2, none⟩) (by dsimp only; omega) _)
      clear ha hS hF hcl hv
      go_wp2_with fail
      go_ret
      exact ⟨_, d2, _, by simp, by simp; omega, HO9.out, (HS8.out.belowB HB.out (by omega)).more (by omega), HF8.out.then_ HB.out (Nat.le_refl _)⟩
    · by_cases hz1 : z = 1
      · subst hz1
        have ha := amongLit_any BadW 4 _ rfl rfl (by omega) (by omega) g A c cs _ w7 HS7.out (by omega)
        clear HS7 hz0
        go_wp2_with fail
        refine ha.mono ?_
        rintro e w8 ⟨v, rfl, hv, hS, hF⟩
        have hs8 := hF.size
        have HO8 := Lib.hid (hF.own HO7.out (by intro e; injection e with e; dsimp only at e; omega))
        have HF8 := Lib.hid (HF7.out.trans hF)
        have HS8 := Lib.hid hS
        obtain ⟨gg, hgg, _, hlt, hcl, hfz⟩ := HO8.out.field hk
        cases hgg
        have q1 : w8.cell? ⟨b, k * 2 + 1, none⟩ = some (.int .i64 zs[k].2) := hcl 1 _ rfl
        have HO9 := Lib.hid (setTested_1 HO8.out hk v)
        have HB : Hid (Below w.heap.size w8 (w8.setCell ⟨b, k * 2 + 1, none⟩ (.int .i64 v))) := Lib.hid ((Below.refl _ w8).setCell (p := ⟨b, k * 2 + 1, none⟩) (by dsimp only; omega) _)
        clear ha hS hF hcl hv
        go_wp2_with fail
        go_ret
        exact ⟨_, d2, _, by simp, by simp; omega, HO9.out, (HS8.out.belowB HB.out (by omega)).more (by omega), HF8.out.then_ HB.out (Nat.le_refl _)⟩
      · have y0 : (z == 0) = false := by rw [beq_eq_false_iff_ne]; exact hz0
        have y1 : (z == 1) = false := by rw [beq_eq_false_iff_ne]; exact hz1
        go_wp2_with fail
        go_ret
        exact ⟨_, d2, zs, rfl, by omega, HO7.out, HS7.out.more (by omega), HF7.out⟩
end Go.Proofs.YtehmghlhljocbaaGreatDoor
