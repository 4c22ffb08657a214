/-
  Draws of scaffolds: DrawSameScaffold.
-/
import Derived.Test.YtamhkiakplmlmaaDoorScRoom
import Derived.Test.YtamhkiakplmlmaaDoorSched
import Derived.Test.YtamhkiakplmlmaaDoorClone
namespace Go.Proofs.YtamhkiakplmlmaaDoor
open Go.ChangeShapes Go.WideShapes Go.RowKit

theorem Own.dr_ {α : Type} {L : Lay α} {T : TypeId} {w : World} {base c : Nat} {A : Option Addr} {xs : List α} (h : Own L T w base A c xs) : Own L T w.drew base A c xs := h.below ((Below.refl _ w).drew)
theorem RB.new_ (w : World) : RB (w.alloc (.cells #[.slice none 0 0, .slice none 0 0, .int .i64 0] 26)) w.heap.size := ⟨⟨.slice none 0 0, by go_simp⟩, ⟨.slice none 0 0, by go_simp⟩, ⟨.int .i64 0, by go_simp⟩, by go_simp, by go_simp, by go_simp, by simp⟩
theorem RB.dr {w : World} {r : Nat} (h : RB w r) : RB w.drew r := ⟨h.c0, h.c1, h.c2, h.f0, h.f1, h.f2, h.lt⟩
theorem sc_end {wA v2 : World} {b2 g c c2 c3 : Nat} {A A2 A3 : Option Addr} {cs xb xt : List Int} {N : Int} (hB : Below wA.heap.size wA v2) (h : RB v2 b2) (hlo : wA.heap.size ≤ b2) (o1 : Own LI 2 v2 wA.heap.size A2 c2 xb) (o2 : Own LI 2 v2 wA.heap.size A3 c3 xt)
    (hap : Ap A2 A3) (hn1 : blk A2 ≠ some b2) (hn2 : blk A3 ≠ some b2) (hS : Sr wA g A c cs (0 + 40)) :
    Sc (((v2.setCell ⟨b2, 0, none⟩ (.slice A2 xb.length c2)).setCell ⟨b2, 1, none⟩ (.slice A3 xt.length c3)).setCell ⟨b2, 2, none⟩ (.int .i64 N)) b2 wA.heap.size A2 c2 xb A3 c3 xt N ∧
    Sr (((v2.setCell ⟨b2, 0, none⟩ (.slice A2 xb.length c2)).setCell ⟨b2, 1, none⟩ (.slice A3 xt.length c3)).setCell ⟨b2, 2, none⟩ (.int .i64 N)) g A c cs 40 ∧
    Fs g wA (((v2.setCell ⟨b2, 0, none⟩ (.slice A2 xb.length c2)).setCell ⟨b2, 1, none⟩ (.slice A3 xt.length c3)).setCell ⟨b2, 2, none⟩ (.int .i64 N)) := by
  obtain ⟨u0, h0⟩ := h.c0
  obtain ⟨u1, h1⟩ := h.c1
  obtain ⟨u2, h2⟩ := h.c2
  have hf0 := h.f0
  have hf1 := h.f1
  have hf2 := h.f2
  have hl := h.lt
  have hbz := ((hB.setCell (p := ⟨b2, 0, none⟩) hlo (.slice A2 xb.length c2)).setCell (p := ⟨b2, 1, none⟩) hlo (.slice A3 xt.length c3)).setCell (p := ⟨b2, 2, none⟩) hlo (.int .i64 N)
  refine ⟨⟨by go_simp, by go_simp, by go_simp, by go_simp, by go_simp, by go_simp, ((o1.setFar (p := ⟨b2, 0, none⟩) hn1 _).setFar (p := ⟨b2, 1, none⟩) hn1 _).setFar (p := ⟨b2, 2, none⟩) hn1 _, ((o2.setFar (p := ⟨b2, 0, none⟩) hn2 _).setFar (p := ⟨b2, 1, none⟩) hn2 _).setFar (p := ⟨b2, 2, none⟩) hn2 _, hap, hn1, hn2, hlo, by simpa using hl⟩, (hS.below hbz).more (by omega), Fs.of_below hbz⟩
theorem cell3d {W : World} {n b i : Nat} {u v1 v2 v3 : Value} (hne : n ≠ b) (h : W.drew.cell? ⟨b, i, none⟩ = some u) : (((W.setCell ⟨n, 0, none⟩ v1).setCell ⟨n, 1, none⟩ v2).setCell ⟨n, 2, none⟩ v3).drew.cell? ⟨b, i, none⟩ = some u := by
  show (((W.setCell ⟨n, 0, none⟩ v1).setCell ⟨n, 1, none⟩ v2).setCell ⟨n, 2, none⟩ v3).cell? ⟨b, i, none⟩ = some u
  rw [World.cell?_setCell_far _ _ _ _ hne, World.cell?_setCell_far _ _ _ _ hne, World.cell?_setCell_far _ _ _ _ hne]
  exact h
theorem rd6 {T : TypeId} {W : World} {base c n1 n2 : Nat} {A : Option Addr} {xs : List Int} {v1 v2 v3 v4 v5 v6 : Value} (h : Own LI T W base A c xs) (e1 : blk A ≠ some n1) (e2 : blk A ≠ some n2) :
    Rd LI ((((((W.setCell ⟨n1, 0, none⟩ v1).setCell ⟨n1, 1, none⟩ v2).setCell ⟨n1, 2, none⟩ v3).setCell ⟨n2, 0, none⟩ v4).setCell ⟨n2, 1, none⟩ v5).setCell ⟨n2, 2, none⟩ v6).drew ((((((W.setCell ⟨n1, 0, none⟩ v1).setCell ⟨n1, 1, none⟩ v2).setCell ⟨n1, 2, none⟩ v3).setCell ⟨n2, 0, none⟩ v4).setCell ⟨n2, 1, none⟩ v5).setCell ⟨n2, 2, none⟩ v6).drew.heap.size A c xs :=
  ((((((h.setFar (p := ⟨n1, 0, none⟩) e1 v1).setFar (p := ⟨n1, 1, none⟩) e1 v2).setFar (p := ⟨n1, 2, none⟩) e1 v3).setFar (p := ⟨n2, 0, none⟩) e2 v4).setFar (p := ⟨n2, 1, none⟩) e2 v5).setFar (p := ⟨n2, 2, none⟩) e2 v6).drew.rd
theorem bel6 {w W : World} {B n1 n2 : Nat} {v1 v2 v3 v4 v5 v6 : Value} (h : Below B w W) (h1 : B ≤ n1) (h2 : B ≤ n2) :
    Below B w ((((((W.setCell ⟨n1, 0, none⟩ v1).setCell ⟨n1, 1, none⟩ v2).setCell ⟨n1, 2, none⟩ v3).setCell ⟨n2, 0, none⟩ v4).setCell ⟨n2, 1, none⟩ v5).setCell ⟨n2, 2, none⟩ v6).drew :=
  ((((((h.setCell (p := ⟨n1, 0, none⟩) h1 v1).setCell (p := ⟨n1, 1, none⟩) h1 v2).setCell (p := ⟨n1, 2, none⟩) h1 v3).setCell (p := ⟨n2, 0, none⟩) h2 v4).setCell (p := ⟨n2, 1, none⟩) h2 v5).setCell (p := ⟨n2, 2, none⟩) h2 v6).drew
theorem sc_end3 {wA v2 : World} {g c c2 c3 : Nat} {A A2 A3 : Option Addr} {cs xb xt : List Int} {N : Int} (hB : Below wA.heap.size wA v2) (hlo : wA.heap.size ≤ v2.heap.size) (o1 : Own LI 2 v2 wA.heap.size A2 c2 xb) (o2 : Own LI 2 v2 wA.heap.size A3 c3 xt)
    (hap : Ap A2 A3) (hS : Sr wA g A c cs (0 + 40)) :
    Sc (v2.alloc (.cells #[.slice A2 xb.length c2, .slice A3 xt.length c3, .int .i64 N] 26)) v2.heap.size wA.heap.size A2 c2 xb A3 c3 xt N ∧
    Sr (v2.alloc (.cells #[.slice A2 xb.length c2, .slice A3 xt.length c3, .int .i64 N] 26)) g A c cs 40 ∧
    Fs g wA (v2.alloc (.cells #[.slice A2 xb.length c2, .slice A3 xt.length c3, .int .i64 N] 26)) := by
  have hbz := hB.alloc hlo (.cells #[.slice A2 xb.length c2, .slice A3 xt.length c3, .int .i64 N] 26)
  refine ⟨⟨by go_simp, by go_simp, by go_simp, by go_simp, by go_simp, by go_simp, o1.alloc _, o2.alloc _, hap, fun e => by have := (o1.blk_lt _ e).2; omega, fun e => by have := (o2.blk_lt _ e).2; omega, hlo, by simp⟩, (hS.below hbz).more (by omega), Fs.of_below hbz⟩
def DrewTwo (w : World) (e : Ending) (w' : World) : Prop :=
  ∃ (Ab : Option Addr) (cb : Nat) (xb : List Int) (At : Option Addr) (ct : Nat) (xt : List Int) (N : Int) (Ax : Option Addr) (cx : Nat) (ax : List Int) (Ay : Option Addr) (cy : Nat) (ay : List Int) (M : Int), e = .returned (.tuple #[.agg #[.slice Ab xb.length cb, .slice At xt.length ct, .int .i64 N], .agg #[.slice Ax ax.length cx, .slice Ay ay.length cy, .int .i64 M]]) ∧ xb.length ≤ 6 ∧ xt.length ≤ 5 ∧ ax.length ≤ 6 ∧ ay.length ≤ 6 ∧ Rd LI w' w'.heap.size Ab cb xb ∧ Rd LI w' w'.heap.size At ct xt ∧ Rd LI w' w'.heap.size Ax cx ax ∧ Rd LI w' w'.heap.size Ay cy ay ∧ Below w.heap.size w w'
set_option maxRecDepth 100000 in
set_option maxHeartbeats 6400000 in
theorem drawSameSc_any (A : Option Addr) (c : Nat) (cs : List Int) (w : World) (hr : Rd LU w w.heap.size A c cs) (hb : ∀ x ∈ cs, 0 ≤ x ∧ x ≤ 255) :
    Calls Tryd.prog 16 #[.slice A cs.length c] w (DrewTwo w) := by
  obtain ⟨g, hg⟩ : ∃ g, g = w.heap.size + 2 := ⟨_, rfl⟩
  have hb0 : Below w.heap.size w ((w.alloc (.cells #[.slice none 0 0, .slice none 0 0, .int .i64 0] 26)).alloc (.cells #[.slice none 0 0, .slice none 0 0, .int .i64 0] 26)) := ((Below.refl _ w).alloc (Nat.le_refl _) _).alloc (by simp) _
  have hR1 : RB ((w.alloc (.cells #[.slice none 0 0, .slice none 0 0, .int .i64 0] 26)).alloc (.cells #[.slice none 0 0, .slice none 0 0, .int .i64 0] 26)) w.heap.size := ⟨⟨.slice none 0 0, by go_simp⟩, ⟨.slice none 0 0, by go_simp⟩, ⟨.int .i64 0, by go_simp⟩, by go_simp, by go_simp, by go_simp, by simp; omega⟩
  have hR2 : RB ((w.alloc (.cells #[.slice none 0 0, .slice none 0 0, .int .i64 0] 26)).alloc (.cells #[.slice none 0 0, .slice none 0 0, .int .i64 0] 26)) (w.heap.size + 1) := ⟨⟨.slice none 0 0, by go_simp⟩, ⟨.slice none 0 0, by go_simp⟩, ⟨.int .i64 0, by go_simp⟩, by go_simp, by go_simp, by go_simp, by simp⟩
  have hc := from_at g A c cs ((w.alloc (.cells #[.slice none 0 0, .slice none 0 0, .int .i64 0] 26)).alloc (.cells #[.slice none 0 0, .slice none 0 0, .int .i64 0] 26)) (by rw [hg]; simp) ((hr.alloc (Nat.le_refl _) _).alloc (by simp) _) (by simp; omega) hb
  have hgw : w.heap.size + 1 < g := by omega
  clear hg hr
  go_enter Tryd.func16, Tryd.ntmps16
  go_wp2_with fail
  refine hc.mono ?_
  rintro e w1 ⟨rfl, hS, hb1⟩
  have hg1 := hS.g1
  have hs1 := hb1.size
  have HR1 := Lib.hid (hR1.belowB hb1 (by omega))
  have HR2 := Lib.hid (hR2.belowB hb1 (by omega))
  have hBw := hb0.trans (hb1.mono (by omega))
  have hc2 := l22Draw_any g A c cs 0 w1 hS (by omega)
  clear hc hS hb1 hR1 hR2 hb0
  go_wp2_with fail
  refine hc2.mono ?_
  rintro e w2 ⟨Ab, cb, xb, At, ct, xt, N, rfl, hxb, hxt, hpb, hpt, ho1, ho2, hap, hS, hF⟩
  have hs2 := hF.size
  have hb2 : Below w2.heap.size w2 (w2.alloc (.cells #[.slice Ab xb.length cb, .slice At xt.length ct, .int .i64 N] 26)) := (Below.refl _ w2).alloc (Nat.le_refl _) _
  have ho1' := ho1.lower (show g + 1 ≤ _ by omega)
  have ho2' := ho2.lower (show g + 1 ≤ _ by omega)
  have HSC := Lib.hid (show Sc (w2.alloc (.cells #[.slice Ab xb.length cb, .slice At xt.length ct, .int .i64 N] 26)) w2.heap.size (g + 1) Ab cb xb At ct xt N from
    ⟨by go_simp, by go_simp, by go_simp, by go_simp, by go_simp, by go_simp, ho1'.below hb2, ho2'.below hb2, hap, fun e => by have := (ho1'.blk_lt _ e).2; omega, fun e => by have := (ho2'.blk_lt _ e).2; omega, by omega, by simp⟩)
  have HR1b := Lib.hid ((HR1.out.fs hF (by omega)).belowB hb2 (by omega))
  have HR2b := Lib.hid ((HR2.out.fs hF (by omega)).belowB hb2 (by omega))
  have HS := Lib.hid (hS.below hb2)
  have hF1 := hF.then_ hb2 (by omega)
  have hBB := hBw.trans (hF1.below hBw.size (by omega))
  obtain ⟨wA, hwA⟩ : ∃ W, W = w2.alloc (.cells #[.slice Ab xb.length cb, .slice At xt.length ct, .int .i64 N] 26) := ⟨_, rfl⟩
  have hbA : w2.heap.size < wA.heap.size := by rw [hwA]; simp
  rw [← hwA] at HSC HR1b HR2b HS hBB
  have hsA := hBB.size
  have HBw := Lib.hid hBB
  obtain ⟨b, hb⟩ : ∃ b, b = w2.heap.size := ⟨_, rfl⟩
  rw [← hb] at HSC hbA hs2
  have HCL := Lib.hid (fun (W : World) (hW : Fs g wA W) => And.intro (HSC.out.fs hW (by omega)) (And.intro (HR1b.out.fs hW (by omega)) (HR2b.out.fs hW (by omega))))
  clear hc2 hS hF hF1 HR1 HR2 ho1 ho2 ho1' ho2' hap hb2 hBw hBB HR1b HR2b hs1 HSC
  go_upto_region 3 with fail
  rw [← hwA, ← hb]
  clear hwA hb
  have hgA : g < wA.heap.size := by have := HS.out.g1; omega
  have hg2 : g + 1 ≤ b := by omega
  clear hs2
  go_cut [6] from 11 to 19 (fun s wx => ∃ (b2 : Nat) (A2 : Option Addr) (c2 : Nat) (A3 : Option Addr) (c3 : Nat), s = .pointer (some ⟨b2, 0, none⟩) ∧ Sc wx b2 wA.heap.size A2 c2 xb A3 c3 xt N ∧ Sr wx g A c cs 40 ∧ Fs g wA wx)
  case first =>
    obtain ⟨sa, _, _⟩ := HCL.out wA (Fs.refl g wA)
    have hp0 := sa.c0
    have hp1 := sa.c1
    have hp2 := sa.c2
    have hla := sa.lt
    have HO1 := Lib.hid sa.ob
    have HO2 := Lib.hid sa.ot
    clear sa
    refine wp_region_noPanic ?_
    refine startS (S := (fun V => V.cell? ⟨b, 0, none⟩ = some (.slice Ab xb.length cb) ∧ V.cell? ⟨b, 1, none⟩ = some (.slice At xt.length ct) ∧ V.cell? ⟨b, 2, none⟩ = some (.int .i64 N))) 11 (by kernel_rfl) (by kernel_rfl) ⟨hp0, hp1, hp2⟩ (fun hHeld => ?_)
    refine withS 11 [0, 1, 3, 4, 6, 7, 8] (by as_aux_lemma => kernel_rfl) (by kernel_rfl) (by kernel_rfl) (fun _ _ _ _ _ h => h) ?_
    intro HFR HNS HSZ HQP
    focus
      refine takeS (i := 0) (v := ?_) HFR.out HNS.out HSZ.out HQP.out rfl (by kernel_rfl) (by kernel_rfl) (by decide) (by kernel_rfl) (Or.inl ⟨by rfl, ?_⟩) hHeld rfl (by dsimp only [List.set_cons_succ, List.set_cons_zero]) ?_
      rotate_left
      · intro w hSw; clear hSw; go_simp; (try with_reducible rfl)
    focus
      refine takeS (i := 3) (v := ?_) HFR.out HNS.out HSZ.out HQP.out rfl (by kernel_rfl) (by kernel_rfl) (by decide) (by kernel_rfl) (Or.inl ⟨by rfl, ?_⟩) hHeld rfl (by dsimp only [List.set_cons_succ, List.set_cons_zero]) ?_
      rotate_left
      · intro w hSw; clear hSw; go_simp; (try with_reducible rfl)
    focus
      refine takeS (i := 6) (v := ?_) HFR.out HNS.out HSZ.out HQP.out rfl (by kernel_rfl) (by kernel_rfl) (by decide) (by kernel_rfl) (Or.inl ⟨by rfl, ?_⟩) hHeld rfl (by dsimp only [List.set_cons_succ, List.set_cons_zero]) ?_
      rotate_left
      · intro w hSw; clear hSw; go_simp; (try with_reducible rfl)
    focus
      refine takeS (i := 1) (v := ?_) HFR.out HNS.out HSZ.out HQP.out rfl (by kernel_rfl) (by kernel_rfl) (by decide) (by kernel_rfl) (Or.inl ⟨by rfl, ?_⟩) hHeld rfl (by dsimp only [List.set_cons_succ, List.set_cons_zero]) ?_
      rotate_left
      · intro w hSw; obtain ⟨hSa, hSb, hSc⟩ := hSw; go_simp; (try with_reducible rfl)
    focus
      refine takeS (i := 4) (v := ?_) HFR.out HNS.out HSZ.out HQP.out rfl (by kernel_rfl) (by kernel_rfl) (by decide) (by kernel_rfl) (Or.inl ⟨by rfl, ?_⟩) hHeld rfl (by dsimp only [List.set_cons_succ, List.set_cons_zero]) ?_
      rotate_left
      · intro w hSw; obtain ⟨hSa, hSb, hSc⟩ := hSw; go_simp; (try with_reducible rfl)
    focus
      refine takeS (i := 7) (v := ?_) HFR.out HNS.out HSZ.out HQP.out rfl (by kernel_rfl) (by kernel_rfl) (by decide) (by kernel_rfl) (Or.inl ⟨by rfl, ?_⟩) hHeld rfl (by dsimp only [List.set_cons_succ, List.set_cons_zero]) ?_
      rotate_left
      · intro w hSw; obtain ⟨hSa, hSb, hSc⟩ := hSw; go_simp; (try with_reducible rfl)
    refine callS2 (i := 2) (j := 9) HSZ.out (by kernel_rfl) (by kernel_rfl) rfl rfl (fun K hK => ?_) (fun K hK => ?_)
    · skip
      go_simp
      (go_at_call 43; (refine (l00Own_any Ab cb xb _ wA.drew HO1.out.drew.rd (Nat.le_refl _) (by omega) HO1.out.nil0).mono ?_); rintro e v1 ⟨A2, c2, rfl, hy1, hx1⟩; have hz1 := hx1.size; (try simp at hz1))
      refine hK.out _ _ ⟨(hx1.cell (p := ⟨b, 0, none⟩) (by show b < _; simp; omega)).trans hHeld.1, (hx1.cell (p := ⟨b, 1, none⟩) (by show b < _; simp; omega)).trans hHeld.2.1, (hx1.cell (p := ⟨b, 2, none⟩) (by show b < _; simp; omega)).trans hHeld.2.2⟩ (fun hHeldN => ?_)
      clear hK K hHeld
      try simp only [Act.put, List.setIfInBounds_toArray, List.set_cons_zero, List.set_cons_succ]
      have hHeld := hHeldN
      clear hHeldN
      refine callS2 (i := 5) (j := 9) HSZ.out (by kernel_rfl) (by kernel_rfl) rfl rfl (fun K hK => ?_) (fun K hK => ?_)
      · skip
        go_simp
        (go_at_call 43; (refine (l00Own_any At ct xt _ v1 (HO2.out.drew.below hx1).rd (Nat.le_refl _) (by omega) HO2.out.nil0).mono ?_); rintro e v2 ⟨A3, c3, rfl, hy2, hx2⟩; have hz2 := hx2.size; (try simp at hz2))
        refine hK.out _ _ ⟨(hx2.cell (p := ⟨b, 0, none⟩) (by show b < _; (try simp); omega)).trans hHeld.1, (hx2.cell (p := ⟨b, 1, none⟩) (by show b < _; (try simp); omega)).trans hHeld.2.1, (hx2.cell (p := ⟨b, 2, none⟩) (by show b < _; (try simp); omega)).trans hHeld.2.2⟩ (fun hHeldN => ?_)
        clear hK K hHeld
        try simp only [Act.put, List.setIfInBounds_toArray, List.set_cons_zero, List.set_cons_succ]
        have hHeld := hHeldN
        clear hHeldN
        focus
          refine takeS (i := 8) (v := ?_) HFR.out HNS.out HSZ.out HQP.out rfl (by kernel_rfl) (by kernel_rfl) (by decide) (by kernel_rfl) (Or.inl ⟨by rfl, ?_⟩) hHeld rfl (by dsimp only [List.set_cons_succ, List.set_cons_zero]) ?_
          rotate_left
          · intro w hSw; clear hSw; go_simp; (try with_reducible rfl)
        refine callS (i := 9) HSZ.out (by kernel_rfl) (by kernel_rfl) rfl (fun K hK => ?_)
        go_simp
        refine hK.out _ _ ⟨(World.cell?_alloc_lt _ _ ⟨b, 0, none⟩ (by show b < _; (try simp); omega)).trans hHeld.1, (World.cell?_alloc_lt _ _ ⟨b, 1, none⟩ (by show b < _; (try simp); omega)).trans hHeld.2.1, (World.cell?_alloc_lt _ _ ⟨b, 2, none⟩ (by show b < _; (try simp); omega)).trans hHeld.2.2⟩ (fun hHeldN => ?_)
        clear hK K hHeld
        try simp only [Act.put, List.setIfInBounds_toArray, List.set_cons_zero, List.set_cons_succ]
        have hHeld := hHeldN
        clear hHeldN
        have HRN := Lib.hid (RB.new_ v2)
        obtain ⟨ru0, hru0⟩ := HRN.out.c0
        have hrf0 := HRN.out.f0
        obtain ⟨ru1, hru1⟩ := HRN.out.c1
        have hrf1 := HRN.out.f1
        obtain ⟨ru2, hru2⟩ := HRN.out.c2
        have hrf2 := HRN.out.f2
        have hbb : v2.heap.size ≠ b := by omega
        refine callS (i := 10) HSZ.out (by kernel_rfl) (by kernel_rfl) rfl (fun K hK => ?_)
        go_simp
        refine hK.out _ _ ⟨(World.cell?_alloc_lt v2 _ ⟨b, 0, none⟩ (by show b < v2.heap.size; omega)).trans ((World.cell?_alloc_lt v2 (.cells #[.slice none 0 0, .slice none 0 0, .int .i64 0] 26) ⟨b, 0, none⟩ (by show b < v2.heap.size; omega)).symm.trans hHeld.1), (World.cell?_alloc_lt v2 _ ⟨b, 1, none⟩ (by show b < v2.heap.size; omega)).trans ((World.cell?_alloc_lt v2 (.cells #[.slice none 0 0, .slice none 0 0, .int .i64 0] 26) ⟨b, 1, none⟩ (by show b < v2.heap.size; omega)).symm.trans hHeld.2.1), (World.cell?_alloc_lt v2 _ ⟨b, 2, none⟩ (by show b < v2.heap.size; omega)).trans ((World.cell?_alloc_lt v2 (.cells #[.slice none 0 0, .slice none 0 0, .int .i64 0] 26) ⟨b, 2, none⟩ (by show b < v2.heap.size; omega)).symm.trans hHeld.2.2)⟩ (fun hHeldN => ?_)
        clear hK K hHeld
        try simp only [Act.put, List.setIfInBounds_toArray, List.set_cons_zero, List.set_cons_succ]
        have hHeld := hHeldN
        clear hHeldN
        refine doneS HSZ.out (by kernel_rfl) (by kernel_rfl) (NoPanic.normal ?_)
        have h1 := hy1.blk_lt
        have h2 := hy2.blk_lt
        have HE := Lib.hid (sc_end3 (xb := xb) (xt := xt) (N := N) (((Below.refl wA.heap.size wA).drew.trans (hx1.mono (by simp))).trans (hx2.mono (by omega))) (show wA.heap.size ≤ v2.heap.size by omega) ((hy1.below hx2).lower (by first | omega | (simp; omega) | (simp; done))) (hy2.lower (by first | omega | (simp; omega) | (simp; done))) (fun k e1 e2 => by have := (h1 k e1).2; have := (h2 k e2).1; omega) HS.out)
        clear hHeld HRN hru0 hru1 hru2 hrf0 hrf1 hrf2 hx1 hx2 hy1 hy2 h1 h2 HFR HNS HSZ HQP
        go_wp2_with fail
        go_meet
        case rel => exact ⟨v2.heap.size, A2, c2, A3, c3, rfl, HE.out.1, HE.out.2.1, HE.out.2.2⟩
      · skip
        go_simp
        refine hK.out _ _ ⟨(World.cell?_alloc_lt _ _ ⟨b, 0, none⟩ (by show b < _; (try simp); omega)).trans hHeld.1, (World.cell?_alloc_lt _ _ ⟨b, 1, none⟩ (by show b < _; (try simp); omega)).trans hHeld.2.1, (World.cell?_alloc_lt _ _ ⟨b, 2, none⟩ (by show b < _; (try simp); omega)).trans hHeld.2.2⟩ (fun hHeldN => ?_)
        clear hK K hHeld
        try simp only [Act.put, List.setIfInBounds_toArray, List.set_cons_zero, List.set_cons_succ]
        have hHeld := hHeldN
        clear hHeldN
        refine callS (i := 5) HSZ.out (by kernel_rfl) (by kernel_rfl) rfl (fun K hK => ?_)
        go_simp
        (go_at_call 43; (refine (l00Own_any At ct xt _ (v1.alloc (.cells #[.slice none 0 0, .slice none 0 0, .int .i64 0] 26)) ((HO2.out.drew.below hx1).alloc (.cells #[.slice none 0 0, .slice none 0 0, .int .i64 0] 26)).rd (Nat.le_refl _) (by omega) HO2.out.nil0).mono ?_); rintro e v2 ⟨A3, c3, rfl, hy2, hx2⟩; have hz2 := hx2.size; (try simp at hz2))
        refine hK.out _ _ ⟨(hx2.cell (p := ⟨b, 0, none⟩) (by show b < _; (try simp); omega)).trans hHeld.1, (hx2.cell (p := ⟨b, 1, none⟩) (by show b < _; (try simp); omega)).trans hHeld.2.1, (hx2.cell (p := ⟨b, 2, none⟩) (by show b < _; (try simp); omega)).trans hHeld.2.2⟩ (fun hHeldN => ?_)
        clear hK K hHeld
        try simp only [Act.put, List.setIfInBounds_toArray, List.set_cons_zero, List.set_cons_succ]
        have hHeld := hHeldN
        clear hHeldN
        focus
          refine takeS (i := 8) (v := ?_) HFR.out HNS.out HSZ.out HQP.out rfl (by kernel_rfl) (by kernel_rfl) (by decide) (by kernel_rfl) (Or.inl ⟨by rfl, ?_⟩) hHeld rfl (by dsimp only [List.set_cons_succ, List.set_cons_zero]) ?_
          rotate_left
          · intro w hSw; clear hSw; go_simp; (try with_reducible rfl)
        have HRN := Lib.hid ((RB.new_ v1).belowB hx2 (by simp))
        obtain ⟨ru0, hru0⟩ := HRN.out.c0
        have hrf0 := HRN.out.f0
        obtain ⟨ru1, hru1⟩ := HRN.out.c1
        have hrf1 := HRN.out.f1
        obtain ⟨ru2, hru2⟩ := HRN.out.c2
        have hrf2 := HRN.out.f2
        have hbb : v1.heap.size ≠ b := by omega
        refine callS (i := 10) HSZ.out (by kernel_rfl) (by kernel_rfl) rfl (fun K hK => ?_)
        go_simp
        refine hK.out _ _ (by refine ⟨?_, ?_, ?_⟩ <;> (refine (World.cell?_setCell_far _ _ _ _ hbb).trans ((World.cell?_setCell_far _ _ _ _ hbb).trans ((World.cell?_setCell_far _ _ _ _ hbb).trans ?_)); first | exact hHeld.1 | exact hHeld.2.1 | exact hHeld.2.2)) (fun hHeldN => ?_)
        clear hK K hHeld
        try simp only [Act.put, List.setIfInBounds_toArray, List.set_cons_zero, List.set_cons_succ]
        have hHeld := hHeldN
        clear hHeldN
        refine doneS HSZ.out (by kernel_rfl) (by kernel_rfl) (NoPanic.normal ?_)
        skip
        have h1 := hy1.blk_lt
        have h2 := hy2.blk_lt
        have HE := Lib.hid (sc_end (xb := xb) (xt := xt) (N := N) ((((Below.refl wA.heap.size wA).drew.trans (hx1.mono (by simp))).alloc (by omega) (.cells #[.slice none 0 0, .slice none 0 0, .int .i64 0] 26)).trans (hx2.mono (by simp; omega))) HRN.out (show wA.heap.size ≤ v1.heap.size by omega) (((hy1.alloc (.cells #[.slice none 0 0, .slice none 0 0, .int .i64 0] 26)).below hx2).lower (by first | omega | (simp; omega) | (simp; done))) ((hy2).lower (by first | omega | (simp; omega) | (simp; done))) (fun k e1 e2 => by have := (h1 k e1).2; have := (h2 k e2).1; first | omega | (simp at this; done) | (simp at this; omega)) (fun e => by have := h1 _ e; first | omega | (simp at this; done) | (simp at this; omega)) (fun e => by have := h2 _ e; first | omega | (simp at this; done) | (simp at this; omega)) HS.out)
        clear hHeld HRN hru0 hru1 hru2 hrf0 hrf1 hrf2 hx1 hx2 hy1 hy2 h1 h2 HFR HNS HSZ HQP
        go_wp2_with fail
        go_meet
        case rel => exact ⟨v1.heap.size, A2, c2, A3, c3, rfl, HE.out.1, HE.out.2.1, HE.out.2.2⟩
    · skip
      go_simp
      refine hK.out _ _ ⟨(World.cell?_alloc_lt _ _ ⟨b, 0, none⟩ (by show b < _; (try simp); omega)).trans hHeld.1, (World.cell?_alloc_lt _ _ ⟨b, 1, none⟩ (by show b < _; (try simp); omega)).trans hHeld.2.1, (World.cell?_alloc_lt _ _ ⟨b, 2, none⟩ (by show b < _; (try simp); omega)).trans hHeld.2.2⟩ (fun hHeldN => ?_)
      clear hK K hHeld
      try simp only [Act.put, List.setIfInBounds_toArray, List.set_cons_zero, List.set_cons_succ]
      have hHeld := hHeldN
      clear hHeldN
      refine callS (i := 2) HSZ.out (by kernel_rfl) (by kernel_rfl) rfl (fun K hK => ?_)
      go_simp
      (go_at_call 43; (refine (l00Own_any Ab cb xb _ (wA.alloc (.cells #[.slice none 0 0, .slice none 0 0, .int .i64 0] 26)).drew ((HO1.out.alloc (.cells #[.slice none 0 0, .slice none 0 0, .int .i64 0] 26)).drew).rd (Nat.le_refl _) (by omega) HO1.out.nil0).mono ?_); rintro e v1 ⟨A2, c2, rfl, hy1, hx1⟩; have hz1 := hx1.size; (try simp at hz1))
      refine hK.out _ _ ⟨(hx1.cell (p := ⟨b, 0, none⟩) (by show b < _; simp; omega)).trans hHeld.1, (hx1.cell (p := ⟨b, 1, none⟩) (by show b < _; simp; omega)).trans hHeld.2.1, (hx1.cell (p := ⟨b, 2, none⟩) (by show b < _; simp; omega)).trans hHeld.2.2⟩ (fun hHeldN => ?_)
      clear hK K hHeld
      try simp only [Act.put, List.setIfInBounds_toArray, List.set_cons_zero, List.set_cons_succ]
      have hHeld := hHeldN
      clear hHeldN
      refine callS (i := 5) HSZ.out (by kernel_rfl) (by kernel_rfl) rfl (fun K hK => ?_)
      go_simp
      (go_at_call 43; (refine (l00Own_any At ct xt _ v1 ((HO2.out.alloc (.cells #[.slice none 0 0, .slice none 0 0, .int .i64 0] 26)).drew.below hx1).rd (Nat.le_refl _) (by omega) HO2.out.nil0).mono ?_); rintro e v2 ⟨A3, c3, rfl, hy2, hx2⟩; have hz2 := hx2.size; (try simp at hz2))
      refine hK.out _ _ ⟨(hx2.cell (p := ⟨b, 0, none⟩) (by show b < _; (try simp); omega)).trans hHeld.1, (hx2.cell (p := ⟨b, 1, none⟩) (by show b < _; (try simp); omega)).trans hHeld.2.1, (hx2.cell (p := ⟨b, 2, none⟩) (by show b < _; (try simp); omega)).trans hHeld.2.2⟩ (fun hHeldN => ?_)
      clear hK K hHeld
      try simp only [Act.put, List.setIfInBounds_toArray, List.set_cons_zero, List.set_cons_succ]
      have hHeld := hHeldN
      clear hHeldN
      focus
        refine takeS (i := 8) (v := ?_) HFR.out HNS.out HSZ.out HQP.out rfl (by kernel_rfl) (by kernel_rfl) (by decide) (by kernel_rfl) (Or.inl ⟨by rfl, ?_⟩) hHeld rfl (by dsimp only [List.set_cons_succ, List.set_cons_zero]) ?_
        rotate_left
        · intro w hSw; clear hSw; go_simp; (try with_reducible rfl)
      have HRN := Lib.hid (((RB.new_ wA).dr.belowB hx1 (by simp)).belowB hx2 (by omega))
      obtain ⟨ru0, hru0⟩ := HRN.out.c0
      have hrf0 := HRN.out.f0
      obtain ⟨ru1, hru1⟩ := HRN.out.c1
      have hrf1 := HRN.out.f1
      obtain ⟨ru2, hru2⟩ := HRN.out.c2
      have hrf2 := HRN.out.f2
      have hbb : wA.heap.size ≠ b := by omega
      refine callS (i := 10) HSZ.out (by kernel_rfl) (by kernel_rfl) rfl (fun K hK => ?_)
      go_simp
      refine hK.out _ _ (by refine ⟨?_, ?_, ?_⟩ <;> (refine (World.cell?_setCell_far _ _ _ _ hbb).trans ((World.cell?_setCell_far _ _ _ _ hbb).trans ((World.cell?_setCell_far _ _ _ _ hbb).trans ?_)); first | exact hHeld.1 | exact hHeld.2.1 | exact hHeld.2.2)) (fun hHeldN => ?_)
      clear hK K hHeld
      try simp only [Act.put, List.setIfInBounds_toArray, List.set_cons_zero, List.set_cons_succ]
      have hHeld := hHeldN
      clear hHeldN
      refine doneS HSZ.out (by kernel_rfl) (by kernel_rfl) (NoPanic.normal ?_)
      skip
      have h1 := hy1.blk_lt
      have h2 := hy2.blk_lt
      have HE := Lib.hid (sc_end (xb := xb) (xt := xt) (N := N) ((((Below.refl wA.heap.size wA).alloc (Nat.le_refl _) (.cells #[.slice none 0 0, .slice none 0 0, .int .i64 0] 26)).drew.trans (hx1.mono (by simp))).trans (hx2.mono (by omega))) HRN.out (show wA.heap.size ≤ wA.heap.size by omega) ((hy1.below hx2).lower (by first | omega | (simp; omega) | (simp; done))) ((hy2).lower (by first | omega | (simp; omega) | (simp; done))) (fun k e1 e2 => by have := (h1 k e1).2; have := (h2 k e2).1; first | omega | (simp at this; done) | (simp at this; omega)) (fun e => by have := h1 _ e; first | omega | (simp at this; done) | (simp at this; omega)) (fun e => by have := h2 _ e; first | omega | (simp at this; done) | (simp at this; omega)) HS.out)
      clear hHeld HRN hru0 hru1 hru2 hrf0 hrf1 hrf2 hx1 hx2 hy1 hy2 h1 h2 HFR HNS HSZ HQP
      go_wp2_with fail
      go_meet
      case rel => exact ⟨wA.heap.size, A2, c2, A3, c3, rfl, HE.out.1, HE.out.2.1, HE.out.2.2⟩
  case rest =>
  obtain ⟨b2, A2, c2, A3, c3, rfl, hSB, hS, hF⟩ := hcut
  have HSB := Lib.hid hSB
  have HF := Lib.hid hF
  have hlo2 := hSB.lo
  have hp := pick_any 4 g A c cs _ wc hS (by omega) (by omega)
  clear hSB hS hF HS
  go_wp2_with fail
  refine hp.mono ?_
  rintro e w5 ⟨q, rfl, q0, q1, hS, hF⟩
  have HSB5 := Lib.hid (HSB.out.fs hF (by omega))
  have HF5 := Lib.hid (HF.out.trans hF)
  clear hp hS hF HSB HF
  obtain ⟨M, hM⟩ : ∃ M, M = IntKind.i64.wrap (N + 1) := ⟨_, rfl⟩
  have eM := hM.symm
  clear hM
  have hl5 := HSB5.out.lt
  by_cases z0 : q = 0
  · subst z0
    have hk2 := HSB5.out.c2
    have hkf := HSB5.out.f2
    have HSz := Lib.hid (HSB5.out.num M)
    have HFz := Lib.hid (HF5.out.then_ ((Below.refl wA.heap.size w5).setCell (p := ⟨b2, 2, none⟩) hlo2 (.int .i64 M)) (Nat.le_refl _))
    clear HSB5 HF5
    go_upto_region 11 with fail
    obtain ⟨sa, HR1, HR2⟩ := HCL.out (w5.setCell ⟨b2, 2, none⟩ (.int .i64 M)) HFz.out
    have sb := HSz.out
    have hp0 := sa.c0
    have hp1 := sa.c1
    have hp2 := sa.c2
    have hq0 := sb.c0
    have hq1 := sb.c1
    have hq2 := sb.c2
    have hlo := sb.lo
    have hlo2 := sa.lo
    have hla := sa.lt
    have hlb := sb.lt
    obtain ⟨r0, hr0⟩ := HR1.c0
    obtain ⟨r1, hr1⟩ := HR1.c1
    obtain ⟨r2, hr2⟩ := HR1.c2
    have hrf0 := HR1.f0
    have hrf1 := HR1.f1
    have hrf2 := HR1.f2
    have hrl := HR1.lt
    obtain ⟨t0, ht0⟩ := HR2.c0
    obtain ⟨t1, ht1⟩ := HR2.c1
    obtain ⟨t2, ht2⟩ := HR2.c2
    have htf0 := HR2.f0
    have htf1 := HR2.f1
    have htf2 := HR2.f2
    have htl := HR2.lt
    have hn1 : b ≠ w.heap.size := by omega
    have hn2 : b ≠ w.heap.size + 1 := by omega
    have hn3 : b2 ≠ w.heap.size := by omega
    have hn4 : b2 ≠ w.heap.size + 1 := by omega
    have hn5 : w.heap.size ≠ b := by omega
    have hn6 : w.heap.size + 1 ≠ b := by omega
    have hn7 : w.heap.size ≠ b2 := by omega
    have hn8 : w.heap.size + 1 ≠ b2 := by omega
    have HB0 := Lib.hid (HBw.out.trans (HFz.out.below HBw.out.size (by omega)))
    have HO1 := Lib.hid sa.ob
    have HO2 := Lib.hid sa.ot
    have HO3 := Lib.hid sb.ob
    have HO4 := Lib.hid sb.ot
    clear sa sb HR1 HR2 HFz HSz
    refine wp_region_noPanic ?_
    refine startS (S := (fun V => V.cell? ⟨b, 0, none⟩ = some (.slice Ab xb.length cb) ∧ V.cell? ⟨b, 1, none⟩ = some (.slice At xt.length ct) ∧ V.cell? ⟨b, 2, none⟩ = some (.int .i64 N) ∧ V.cell? ⟨b2, 0, none⟩ = some (.slice A2 xb.length c2) ∧ V.cell? ⟨b2, 1, none⟩ = some (.slice A3 xt.length c3) ∧ V.cell? ⟨b2, 2, none⟩ = some (.int .i64 M))) 4 (by kernel_rfl) (by kernel_rfl) ⟨hp0, hp1, hp2, hq0, hq1, hq2⟩ (fun hHeld => ?_)
    refine withS 4 [0, 1] (by as_aux_lemma => kernel_rfl) (by kernel_rfl) (by kernel_rfl) (fun _ _ _ _ _ h => h) ?_
    intro HFR HNS HSZ HQP
    focus
      refine takeS (i := 0) (v := ?_) HFR.out HNS.out HSZ.out HQP.out rfl (by kernel_rfl) (by kernel_rfl) (by decide) (by kernel_rfl) (Or.inl ⟨by rfl, ?_⟩) hHeld rfl (by dsimp only [List.set_cons_succ, List.set_cons_zero]) ?_
      rotate_left
      · intro w hSw; obtain ⟨sa0, sa1, sa2, sb0, sb1, sb2⟩ := hSw; go_simp; (try with_reducible rfl)
    focus
      refine takeS (i := 1) (v := ?_) HFR.out HNS.out HSZ.out HQP.out rfl (by kernel_rfl) (by kernel_rfl) (by decide) (by kernel_rfl) (Or.inl ⟨by rfl, ?_⟩) hHeld rfl (by dsimp only [List.set_cons_succ, List.set_cons_zero]) ?_
      rotate_left
      · intro w hSw; obtain ⟨sa0, sa1, sa2, sb0, sb1, sb2⟩ := hSw; go_simp; (try with_reducible rfl)
    refine callS (i := 2) HSZ.out (by kernel_rfl) (by kernel_rfl) rfl (fun K hK => ?_)
    go_simp
    refine hK.out _ _ (by obtain ⟨h0, h1, h2, h3, h4, h5⟩ := hHeld; exact ⟨cell3d hn5 h0, cell3d hn5 h1, cell3d hn5 h2, cell3d hn7 h3, cell3d hn7 h4, cell3d hn7 h5⟩) (fun hHeldN => ?_)
    clear hK K hHeld
    try simp only [Act.put, List.setIfInBounds_toArray, List.set_cons_zero, List.set_cons_succ]
    have hHeld := hHeldN
    clear hHeldN
    refine callS (i := 3) HSZ.out (by kernel_rfl) (by kernel_rfl) rfl (fun K hK => ?_)
    go_simp
    refine hK.out _ _ (by obtain ⟨h0, h1, h2, h3, h4, h5⟩ := hHeld; exact ⟨cell3d hn6 h0, cell3d hn6 h1, cell3d hn6 h2, cell3d hn8 h3, cell3d hn8 h4, cell3d hn8 h5⟩) (fun hHeldN => ?_)
    clear hK K hHeld
    try simp only [Act.put, List.setIfInBounds_toArray, List.set_cons_zero, List.set_cons_succ]
    have hHeld := hHeldN
    clear hHeldN
    refine doneS HSZ.out (by kernel_rfl) (by kernel_rfl) (NoPanic.normal ?_)
    all_goals
      go_wp2_with fail
      refine bodyPost_ret (v := .tuple #[.agg #[.slice Ab xb.length cb, .slice At xt.length ct, .int .i64 N], .agg #[.slice A2 xb.length c2, .slice A3 xt.length c3, .int .i64 M]]) (by simp [results, Tryd.results16, go_sem, hr0, hr1, hr2, ht0, ht1, ht2, hrl, htl]) rfl ⟨Ab, cb, xb, At, ct, xt, N, A2, c2, xb, A3, c3, xt, M, rfl, hxb, hxt, (by first | omega | (simp; omega)), (by first | omega | (simp; omega)), rd6 HO1.out (fun e => by have := (HO1.out.blk_lt _ e).1; omega) (fun e => by have := (HO1.out.blk_lt _ e).1; omega), rd6 HO2.out (fun e => by have := (HO2.out.blk_lt _ e).1; omega) (fun e => by have := (HO2.out.blk_lt _ e).1; omega), rd6 HO3.out (fun e => by have := (HO3.out.blk_lt _ e).1; omega) (fun e => by have := (HO3.out.blk_lt _ e).1; omega), rd6 HO4.out (fun e => by have := (HO4.out.blk_lt _ e).1; omega) (fun e => by have := (HO4.out.blk_lt _ e).1; omega), bel6 HB0.out (Nat.le_refl _) (Nat.le_succ _)⟩
  have f0 : (q == 0) = false := by rw [beq_eq_false_iff_ne]; exact z0
  by_cases z1 : q = 1
  · subst z1
    obtain ⟨G, rfl, hGb, hGl, hcx, hfx⟩ := HSB5.out.ob.int (k := 0) hpb
    obtain ⟨x1, hx1⟩ : ∃ x1, x1 = IntKind.i64.wrap (xb[0] + 1) := ⟨_, rfl⟩
    have ex := hx1.symm
    clear hx1
    have hk0 := HSB5.out.c0
    have hpi : (0 : Int) < xb.length := by omega
    have HSz := Lib.hid (HSB5.out.in0 0 x1)
    have HFz := Lib.hid (HF5.out.then_ ((Below.refl wA.heap.size w5).setCell (p := ⟨G, 0, none⟩) hGb (.int .i64 x1)) (Nat.le_refl _))
    have hxl : (xb.set 0 x1).length = xb.length := by simp
    generalize xb[0] = x0 at *
    clear HSB5 HF5
    go_upto_region 11 with fail
    obtain ⟨sa, HR1, HR2⟩ := HCL.out (w5.setCell ⟨G, 0, none⟩ (.int .i64 x1)) HFz.out
    have sb := HSz.out
    have hp0 := sa.c0
    have hp1 := sa.c1
    have hp2 := sa.c2
    have hq0 := sb.c0
    have hq1 := sb.c1
    have hq2 := sb.c2
    have hlo := sb.lo
    have hlo2 := sa.lo
    have hla := sa.lt
    have hlb := sb.lt
    obtain ⟨r0, hr0⟩ := HR1.c0
    obtain ⟨r1, hr1⟩ := HR1.c1
    obtain ⟨r2, hr2⟩ := HR1.c2
    have hrf0 := HR1.f0
    have hrf1 := HR1.f1
    have hrf2 := HR1.f2
    have hrl := HR1.lt
    obtain ⟨t0, ht0⟩ := HR2.c0
    obtain ⟨t1, ht1⟩ := HR2.c1
    obtain ⟨t2, ht2⟩ := HR2.c2
    have htf0 := HR2.f0
    have htf1 := HR2.f1
    have htf2 := HR2.f2
    have htl := HR2.lt
    have hn1 : b ≠ w.heap.size := by omega
    have hn2 : b ≠ w.heap.size + 1 := by omega
    have hn3 : b2 ≠ w.heap.size := by omega
    have hn4 : b2 ≠ w.heap.size + 1 := by omega
    have hn5 : w.heap.size ≠ b := by omega
    have hn6 : w.heap.size + 1 ≠ b := by omega
    have hn7 : w.heap.size ≠ b2 := by omega
    have hn8 : w.heap.size + 1 ≠ b2 := by omega
    have HB0 := Lib.hid (HBw.out.trans (HFz.out.below HBw.out.size (by omega)))
    have HO1 := Lib.hid sa.ob
    have HO2 := Lib.hid sa.ot
    have HO3 := Lib.hid sb.ob
    have HO4 := Lib.hid sb.ot
    clear sa sb HR1 HR2 HFz HSz
    refine wp_region_noPanic ?_
    refine startS (S := (fun V => V.cell? ⟨b, 0, none⟩ = some (.slice Ab xb.length cb) ∧ V.cell? ⟨b, 1, none⟩ = some (.slice At xt.length ct) ∧ V.cell? ⟨b, 2, none⟩ = some (.int .i64 N) ∧ V.cell? ⟨b2, 0, none⟩ = some (.slice (some ⟨G, 0, none⟩) (xb.set 0 x1).length c2) ∧ V.cell? ⟨b2, 1, none⟩ = some (.slice A3 xt.length c3) ∧ V.cell? ⟨b2, 2, none⟩ = some (.int .i64 N))) 4 (by kernel_rfl) (by kernel_rfl) ⟨hp0, hp1, hp2, hq0, hq1, hq2⟩ (fun hHeld => ?_)
    refine withS 4 [0, 1] (by as_aux_lemma => kernel_rfl) (by kernel_rfl) (by kernel_rfl) (fun _ _ _ _ _ h => h) ?_
    intro HFR HNS HSZ HQP
    focus
      refine takeS (i := 0) (v := ?_) HFR.out HNS.out HSZ.out HQP.out rfl (by kernel_rfl) (by kernel_rfl) (by decide) (by kernel_rfl) (Or.inl ⟨by rfl, ?_⟩) hHeld rfl (by dsimp only [List.set_cons_succ, List.set_cons_zero]) ?_
      rotate_left
      · intro w hSw; obtain ⟨sa0, sa1, sa2, sb0, sb1, sb2⟩ := hSw; go_simp; (try with_reducible rfl)
    focus
      refine takeS (i := 1) (v := ?_) HFR.out HNS.out HSZ.out HQP.out rfl (by kernel_rfl) (by kernel_rfl) (by decide) (by kernel_rfl) (Or.inl ⟨by rfl, ?_⟩) hHeld rfl (by dsimp only [List.set_cons_succ, List.set_cons_zero]) ?_
      rotate_left
      · intro w hSw; obtain ⟨sa0, sa1, sa2, sb0, sb1, sb2⟩ := hSw; go_simp; (try with_reducible rfl)
    refine callS (i := 2) HSZ.out (by kernel_rfl) (by kernel_rfl) rfl (fun K hK => ?_)
    go_simp
    refine hK.out _ _ (by obtain ⟨h0, h1, h2, h3, h4, h5⟩ := hHeld; exact ⟨cell3d hn5 h0, cell3d hn5 h1, cell3d hn5 h2, cell3d hn7 h3, cell3d hn7 h4, cell3d hn7 h5⟩) (fun hHeldN => ?_)
    clear hK K hHeld
    try simp only [Act.put, List.setIfInBounds_toArray, List.set_cons_zero, List.set_cons_succ]
    have hHeld := hHeldN
    clear hHeldN
    refine callS (i := 3) HSZ.out (by kernel_rfl) (by kernel_rfl) rfl (fun K hK => ?_)
    go_simp
    refine hK.out _ _ (by obtain ⟨h0, h1, h2, h3, h4, h5⟩ := hHeld; exact ⟨cell3d hn6 h0, cell3d hn6 h1, cell3d hn6 h2, cell3d hn8 h3, cell3d hn8 h4, cell3d hn8 h5⟩) (fun hHeldN => ?_)
    clear hK K hHeld
    try simp only [Act.put, List.setIfInBounds_toArray, List.set_cons_zero, List.set_cons_succ]
    have hHeld := hHeldN
    clear hHeldN
    refine doneS HSZ.out (by kernel_rfl) (by kernel_rfl) (NoPanic.normal ?_)
    all_goals
      go_wp2_with fail
      refine bodyPost_ret (v := .tuple #[.agg #[.slice Ab xb.length cb, .slice At xt.length ct, .int .i64 N], .agg #[.slice (some ⟨G, 0, none⟩) (xb.set 0 x1).length c2, .slice A3 xt.length c3, .int .i64 N]]) (by simp [results, Tryd.results16, go_sem, hr0, hr1, hr2, ht0, ht1, ht2, hrl, htl]) rfl ⟨Ab, cb, xb, At, ct, xt, N, (some ⟨G, 0, none⟩), c2, (xb.set 0 x1), A3, c3, xt, N, rfl, hxb, hxt, (by first | omega | (simp; omega)), (by first | omega | (simp; omega)), rd6 HO1.out (fun e => by have := (HO1.out.blk_lt _ e).1; omega) (fun e => by have := (HO1.out.blk_lt _ e).1; omega), rd6 HO2.out (fun e => by have := (HO2.out.blk_lt _ e).1; omega) (fun e => by have := (HO2.out.blk_lt _ e).1; omega), rd6 HO3.out (fun e => by have := (HO3.out.blk_lt _ e).1; omega) (fun e => by have := (HO3.out.blk_lt _ e).1; omega), rd6 HO4.out (fun e => by have := (HO4.out.blk_lt _ e).1; omega) (fun e => by have := (HO4.out.blk_lt _ e).1; omega), bel6 HB0.out (Nat.le_refl _) (Nat.le_succ _)⟩
  have f1 : (q == 1) = false := by rw [beq_eq_false_iff_ne]; exact z1
  by_cases z2 : q = 2
  · subst z2
    have hk1 := HSB5.out.c1
    have hkf := HSB5.out.f1
    have hnt := HSB5.out.nt
    have HOt := Lib.hid HSB5.out.ot
    have hwl : wA.heap.size ≤ w5.heap.size := HF5.out.size
    go_upto_region 11 with (at_builtin; go_loud (refine wpL_app1 (L := LI) rowI rfl rfl _ _ rfl rfl HOt.out 1000 _ rfl rfl (by simp) (by unfold maxLen; omega) (by omega) (by omega) ?_); intro A6 c6 w6 ho6 hg6; have hk16 := (hg6.cell ⟨b2, 1, none⟩ hl5 hnt).trans hk1; have hkf6 := (hg6.frozen ⟨b2, 1, none⟩ hl5 hnt).trans hkf)
    have HSz := Lib.hid (HSB5.out.app1 ho6 hg6)
    have HFz := Lib.hid ((HF5.out.then_ (Grew.below' hg6 hwl (fun k e => (HOt.out.blk_lt k e).1)) (Nat.le_refl _)).then_ ((Below.refl wA.heap.size w6).setCell (p := ⟨b2, 1, none⟩) hlo2 (.slice A6 (xt ++ [1000]).length c6)) (Nat.le_refl _))
    obtain ⟨L2, hL2⟩ : ∃ l, l = xt ++ [(1000 : Int)] := ⟨_, rfl⟩
    have hxl : L2.length = xt.length + 1 := by rw [hL2]; simp
    rw [← hL2] at HSz HFz
    rw [← hxl]
    have hl26 : L2.length ≤ 6 := by omega
    clear HSB5 HF5 ho6 hg6 hk16 hkf6 hL2 hxl
    obtain ⟨sa, HR1, HR2⟩ := HCL.out (w6.setCell ⟨b2, 1, none⟩ (.slice A6 L2.length c6)) HFz.out
    have sb := HSz.out
    have hp0 := sa.c0
    have hp1 := sa.c1
    have hp2 := sa.c2
    have hq0 := sb.c0
    have hq1 := sb.c1
    have hq2 := sb.c2
    have hlo := sb.lo
    have hlo2 := sa.lo
    have hla := sa.lt
    have hlb := sb.lt
    obtain ⟨r0, hr0⟩ := HR1.c0
    obtain ⟨r1, hr1⟩ := HR1.c1
    obtain ⟨r2, hr2⟩ := HR1.c2
    have hrf0 := HR1.f0
    have hrf1 := HR1.f1
    have hrf2 := HR1.f2
    have hrl := HR1.lt
    obtain ⟨t0, ht0⟩ := HR2.c0
    obtain ⟨t1, ht1⟩ := HR2.c1
    obtain ⟨t2, ht2⟩ := HR2.c2
    have htf0 := HR2.f0
    have htf1 := HR2.f1
    have htf2 := HR2.f2
    have htl := HR2.lt
    have hn1 : b ≠ w.heap.size := by omega
    have hn2 : b ≠ w.heap.size + 1 := by omega
    have hn3 : b2 ≠ w.heap.size := by omega
    have hn4 : b2 ≠ w.heap.size + 1 := by omega
    have hn5 : w.heap.size ≠ b := by omega
    have hn6 : w.heap.size + 1 ≠ b := by omega
    have hn7 : w.heap.size ≠ b2 := by omega
    have hn8 : w.heap.size + 1 ≠ b2 := by omega
    have HB0 := Lib.hid (HBw.out.trans (HFz.out.below HBw.out.size (by omega)))
    have HO1 := Lib.hid sa.ob
    have HO2 := Lib.hid sa.ot
    have HO3 := Lib.hid sb.ob
    have HO4 := Lib.hid sb.ot
    clear sa sb HR1 HR2 HFz HSz
    refine wp_region_noPanic ?_
    refine startS (S := (fun V => V.cell? ⟨b, 0, none⟩ = some (.slice Ab xb.length cb) ∧ V.cell? ⟨b, 1, none⟩ = some (.slice At xt.length ct) ∧ V.cell? ⟨b, 2, none⟩ = some (.int .i64 N) ∧ V.cell? ⟨b2, 0, none⟩ = some (.slice A2 xb.length c2) ∧ V.cell? ⟨b2, 1, none⟩ = some (.slice A6 L2.length c6) ∧ V.cell? ⟨b2, 2, none⟩ = some (.int .i64 N))) 4 (by kernel_rfl) (by kernel_rfl) ⟨hp0, hp1, hp2, hq0, hq1, hq2⟩ (fun hHeld => ?_)
    refine withS 4 [0, 1] (by as_aux_lemma => kernel_rfl) (by kernel_rfl) (by kernel_rfl) (fun _ _ _ _ _ h => h) ?_
    intro HFR HNS HSZ HQP
    focus
      refine takeS (i := 0) (v := ?_) HFR.out HNS.out HSZ.out HQP.out rfl (by kernel_rfl) (by kernel_rfl) (by decide) (by kernel_rfl) (Or.inl ⟨by rfl, ?_⟩) hHeld rfl (by dsimp only [List.set_cons_succ, List.set_cons_zero]) ?_
      rotate_left
      · intro w hSw; obtain ⟨sa0, sa1, sa2, sb0, sb1, sb2⟩ := hSw; go_simp; (try with_reducible rfl)
    focus
      refine takeS (i := 1) (v := ?_) HFR.out HNS.out HSZ.out HQP.out rfl (by kernel_rfl) (by kernel_rfl) (by decide) (by kernel_rfl) (Or.inl ⟨by rfl, ?_⟩) hHeld rfl (by dsimp only [List.set_cons_succ, List.set_cons_zero]) ?_
      rotate_left
      · intro w hSw; obtain ⟨sa0, sa1, sa2, sb0, sb1, sb2⟩ := hSw; go_simp; (try with_reducible rfl)
    refine callS (i := 2) HSZ.out (by kernel_rfl) (by kernel_rfl) rfl (fun K hK => ?_)
    go_simp
    refine hK.out _ _ (by obtain ⟨h0, h1, h2, h3, h4, h5⟩ := hHeld; exact ⟨cell3d hn5 h0, cell3d hn5 h1, cell3d hn5 h2, cell3d hn7 h3, cell3d hn7 h4, cell3d hn7 h5⟩) (fun hHeldN => ?_)
    clear hK K hHeld
    try simp only [Act.put, List.setIfInBounds_toArray, List.set_cons_zero, List.set_cons_succ]
    have hHeld := hHeldN
    clear hHeldN
    refine callS (i := 3) HSZ.out (by kernel_rfl) (by kernel_rfl) rfl (fun K hK => ?_)
    go_simp
    refine hK.out _ _ (by obtain ⟨h0, h1, h2, h3, h4, h5⟩ := hHeld; exact ⟨cell3d hn6 h0, cell3d hn6 h1, cell3d hn6 h2, cell3d hn8 h3, cell3d hn8 h4, cell3d hn8 h5⟩) (fun hHeldN => ?_)
    clear hK K hHeld
    try simp only [Act.put, List.setIfInBounds_toArray, List.set_cons_zero, List.set_cons_succ]
    have hHeld := hHeldN
    clear hHeldN
    refine doneS HSZ.out (by kernel_rfl) (by kernel_rfl) (NoPanic.normal ?_)
    all_goals
      go_wp2_with fail
      refine bodyPost_ret (v := .tuple #[.agg #[.slice Ab xb.length cb, .slice At xt.length ct, .int .i64 N], .agg #[.slice A2 xb.length c2, .slice A6 L2.length c6, .int .i64 N]]) (by simp [results, Tryd.results16, go_sem, hr0, hr1, hr2, ht0, ht1, ht2, hrl, htl]) rfl ⟨Ab, cb, xb, At, ct, xt, N, A2, c2, xb, A6, c6, L2, N, rfl, hxb, hxt, (by first | omega | (simp; omega)), (by first | omega | (simp; omega)), rd6 HO1.out (fun e => by have := (HO1.out.blk_lt _ e).1; omega) (fun e => by have := (HO1.out.blk_lt _ e).1; omega), rd6 HO2.out (fun e => by have := (HO2.out.blk_lt _ e).1; omega) (fun e => by have := (HO2.out.blk_lt _ e).1; omega), rd6 HO3.out (fun e => by have := (HO3.out.blk_lt _ e).1; omega) (fun e => by have := (HO3.out.blk_lt _ e).1; omega), rd6 HO4.out (fun e => by have := (HO4.out.blk_lt _ e).1; omega) (fun e => by have := (HO4.out.blk_lt _ e).1; omega), bel6 HB0.out (Nat.le_refl _) (Nat.le_succ _)⟩
  have f2 : (q == 2) = false := by rw [beq_eq_false_iff_ne]; exact z2
  have HSz := HSB5
  have HFz := HF5
  clear HSB5 HF5
  go_upto_region 11 with fail
  obtain ⟨sa, HR1, HR2⟩ := HCL.out w5 HFz.out
  have sb := HSz.out
  have hp0 := sa.c0
  have hp1 := sa.c1
  have hp2 := sa.c2
  have hq0 := sb.c0
  have hq1 := sb.c1
  have hq2 := sb.c2
  have hlo := sb.lo
  have hlo2 := sa.lo
  have hla := sa.lt
  have hlb := sb.lt
  obtain ⟨r0, hr0⟩ := HR1.c0
  obtain ⟨r1, hr1⟩ := HR1.c1
  obtain ⟨r2, hr2⟩ := HR1.c2
  have hrf0 := HR1.f0
  have hrf1 := HR1.f1
  have hrf2 := HR1.f2
  have hrl := HR1.lt
  obtain ⟨t0, ht0⟩ := HR2.c0
  obtain ⟨t1, ht1⟩ := HR2.c1
  obtain ⟨t2, ht2⟩ := HR2.c2
  have htf0 := HR2.f0
  have htf1 := HR2.f1
  have htf2 := HR2.f2
  have htl := HR2.lt
  have hn1 : b ≠ w.heap.size := by omega
  have hn2 : b ≠ w.heap.size + 1 := by omega
  have hn3 : b2 ≠ w.heap.size := by omega
  have hn4 : b2 ≠ w.heap.size + 1 := by omega
  have hn5 : w.heap.size ≠ b := by omega
  have hn6 : w.heap.size + 1 ≠ b := by omega
  have hn7 : w.heap.size ≠ b2 := by omega
  have hn8 : w.heap.size + 1 ≠ b2 := by omega
  have HB0 := Lib.hid (HBw.out.trans (HFz.out.below HBw.out.size (by omega)))
  have HO1 := Lib.hid sa.ob
  have HO2 := Lib.hid sa.ot
  have HO3 := Lib.hid sb.ob
  have HO4 := Lib.hid sb.ot
  clear sa sb HR1 HR2 HFz HSz
  refine wp_region_noPanic ?_
  refine startS (S := (fun V => V.cell? ⟨b, 0, none⟩ = some (.slice Ab xb.length cb) ∧ V.cell? ⟨b, 1, none⟩ = some (.slice At xt.length ct) ∧ V.cell? ⟨b, 2, none⟩ = some (.int .i64 N) ∧ V.cell? ⟨b2, 0, none⟩ = some (.slice A2 xb.length c2) ∧ V.cell? ⟨b2, 1, none⟩ = some (.slice A3 xt.length c3) ∧ V.cell? ⟨b2, 2, none⟩ = some (.int .i64 N))) 4 (by kernel_rfl) (by kernel_rfl) ⟨hp0, hp1, hp2, hq0, hq1, hq2⟩ (fun hHeld => ?_)
  refine withS 4 [0, 1] (by as_aux_lemma => kernel_rfl) (by kernel_rfl) (by kernel_rfl) (fun _ _ _ _ _ h => h) ?_
  intro HFR HNS HSZ HQP
  focus
    refine takeS (i := 0) (v := ?_) HFR.out HNS.out HSZ.out HQP.out rfl (by kernel_rfl) (by kernel_rfl) (by decide) (by kernel_rfl) (Or.inl ⟨by rfl, ?_⟩) hHeld rfl (by dsimp only [List.set_cons_succ, List.set_cons_zero]) ?_
    rotate_left
    · intro w hSw; obtain ⟨sa0, sa1, sa2, sb0, sb1, sb2⟩ := hSw; go_simp; (try with_reducible rfl)
  focus
    refine takeS (i := 1) (v := ?_) HFR.out HNS.out HSZ.out HQP.out rfl (by kernel_rfl) (by kernel_rfl) (by decide) (by kernel_rfl) (Or.inl ⟨by rfl, ?_⟩) hHeld rfl (by dsimp only [List.set_cons_succ, List.set_cons_zero]) ?_
    rotate_left
    · intro w hSw; obtain ⟨sa0, sa1, sa2, sb0, sb1, sb2⟩ := hSw; go_simp; (try with_reducible rfl)
  refine callS (i := 2) HSZ.out (by kernel_rfl) (by kernel_rfl) rfl (fun K hK => ?_)
  go_simp
  refine hK.out _ _ (by obtain ⟨h0, h1, h2, h3, h4, h5⟩ := hHeld; exact ⟨cell3d hn5 h0, cell3d hn5 h1, cell3d hn5 h2, cell3d hn7 h3, cell3d hn7 h4, cell3d hn7 h5⟩) (fun hHeldN => ?_)
  clear hK K hHeld
  try simp only [Act.put, List.setIfInBounds_toArray, List.set_cons_zero, List.set_cons_succ]
  have hHeld := hHeldN
  clear hHeldN
  refine callS (i := 3) HSZ.out (by kernel_rfl) (by kernel_rfl) rfl (fun K hK => ?_)
  go_simp
  refine hK.out _ _ (by obtain ⟨h0, h1, h2, h3, h4, h5⟩ := hHeld; exact ⟨cell3d hn6 h0, cell3d hn6 h1, cell3d hn6 h2, cell3d hn8 h3, cell3d hn8 h4, cell3d hn8 h5⟩) (fun hHeldN => ?_)
  clear hK K hHeld
  try simp only [Act.put, List.setIfInBounds_toArray, List.set_cons_zero, List.set_cons_succ]
  have hHeld := hHeldN
  clear hHeldN
  refine doneS HSZ.out (by kernel_rfl) (by kernel_rfl) (NoPanic.normal ?_)
  all_goals
    go_wp2_with fail
    refine bodyPost_ret (v := .tuple #[.agg #[.slice Ab xb.length cb, .slice At xt.length ct, .int .i64 N], .agg #[.slice A2 xb.length c2, .slice A3 xt.length c3, .int .i64 N]]) (by simp [results, Tryd.results16, go_sem, hr0, hr1, hr2, ht0, ht1, ht2, hrl, htl]) rfl ⟨Ab, cb, xb, At, ct, xt, N, A2, c2, xb, A3, c3, xt, N, rfl, hxb, hxt, (by first | omega | (simp; omega)), (by first | omega | (simp; omega)), rd6 HO1.out (fun e => by have := (HO1.out.blk_lt _ e).1; omega) (fun e => by have := (HO1.out.blk_lt _ e).1; omega), rd6 HO2.out (fun e => by have := (HO2.out.blk_lt _ e).1; omega) (fun e => by have := (HO2.out.blk_lt _ e).1; omega), rd6 HO3.out (fun e => by have := (HO3.out.blk_lt _ e).1; omega) (fun e => by have := (HO3.out.blk_lt _ e).1; omega), rd6 HO4.out (fun e => by have := (HO4.out.blk_lt _ e).1; omega) (fun e => by have := (HO4.out.blk_lt _ e).1; omega), bel6 HB0.out (Nat.le_refl _) (Nat.le_succ _)⟩
end Go.Proofs.YtamhkiakplmlmaaDoor
