/-
  Draws of scaffolds: a scaffold in its box; l22Draw.
-/
import Derived.Test.YtamhkiakplmlmaaDoorSrc3
import Derived.Test.YtamhkiakplmlmaaDoorSteps
import Derived.Deep.CutRange
import Derived.Deep.RegionHeld3
import Derived.RegionTactic
import Derived.BigRegion
namespace Go.Proofs.YtamhkiakplmlmaaDoor
open Go.ChangeShapes Go.WideShapes Go.RowKit

/-- a scaffold in its box, its slices the call's own and apart -/
structure Sc (w : World) (b base : Nat) (Ab : Option Addr) (cb : Nat) (xb : List Int) (At : Option Addr) (ct : Nat) (xt : List Int) (n : Int) : Prop where
  c0 : w.cell? ⟨b, 0, none⟩ = some (.slice Ab xb.length cb)
  c1 : w.cell? ⟨b, 1, none⟩ = some (.slice At xt.length ct)
  c2 : w.cell? ⟨b, 2, none⟩ = some (.int .i64 n)
  f0 : w.frozen? ⟨b, 0, none⟩ = false
  f1 : w.frozen? ⟨b, 1, none⟩ = false
  f2 : w.frozen? ⟨b, 2, none⟩ = false
  ob : Own LI 2 w base Ab cb xb
  ot : Own LI 2 w base At ct xt
  ap : Ap Ab At
  nb : blk Ab ≠ some b
  nt : blk At ≠ some b
  lo : base ≤ b
  lt : b < w.heap.size
theorem cell_setC {w : World} {g g' i j : Nat} (v : Value) (h : ¬ (g = g' ∧ j = i)) : (w.setCell ⟨g', i, none⟩ v).cell? ⟨g, j, none⟩ = w.cell? ⟨g, j, none⟩ := World.cell?_setCell_other w _ _ v (fun e => h (by injection e with h1 h2 _; exact ⟨h1.symm, h2.symm⟩))
theorem cell_setE {w : World} {g i : Nat} {u : Value} (v : Value) (h : w.cell? ⟨g, i, none⟩ = some u) : (w.setCell ⟨g, i, none⟩ v).cell? ⟨g, i, none⟩ = some v := World.cell?_setCell_same' _ _ _ (by rw [h]; rfl)
section
variable {w w' : World} {b base cb ct g : Nat} {Ab At A' : Option Addr} {xb xt L : List Int} {n : Int}
theorem Sc.below (h : Sc w b base Ab cb xb At ct xt n) (hb : Below w.heap.size w w') : Sc w' b base Ab cb xb At ct xt n := by
  have hl := h.lt
  exact ⟨(hb.cell (p := ⟨b, 0, none⟩) hl).trans h.c0, (hb.cell (p := ⟨b, 1, none⟩) hl).trans h.c1, (hb.cell (p := ⟨b, 2, none⟩) hl).trans h.c2, (hb.frozen (p := ⟨b, 0, none⟩) hl).trans h.f0, (hb.frozen (p := ⟨b, 1, none⟩) hl).trans h.f1, (hb.frozen (p := ⟨b, 2, none⟩) hl).trans h.f2, h.ob.below hb, h.ot.below hb, h.ap, h.nb, h.nt, h.lo, by have := hb.size; omega⟩
theorem Sc.al (h : Sc w b base Ab cb xb At ct xt n) (o : Obj) : Sc (w.alloc o) b base Ab cb xb At ct xt n := h.below ((Below.refl _ _).alloc (Nat.le_refl _) _)
theorem Sc.dr (h : Sc w b base Ab cb xb At ct xt n) : Sc w.drew b base Ab cb xb At ct xt n := ⟨h.c0, h.c1, h.c2, h.f0, h.f1, h.f2, h.ob, h.ot, h.ap, h.nb, h.nt, h.lo, h.lt⟩
theorem Sc.fs (h : Sc w b base Ab cb xb At ct xt n) (hF : Fs g w w') (hg : g < base) : Sc w' b base Ab cb xb At ct xt n := by
  have hl := h.lt
  have hn : b ≠ g := by have := h.lo; omega
  exact ⟨(hF.cell ⟨b, 0, none⟩ hl hn).trans h.c0, (hF.cell ⟨b, 1, none⟩ hl hn).trans h.c1, (hF.cell ⟨b, 2, none⟩ hl hn).trans h.c2, (hF.frozen ⟨b, 0, none⟩ hl hn).trans h.f0, (hF.frozen ⟨b, 1, none⟩ hl hn).trans h.f1, (hF.frozen ⟨b, 2, none⟩ hl hn).trans h.f2,
    hF.own h.ob (fun e => by have := (h.ob.blk_lt g e).1; omega), hF.own h.ot (fun e => by have := (h.ot.blk_lt g e).1; omega), h.ap, h.nb, h.nt, h.lo, by have := hF.size; omega⟩
/-- 'x.Bays = ..' -/
theorem Sc.put0 {c' : Nat} (h : Sc w b base Ab cb xb At ct xt n) (ho : Own LI 2 w base A' c' L) (ha : Ap A' At) (hn : blk A' ≠ some b) : Sc (w.setCell ⟨b, 0, none⟩ (.slice A' L.length c')) b base A' c' L At ct xt n :=
  ⟨cell_setE _ h.c0, (cell_setC _ (by omega)).trans h.c1, (cell_setC _ (by omega)).trans h.c2, by simpa using h.f0, by simpa using h.f1, by simpa using h.f2, ho.setFar hn _, h.ot.setFar h.nt _, ha, hn, h.nt, h.lo, by have := h.lt; simpa using this⟩
theorem Sc.put1 {c' : Nat} (h : Sc w b base Ab cb xb At ct xt n) (ho : Own LI 2 w base A' c' L) (ha : Ap Ab A') (hn : blk A' ≠ some b) : Sc (w.setCell ⟨b, 1, none⟩ (.slice A' L.length c')) b base Ab cb xb A' c' L n :=
  ⟨(cell_setC _ (by omega)).trans h.c0, cell_setE _ h.c1, (cell_setC _ (by omega)).trans h.c2, by simpa using h.f0, by simpa using h.f1, by simpa using h.f2, h.ob.setFar h.nb _, ho.setFar hn _, ha, h.nb, hn, h.lo, by have := h.lt; simpa using this⟩
theorem Sc.num (h : Sc w b base Ab cb xb At ct xt n) (v : Int) : Sc (w.setCell ⟨b, 2, none⟩ (.int .i64 v)) b base Ab cb xb At ct xt v :=
  ⟨(cell_setC _ (by omega)).trans h.c0, (cell_setC _ (by omega)).trans h.c1, cell_setE _ h.c2, by simpa using h.f0, by simpa using h.f1, by simpa using h.f2, h.ob.setFar h.nb _, h.ot.setFar h.nt _, h.ap, h.nb, h.nt, h.lo, by have := h.lt; simpa using this⟩
/-- 'x.Bays = append(x.Bays, ..)' -/
theorem Sc.app0 {c' : Nat} (h : Sc w b base Ab cb xb At ct xt n) (ho : Own LI 2 w' base A' c' L) (hg : Grew w w' Ab A') : Sc (w'.setCell ⟨b, 0, none⟩ (.slice A' L.length c')) b base A' c' L At ct xt n := by
  have hl := h.lt
  obtain ⟨h1, h2⟩ := hg.own h.ot h.ap.symm
  have hn : blk A' ≠ some b := by
    rcases hg.place with e | e
    · rw [e]; exact h.nb
    · intro e2; have := e b e2; omega
  exact ⟨cell_setE _ ((hg.cell ⟨b, 0, none⟩ hl h.nb).trans h.c0), (cell_setC _ (by omega)).trans ((hg.cell ⟨b, 1, none⟩ hl h.nb).trans h.c1), (cell_setC _ (by omega)).trans ((hg.cell ⟨b, 2, none⟩ hl h.nb).trans h.c2), by simpa using (hg.frozen ⟨b, 0, none⟩ hl h.nb).trans h.f0, by simpa using (hg.frozen ⟨b, 1, none⟩ hl h.nb).trans h.f1, by simpa using (hg.frozen ⟨b, 2, none⟩ hl h.nb).trans h.f2,
    ho.setFar hn _, h1.setFar h.nt _, fun g e1 e2 => h2 g e2 e1, hn, h.nt, h.lo, by have := hg.size; simp; omega⟩
theorem Sc.app1 {c' : Nat} (h : Sc w b base Ab cb xb At ct xt n) (ho : Own LI 2 w' base A' c' L) (hg : Grew w w' At A') : Sc (w'.setCell ⟨b, 1, none⟩ (.slice A' L.length c')) b base Ab cb xb A' c' L n := by
  have hl := h.lt
  obtain ⟨h1, h2⟩ := hg.own h.ob h.ap
  have hn : blk A' ≠ some b := by
    rcases hg.place with e | e
    · rw [e]; exact h.nt
    · intro e2; have := e b e2; omega
  exact ⟨(cell_setC _ (by omega)).trans ((hg.cell ⟨b, 0, none⟩ hl h.nt).trans h.c0), cell_setE _ ((hg.cell ⟨b, 1, none⟩ hl h.nt).trans h.c1), (cell_setC _ (by omega)).trans ((hg.cell ⟨b, 2, none⟩ hl h.nt).trans h.c2), by simpa using (hg.frozen ⟨b, 0, none⟩ hl h.nt).trans h.f0, by simpa using (hg.frozen ⟨b, 1, none⟩ hl h.nt).trans h.f1, by simpa using (hg.frozen ⟨b, 2, none⟩ hl h.nt).trans h.f2,
    h1.setFar h.nb _, ho.setFar hn _, h2, h.nb, hn, h.lo, by have := hg.size; simp; omega⟩
/-- 'x.Bays[0] = ..' -/
theorem Sc.in0 {G : Nat} (h : Sc w b base (some ⟨G, 0, none⟩) cb xb At ct xt n) (k : Nat) (v : Int) : Sc (w.setCell ⟨G, k, none⟩ (.int .i64 v)) b base (some ⟨G, 0, none⟩) cb (xb.set k v) At ct xt n := by
  have hne : b ≠ G := fun e => h.nb (by rw [e]; rfl)
  exact ⟨by rw [List.length_set]; exact (cell_setC _ (by omega)).trans h.c0, (cell_setC _ (by omega)).trans h.c1, (cell_setC _ (by omega)).trans h.c2, by simpa using h.f0, by simpa using h.f1, by simpa using h.f2, h.ob.setInt k v, h.ot.setFar (fun e => h.ap G rfl e) _, h.ap, h.nb, h.nt, h.lo, by have := h.lt; simpa using this⟩
theorem Sc.in1 {G : Nat} (h : Sc w b base Ab cb xb (some ⟨G, 0, none⟩) ct xt n) (k : Nat) (v : Int) : Sc (w.setCell ⟨G, k, none⟩ (.int .i64 v)) b base Ab cb xb (some ⟨G, 0, none⟩) ct (xt.set k v) n := by
  have hne : b ≠ G := fun e => h.nt (by rw [e]; rfl)
  exact ⟨(cell_setC _ (by omega)).trans h.c0, by rw [List.length_set]; exact (cell_setC _ (by omega)).trans h.c1, (cell_setC _ (by omega)).trans h.c2, by simpa using h.f0, by simpa using h.f1, by simpa using h.f2, h.ob.setFar (fun e => h.ap G e rfl) _, h.ot.setInt k v, h.ap, h.nb, h.nt, h.lo, by have := h.lt; simpa using this⟩
end
/-- the result's box lies ready -/
structure RB (w : World) (r : Nat) : Prop where
  c0 : ∃ u, w.cell? ⟨r, 0, none⟩ = some u
  c1 : ∃ u, w.cell? ⟨r, 1, none⟩ = some u
  c2 : ∃ u, w.cell? ⟨r, 2, none⟩ = some u
  f0 : w.frozen? ⟨r, 0, none⟩ = false
  f1 : w.frozen? ⟨r, 1, none⟩ = false
  f2 : w.frozen? ⟨r, 2, none⟩ = false
  lt : r < w.heap.size
theorem RB.belowB {w w' : World} {r B : Nat} (h : RB w r) (hb : Below B w w') (hr : r < B) : RB w' r := by
  obtain ⟨u0, h0⟩ := h.c0
  obtain ⟨u1, h1⟩ := h.c1
  obtain ⟨u2, h2⟩ := h.c2
  exact ⟨⟨u0, (hb.cell (p := ⟨r, 0, none⟩) hr).trans h0⟩, ⟨u1, (hb.cell (p := ⟨r, 1, none⟩) hr).trans h1⟩, ⟨u2, (hb.cell (p := ⟨r, 2, none⟩) hr).trans h2⟩, (hb.frozen (p := ⟨r, 0, none⟩) hr).trans h.f0, (hb.frozen (p := ⟨r, 1, none⟩) hr).trans h.f1, (hb.frozen (p := ⟨r, 2, none⟩) hr).trans h.f2, by have := h.lt; have := hb.size; omega⟩
theorem RB.fs {w w' : World} {r g : Nat} (h : RB w r) (hF : Fs g w w') (hn : r ≠ g) : RB w' r := by
  have hl := h.lt
  obtain ⟨u0, h0⟩ := h.c0
  obtain ⟨u1, h1⟩ := h.c1
  obtain ⟨u2, h2⟩ := h.c2
  exact ⟨⟨u0, (hF.cell ⟨r, 0, none⟩ hl hn).trans h0⟩, ⟨u1, (hF.cell ⟨r, 1, none⟩ hl hn).trans h1⟩, ⟨u2, (hF.cell ⟨r, 2, none⟩ hl hn).trans h2⟩, (hF.frozen ⟨r, 0, none⟩ hl hn).trans h.f0, (hF.frozen ⟨r, 1, none⟩ hl hn).trans h.f1, (hF.frozen ⟨r, 2, none⟩ hl hn).trans h.f2, by have := hF.size; omega⟩
theorem Grew.below' {w w' : World} {A A' : Option Addr} {B : Nat} (h : Grew w w' A A') (hB : B ≤ w.heap.size) (hA : ∀ b, blk A = some b → B ≤ b) : Below B w w' := Grew.below (Below.refl B w) h hB hA
def DrewSc (g : Nat) (A : Option Addr) (c : Nat) (cs : List Int) (m : Nat) (p q : Nat) (w : World) (e : Ending) (w' : World) : Prop :=
  ∃ (Ab : Option Addr) (cb : Nat) (xb : List Int) (At : Option Addr) (ct : Nat) (xt : List Int) (n : Int), e = .returned (.agg #[.slice Ab xb.length cb, .slice At xt.length ct, .int .i64 n]) ∧ xb.length ≤ p ∧ xt.length ≤ q ∧ 0 < xb.length ∧ 0 < xt.length ∧ Own LI 2 w' w.heap.size Ab cb xb ∧ Own LI 2 w' w.heap.size At ct xt ∧ Ap Ab At ∧ Sr w' g A c cs m ∧ Fs g w w'

set_option maxRecDepth 100000 in
set_option maxHeartbeats 6400000 in
theorem l22Draw_any (g : Nat) (A : Option Addr) (c : Nat) (cs : List Int) (m : Nat) (w : World) (h : Sr w g A c cs m) (hm : m ≤ 1000000) :
    Calls Tryd.prog 42 #[.pointer (some ⟨g, 0, none⟩)] w (DrewSc g A c cs (m + 40) 6 5 w) := by
  have hg := h.g1
  obtain ⟨o1, ho1⟩ : ∃ o : Obj, o = .cells #[.slice none 0 0, .slice none 0 0, .int .i64 0] 26 := ⟨_, rfl⟩
  have hb0 : Below w.heap.size w (((w.alloc (.cells #[.slice none 0 0, .slice none 0 0, .int .i64 0] 26)).alloc (.cells #[] 2)).alloc (.cells #[] 2)) := (((Below.refl _ w).alloc (Nat.le_refl _) _).alloc (by simp) _).alloc (by simp; omega) _
  have hB := (Own.lit0 (L := LI) (T := 2) (base := w.heap.size + 1) (g := w.heap.size + 1) (w.alloc (.cells #[.slice none 0 0, .slice none 0 0, .int .i64 0] 26)) (by simp) (by simp)).alloc (.cells #[] 2)
  have hT := Own.lit0 (L := LI) (T := 2) (base := w.heap.size + 1) (g := w.heap.size + 2) ((w.alloc (.cells #[.slice none 0 0, .slice none 0 0, .int .i64 0] 26)).alloc (.cells #[] 2)) (by simp) (by simp)
  have hR : RB (((w.alloc (.cells #[.slice none 0 0, .slice none 0 0, .int .i64 0] 26)).alloc (.cells #[] 2)).alloc (.cells #[] 2)) w.heap.size := ⟨⟨.slice none 0 0, by go_simp⟩, ⟨.slice none 0 0, by go_simp⟩, ⟨.int .i64 0, by go_simp⟩, by go_simp, by go_simp, by go_simp, by simp; omega⟩
  have hc := pick_any 12 g A c cs m _ (h.belowB hb0 hg) (by omega) (by omega)
  clear h ho1
  go_enter Tryd.func42, Tryd.ntmps42
  go_wp2_with fail
  refine hc.mono ?_
  rintro e w1 ⟨x, rfl, x0, x1, hS, hF⟩
  have hs1 := hF.size
  simp at hs1
  obtain ⟨N, hN⟩ : ∃ N, N = 50 * (1 + x) := ⟨_, rfl⟩
  have hR1 := hR.fs hF (by omega)
  have hB1 := hF.own hB (fun e => by have := (hB.blk_lt g e).1; omega)
  have hT1 := hF.own hT (fun e => by have := (hT.blk_lt g e).1; omega)
  have hF1 := (Fs.of_below (g := g) hb0).trans hF
  have hb1 : Below w1.heap.size w1 (w1.alloc (.cells #[.slice (some ⟨w.heap.size + 1, 0, none⟩) 0 0, .slice (some ⟨w.heap.size + 2, 0, none⟩) 0 0, .int .i64 N] 26)) := (Below.refl _ w1).alloc (Nat.le_refl _) _
  have HSC := Lib.hid (show Sc (w1.alloc (.cells #[.slice (some ⟨w.heap.size + 1, 0, none⟩) 0 0, .slice (some ⟨w.heap.size + 2, 0, none⟩) 0 0, .int .i64 N] 26)) w1.heap.size (w.heap.size + 1) (some ⟨w.heap.size + 1, 0, none⟩) 0 [] (some ⟨w.heap.size + 2, 0, none⟩) 0 [] N from
    ⟨by go_simp, by go_simp, by go_simp, by go_simp, by go_simp, by go_simp, hB1.below hb1, hT1.below hb1, by intro g h1 h2; simp [blk] at h1 h2; omega, by intro e; simp [blk] at e; omega, by intro e; simp [blk] at e; omega, by omega, by simp⟩)
  have HRB := Lib.hid (hR1.belowB hb1 (by omega))
  have HS := Lib.hid (hS.below hb1)
  have HF := Lib.hid (hF1.then_ hb1 (by omega))
  have hc2 := pick_any 6 g A c cs _ _ HS.out (by omega) (by omega)
  clear hc hS hF hR hR1 hB hT hB1 hT1 hF1 hb1 hb0 HS
  go_wp2_with fail
  rw [← hN]
  clear hN x0 x1
  refine hc2.mono ?_
  rintro e w2 ⟨y, rfl, y0, y1, hS, hF⟩
  obtain ⟨K1, hK1⟩ : ∃ K : Nat, (K : Int) = 1 + y := ⟨(1 + y).toNat, by omega⟩
  have hK6 : K1 ≤ 6 ∧ 1 ≤ K1 := by omega
  have HSC2 := Lib.hid (HSC.out.fs hF (by omega))
  have HRB2 := Lib.hid (HRB.out.fs hF (by omega))
  have HS := Lib.hid hS
  have HF2 := Lib.hid (HF.out.trans hF)
  clear hc2 hS hF HSC HRB HF
  have HSC := HSC2
  have HRB := HRB2
  have HF := HF2
  clear HSC2 HRB2 HF2
  obtain ⟨b, hb⟩ : ∃ b, b = w1.heap.size := ⟨_, rfl⟩
  rw [← hb] at HSC
  go_wp2_with fail
  rw [← hK1, ← hb]
  clear hK1 y0 y1 hb
  go_loopw [4] (fun i wr => ∃ (L : List Int) (A1 : Option Addr) (c1 : Nat), L.length ≤ K1 ∧ i = .int .i64 ((K1 : Int) - L.length) ∧ Hid (Sc wr b (w.heap.size + 1) A1 c1 L (some ⟨w.heap.size + 2, 0, none⟩) 0 [] N) ∧ Hid (RB wr w.heap.size) ∧ Hid (Sr wr g A c cs (m + 4 + 2 * L.length)) ∧ Hid (Fs g w wr)) (fun i _ => (intOf i).toNat)
  case atStart => exact ⟨[], _, _, by simp, by go_num, HSC, HRB, HS, HF⟩
  case round =>
    clear HSC HRB HS HF
    obtain ⟨L, A1, c1, hj, rfl, HSC, HRB, HS, HF⟩ := hrel
    have hfs := HF.out.size
    have hbl := HSC.out.lo
    have hbt := HSC.out.lt
    by_cases hlt : L.length < K1
    · have hki : (0 : Int) < (K1 : Int) - L.length := by omega
      have hl6 : L.length < 6 := by omega
      have HSd := Lib.hid HS.out.dr
      have HCd := Lib.hid HSC.out.dr
      have HFd := Lib.hid HF.out.drew
      have hc0 := HSC.out.c0
      have hf0 := HSC.out.f0
      have hnn := HSC.out.ob.blk_lt
      clear HS HF
      go_upto_region 5 with fail
      go_region_law (first
        | (go_simp; go_at_call 30; refine (pick_any 26 g A c cs _ _ HSd.out (by omega) (by omega)).mono ?_; rintro e w6 ⟨v, rfl, v0, v1, hS, hF⟩; have hs6 := hF.size; (try simp at hs6); obtain ⟨u, hu⟩ : ∃ u, u = 500 + 100 * v := ⟨_, rfl⟩; have e1 : IntKind.i64.wrap (100 * v) = 100 * v := wrapS (by omega) (by omega); have e3 : IntKind.i64.wrap (500 + IntKind.i64.wrap (100 * v)) = u := (by rw [e1, hu]; exact wrapS (by omega) (by omega)); have e2 : IntKind.i64.wrap (500 + 100 * v) = u := (by rw [hu]; exact wrapS (by omega) (by omega)); have HC6 := Lib.hid (HCd.out.fs hF (by omega)); have HA6 := Lib.hid (HC6.out.al (.cells #[.int .i64 u] 2)); have HR6 := Lib.hid ((HRB.out.belowB (Below.refl _ _).drew HRB.out.lt).fs hF (by omega)); have HF6 := Lib.hid (HFd.out.trans hF); have HS6 := Lib.hid hS; have hcG6 := HC6.out.c0; have hcH6 := (fun o => (HC6.out.al o).c0); have hfG6 := HC6.out.f0; clear hS hF hu e1 v0 v1)
        | (refine stepL_app1 (L := LI) rowI rfl rfl _ _ rfl rfl HA6.out.ob u rfl ?_ (by unfold maxLen; omega) (by omega) (by simp; omega) ?_; (focus (intro j v hv; cases j <;> simp [LI] at hv; subst hv; go_simp)); intro A7 c7 w7 ho7 hg7; have hcG7 := (hg7.cell ⟨b, 0, none⟩ HA6.out.lt HA6.out.nb).trans HA6.out.c0; have hfG7 := (hg7.frozen ⟨b, 0, none⟩ HA6.out.lt HA6.out.nb).trans HA6.out.f0))
      all_goals
        as_aux_lemma =>
        have hbz : Below (w.heap.size + 1) w6 (w7.setCell ⟨b, 0, none⟩ (.slice A7 (L ++ [u]).length c7)) := (((Below.refl (w.heap.size + 1) w6).alloc (by omega) _).trans (hg7.below' (by simp; omega) (fun q e => (hnn q e).1))).setCell (p := ⟨b, 0, none⟩) hbl _
        have HC7 := Lib.hid (HA6.out.app0 ho7 hg7)
        have HR7 := Lib.hid (HR6.out.belowB hbz (by omega))
        have HS7 := Lib.hid ((HS6.out.belowB hbz (by omega)).more (show m + 4 + 2 * L.length + 2 ≤ m + 4 + 2 * (L ++ [u]).length by simp; omega))
        have HF7 := Lib.hid (HF6.out.then_ hbz (by omega))
        clear hbz e2 e3
        simp only [List.length_append, List.length_singleton] at HC7 HR7 HF7
        go_wp2_with fail
        go_roundw
        case rel => exact ⟨L ++ [u], A7, c7, by simp; omega, by go_num, by simpa using HC7, HR7, by simpa using HS7, HF7⟩
        case measure => simp [intOf]; omega
    · have hki : (K1 : Int) - L.length ≤ 0 := by omega
      obtain ⟨A0, rfl⟩ : ∃ q, q = A1 := ⟨_, rfl⟩
      obtain ⟨c0, rfl⟩ : ∃ q, q = c1 := ⟨_, rfl⟩
      obtain ⟨L0, rfl⟩ : ∃ q, q = L := ⟨_, rfl⟩
      have hL0 : L0.length ≤ 6 := by omega
      have hL1 : 0 < L0.length := by omega
      obtain ⟨wq, rfl⟩ : ∃ q, q = wr := ⟨_, rfl⟩
      have hc3 := pick_any 5 g A c cs _ _ HS.out (by omega) (by omega)
      clear HS
      go_wp2_with fail
      refine hc3.mono ?_
      rintro e w3 ⟨z, rfl, z0, z1, hS, hF⟩
      obtain ⟨K2, hK2⟩ : ∃ K : Nat, (K : Int) = 1 + z := ⟨(1 + z).toNat, by omega⟩
      have hK5 : K2 ≤ 5 ∧ 1 ≤ K2 := by omega
      have HSC2 := Lib.hid (HSC.out.fs hF (by omega))
      have HRB2 := Lib.hid (HRB.out.fs hF (by omega))
      have HS2 := Lib.hid (hS.more (show m + 4 + 2 * L0.length + 2 ≤ m + 18 + 2 * 0 by omega))
      have HF2 := Lib.hid (HF.out.trans hF)
      clear hc3 hS hF HSC HRB HF
      have HSC := HSC2
      have HRB := HRB2
      have HS := HS2
      have HF := HF2
      clear HSC2 HRB2 HS2 HF2 hlt hki hj
      go_wp2_with fail
      rw [← hK2]
      clear hK2 z0 z1
      go_loopw [5] (fun i wr => ∃ (L : List Int) (A1 : Option Addr) (c1 : Nat), L.length ≤ K2 ∧ i = .int .i64 ((K2 : Int) - L.length) ∧ Hid (Sc wr b (w.heap.size + 1) A0 c0 L0 A1 c1 L N) ∧ Hid (RB wr w.heap.size) ∧ Hid (Sr wr g A c cs (m + 18 + 2 * L.length)) ∧ Hid (Fs g w wr)) (fun i _ => (intOf i).toNat)
      case atStart => exact ⟨[], _, _, by simp, by go_num, HSC, HRB, HS, HF⟩
      case round =>
        clear HSC HRB HS HF
        obtain ⟨L, A1, c1, hj, rfl, HSC, HRB, HS, HF⟩ := hrel
        have hfs := HF.out.size
        have hbl := HSC.out.lo
        have hbt := HSC.out.lt
        by_cases hlt : L.length < K2
        · have hki : (0 : Int) < (K2 : Int) - L.length := by omega
          have hl6 : L.length < 6 := by omega
          have HSd := Lib.hid HS.out.dr
          have HCd := Lib.hid HSC.out.dr
          have HFd := Lib.hid HF.out.drew
          have hc0 := HSC.out.c1
          have hf0 := HSC.out.f1
          have hnn := HSC.out.ot.blk_lt
          clear HS HF
          go_upto_region 9 with fail
          go_region_law (first
            | (go_simp; go_at_call 30; refine (pick_any 16 g A c cs _ _ HSd.out (by omega) (by omega)).mono ?_; rintro e w6 ⟨v, rfl, v0, v1, hS, hF⟩; have hs6 := hF.size; (try simp at hs6); obtain ⟨u, hu⟩ : ∃ u, u = 1000 + 100 * v := ⟨_, rfl⟩; have e1 : IntKind.i64.wrap (100 * v) = 100 * v := wrapS (by omega) (by omega); have e3 : IntKind.i64.wrap (1000 + IntKind.i64.wrap (100 * v)) = u := (by rw [e1, hu]; exact wrapS (by omega) (by omega)); have e2 : IntKind.i64.wrap (1000 + 100 * v) = u := (by rw [hu]; exact wrapS (by omega) (by omega)); have HC6 := Lib.hid (HCd.out.fs hF (by omega)); have HA6 := Lib.hid (HC6.out.al (.cells #[.int .i64 u] 2)); have HR6 := Lib.hid ((HRB.out.belowB (Below.refl _ _).drew HRB.out.lt).fs hF (by omega)); have HF6 := Lib.hid (HFd.out.trans hF); have HS6 := Lib.hid hS; have hcG6 := HC6.out.c1; have hcH6 := (fun o => (HC6.out.al o).c1); have hfG6 := HC6.out.f1; clear hS hF hu e1 v0 v1)
            | (refine stepL_app1 (L := LI) rowI rfl rfl _ _ rfl rfl HA6.out.ot u rfl ?_ (by unfold maxLen; omega) (by omega) (by simp; omega) ?_; (focus (intro j v hv; cases j <;> simp [LI] at hv; subst hv; go_simp)); intro A7 c7 w7 ho7 hg7; have hcG7 := (hg7.cell ⟨b, 1, none⟩ HA6.out.lt HA6.out.nt).trans HA6.out.c1; have hfG7 := (hg7.frozen ⟨b, 1, none⟩ HA6.out.lt HA6.out.nt).trans HA6.out.f1))
          all_goals
            as_aux_lemma =>
            have hbz : Below (w.heap.size + 1) w6 (w7.setCell ⟨b, 1, none⟩ (.slice A7 (L ++ [u]).length c7)) := (((Below.refl (w.heap.size + 1) w6).alloc (by omega) _).trans (hg7.below' (by simp; omega) (fun q e => (hnn q e).1))).setCell (p := ⟨b, 1, none⟩) hbl _
            have HC7 := Lib.hid (HA6.out.app1 ho7 hg7)
            have HR7 := Lib.hid (HR6.out.belowB hbz (by omega))
            have HS7 := Lib.hid ((HS6.out.belowB hbz (by omega)).more (show m + 18 + 2 * L.length + 2 ≤ m + 18 + 2 * (L ++ [u]).length by simp; omega))
            have HF7 := Lib.hid (HF6.out.then_ hbz (by omega))
            clear hbz e2 e3
            simp only [List.length_append, List.length_singleton] at HC7 HR7 HF7
            go_wp2_with fail
            go_roundw
            case rel => exact ⟨L ++ [u], A7, c7, by simp; omega, by go_num, by simpa using HC7, HR7, by simpa using HS7, HF7⟩
            case measure => simp [intOf]; omega
        · have hki : (K2 : Int) - L.length ≤ 0 := by omega
          have hL2 : 1 ≤ L.length ∧ L.length ≤ 5 := by omega
          have hki2 : (K2 : Int) - L.length ≤ 0 := by omega
          have hq0 := HSC.out.c0
          have hq1 := HSC.out.c1
          have hq2 := HSC.out.c2
          obtain ⟨r0, hr0⟩ := HRB.out.c0
          obtain ⟨r1, hr1⟩ := HRB.out.c1
          obtain ⟨r2, hr2⟩ := HRB.out.c2
          have hrf0 := HRB.out.f0
          have hrf1 := HRB.out.f1
          have hrf2 := HRB.out.f2
          have hg7 := HRB.out.lt
          have hg8 := HSC.out.lt
          have hn1 : b ≠ w.heap.size := by omega
          have hn2 : w.heap.size ≠ b := by omega
          go_wp2_with fail
          have HBF : Hid (Below w.heap.size wr (((wr.setCell ⟨w.heap.size, 0, none⟩ (.slice A0 L0.length c0)).setCell ⟨w.heap.size, 1, none⟩ (.slice A1 L.length c1)).setCell ⟨w.heap.size, 2, none⟩ (.int .i64 N))) := Lib.hid ((((Below.refl _ wr).setCell (p := ⟨w.heap.size, 0, none⟩) (Nat.le_refl _) _).setCell (p := ⟨w.heap.size, 1, none⟩) (Nat.le_refl _) _).setCell (p := ⟨w.heap.size, 2, none⟩) (Nat.le_refl _) _)
          have HOB := Lib.hid (((HSC.out.ob.setFar (p := ⟨w.heap.size, 0, none⟩) (fun e => by have := (HSC.out.ob.blk_lt _ e).1; dsimp only at this; omega) (.slice A0 L0.length c0)).setFar (p := ⟨w.heap.size, 1, none⟩) (fun e => by have := (HSC.out.ob.blk_lt _ e).1; dsimp only at this; omega) (.slice A1 L.length c1)).setFar (p := ⟨w.heap.size, 2, none⟩) (fun e => by have := (HSC.out.ob.blk_lt _ e).1; dsimp only at this; omega) (.int .i64 N))
          have HOT := Lib.hid (((HSC.out.ot.setFar (p := ⟨w.heap.size, 0, none⟩) (fun e => by have := (HSC.out.ot.blk_lt _ e).1; dsimp only at this; omega) (.slice A0 L0.length c0)).setFar (p := ⟨w.heap.size, 1, none⟩) (fun e => by have := (HSC.out.ot.blk_lt _ e).1; dsimp only at this; omega) (.slice A1 L.length c1)).setFar (p := ⟨w.heap.size, 2, none⟩) (fun e => by have := (HSC.out.ot.blk_lt _ e).1; dsimp only at this; omega) (.int .i64 N))
          exact bodyPost_ret (v := .agg #[.slice A0 L0.length c0, .slice A1 L.length c1, .int .i64 N]) (by simp [results, Tryd.results42, go_sem, hr0, hr1, hr2, hg7]) rfl ⟨A0, c0, L0, A1, c1, L, N, rfl, hL0, by omega, hL1, by omega, HOB.out.lower (by omega), HOT.out.lower (by omega), HSC.out.ap, (HS.out.more (by omega)).belowB HBF.out hg, HF.out.then_ HBF.out (Nat.le_refl _)⟩
end Go.Proofs.YtamhkiakplmlmaaDoor
