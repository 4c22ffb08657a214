/-
  Draws of classes.
-/
import Derived.Test.YtehmghlhljocbaaGreatDoorTsDraw
import Derived.Test.YtehmghlhljocbaaGreatDoorFlatClass
namespace Go.Proofs.YtehmghlhljocbaaGreatDoor
open Go.ChangeShapes Go.WideShapes Go.RowKit

theorem Fs.frz {g : Nat} {w w' : World} (h : Fs g w w') (p : Addr) (hlt : p.block < w.heap.size) (hne : p.block ≠ g) : w'.frozen? p = w.frozen? p := by
  unfold World.frozen?
  rw [h.block p.block hlt hne]
/-- a class in a box of its own -/
structure CB (w : World) (b : Nat) (n : ByteArray) (m e wt : Int) : Prop where
  c0 : w.cell? ⟨b, 0, none⟩ = some (.string n)
  c1 : w.cell? ⟨b, 1, none⟩ = some (.int .i64 m)
  c2 : w.cell? ⟨b, 2, none⟩ = some (.int .i64 e)
  c3 : w.cell? ⟨b, 3, none⟩ = some (.int .i64 wt)
  f : ∀ j, w.frozen? ⟨b, j, none⟩ = false
  lt : b < w.heap.size
section
variable {w w' : World} {b g : Nat} {n : ByteArray} {m e wt : Int}
theorem CB.fs (h : CB w b n m e wt) (hF : Fs g w w') (hb : b ≠ g) : CB w' b n m e wt :=
  ⟨(hF.cell ⟨b, 0, none⟩ h.lt hb).trans h.c0, (hF.cell ⟨b, 1, none⟩ h.lt hb).trans h.c1, (hF.cell ⟨b, 2, none⟩ h.lt hb).trans h.c2, (hF.cell ⟨b, 3, none⟩ h.lt hb).trans h.c3, fun j => (hF.frz ⟨b, j, none⟩ h.lt hb).trans (h.f j), by have := hF.size; have := h.lt; omega⟩
theorem CB.below (h : CB w b n m e wt) (hb : Below w.heap.size w w') : CB w' b n m e wt :=
  ⟨(hb.cell (p := ⟨b, 0, none⟩) h.lt).trans h.c0, (hb.cell (p := ⟨b, 1, none⟩) h.lt).trans h.c1, (hb.cell (p := ⟨b, 2, none⟩) h.lt).trans h.c2, (hb.cell (p := ⟨b, 3, none⟩) h.lt).trans h.c3, fun j => (hb.frozen (p := ⟨b, j, none⟩) h.lt).trans (h.f j), by have := hb.size; have := h.lt; omega⟩
theorem CB.drew (h : CB w b n m e wt) : CB w.drew b n m e wt := ⟨h.c0, h.c1, h.c2, h.c3, h.f, h.lt⟩
theorem CB.new {T : TypeId} : CB (w.alloc (.cells #[.string n, .int .i64 m, .int .i64 e, .int .i64 wt] T)) w.heap.size n m e wt :=
  ⟨by first | (simp; done) | (go_simp; done), by first | (simp; done) | (go_simp; done), by first | (simp; done) | (go_simp; done), by first | (simp; done) | (go_simp; done), fun j => by first | (simp; done) | (go_simp; done), by simp⟩
theorem CB.far (h : CB w b n m e wt) {b2 j : Nat} (hne : b2 ≠ b) (v : Value) : CB (w.setCell ⟨b2, j, none⟩ v) b n m e wt := by
  have hc : ∀ i, (w.setCell ⟨b2, j, none⟩ v).cell? ⟨b, i, none⟩ = w.cell? ⟨b, i, none⟩ := fun i => World.cell?_setCell_other w _ _ v (fun e => hne (by have := congrArg Addr.block e; dsimp only at this; exact this))
  exact ⟨(hc 0).trans h.c0, (hc 1).trans h.c1, (hc 2).trans h.c2, (hc 3).trans h.c3, fun j => by simpa using h.f j, by simpa using h.lt⟩
theorem CB.at_ (h : CB w b n m e wt) (i : Nat) (v : Value) {j : Nat} (hj : j ≠ i) : (w.setCell ⟨b, i, none⟩ v).cell? ⟨b, j, none⟩ = w.cell? ⟨b, j, none⟩ := cell_setS v hj
theorem CB.set0 (h : CB w b n m e wt) (v : ByteArray) : CB (w.setCell ⟨b, 0, none⟩ (.string v)) b v m e wt :=
  ⟨World.cell?_setCell_same' _ _ _ (by rw [h.c0]; rfl), (h.at_ 0 _ (by omega)).trans h.c1, (h.at_ 0 _ (by omega)).trans h.c2, (h.at_ 0 _ (by omega)).trans h.c3, fun j => by simpa using h.f j, by simpa using h.lt⟩
theorem CB.set1 (h : CB w b n m e wt) (v : Int) : CB (w.setCell ⟨b, 1, none⟩ (.int .i64 v)) b n v e wt :=
  ⟨(h.at_ 1 _ (by omega)).trans h.c0, World.cell?_setCell_same' _ _ _ (by rw [h.c1]; rfl), (h.at_ 1 _ (by omega)).trans h.c2, (h.at_ 1 _ (by omega)).trans h.c3, fun j => by simpa using h.f j, by simpa using h.lt⟩
theorem CB.set2 (h : CB w b n m e wt) (v : Int) : CB (w.setCell ⟨b, 2, none⟩ (.int .i64 v)) b n m v wt :=
  ⟨(h.at_ 2 _ (by omega)).trans h.c0, (h.at_ 2 _ (by omega)).trans h.c1, World.cell?_setCell_same' _ _ _ (by rw [h.c2]; rfl), (h.at_ 2 _ (by omega)).trans h.c3, fun j => by simpa using h.f j, by simpa using h.lt⟩
theorem CB.set3 (h : CB w b n m e wt) (v : Int) : CB (w.setCell ⟨b, 3, none⟩ (.int .i64 v)) b n m e v :=
  ⟨(h.at_ 3 _ (by omega)).trans h.c0, (h.at_ 3 _ (by omega)).trans h.c1, (h.at_ 3 _ (by omega)).trans h.c2, World.cell?_setCell_same' _ _ _ (by rw [h.c3]; rfl), fun j => by simpa using h.f j, by simpa using h.lt⟩
end
theorem textLit_any (xs : List ByteArray) (n : Nat) (cv : Array Value) (hn : n = xs.length) (hcs : cv.toList = xs.flatMap LS.f) (h0 : 0 < n) (h1 : n ≤ 1000) (g : Nat) (A : Option Addr) (c : Nat) (cs : List Int) (m : Nat) (w : World)
    (h : Sr w g A c cs m) (hm : m ≤ 4611686018427387000) :
    Calls Tryz.prog 66 #[.pointer (some ⟨g, 0, none⟩), .slice (some ⟨w.heap.size, 0, none⟩) n n] (w.alloc (.cells cv 9)) (DrewT g A c cs (m + 2) xs w) := by
  subst hn
  have hg := h.g1
  have hb : Below w.heap.size w (w.alloc (.cells cv 9)) := (Below.refl _ _).alloc (Nat.le_refl _) _
  refine (text_any (some ⟨w.heap.size, 0, none⟩) xs.length xs w.heap.size g A c cs m _ (Own.lit w (Nat.le_refl _) rfl xs cv _ rfl (by unfold maxLen; omega) hcs) (by intro e; injection e with e; dsimp only at e; omega) h0 h1 (h.below hb) hm).mono ?_
  rintro e w' ⟨v, rfl, hv, hS, hF⟩
  exact ⟨v, rfl, hv, hS, (Fs.of_below hb).trans hF⟩
def NmT : List ByteArray := [{ data := #[97] }, { data := #[98, 45, 50] }, { data := #[102, 97, 99, 105, 110, 103] }, { data := #[99, 111, 109, 109, 111, 110] }]
def NmX : List ByteArray := [{ data := #[] }, { data := #[65] }]
theorem NmT_size {n : ByteArray} (h : n ∈ NmT) : n.size ≤ 100 := by
  unfold NmT at h
  simp only [List.mem_cons, List.not_mem_nil, or_false] at h
  rcases h with h | h | h | h <;> subst h <;> decide
theorem NmX_size {n : ByteArray} (h : n ∈ NmX) : n.size ≤ 100 := by
  unfold NmX at h
  simp only [List.mem_cons, List.not_mem_nil, or_false] at h
  rcases h with h | h <;> subst h <;> decide
def DrewCl (g : Nat) (A : Option Addr) (c : Nat) (cs : List Int) (m : Nat) (w0 : World) (e : Ending) (w' : World) : Prop :=
  ∃ (n : ByteArray) (m1 e1 w1 : Int), e = .returned (.agg #[.string n, .int .i64 m1, .int .i64 e1, .int .i64 w1]) ∧ OkClass (n, m1, e1, w1) ∧ Sr w' g A c cs m ∧ Fs g w0 w'
theorem okc {n : ByteArray} {m e w : Int} (hn : n.size ≤ 100) (h1 : -100000 ≤ m ∧ m ≤ 200000) (h2 : -100000 ≤ e ∧ e ≤ 200000) (h3 : -100000 ≤ w ∧ w ≤ 200000) : OkClass (n, m, e, w) := by
  unfold OkClass I64
  dsimp only
  omega
set_option maxRecDepth 100000 in
set_option maxHeartbeats 3200000 in
theorem l19DrawClass_any (g : Nat) (A : Option Addr) (c : Nat) (cs : List Int) (m : Nat) (w : World) (h : Sr w g A c cs m) (hm : m ≤ 1000000) :
    Calls Tryz.prog 34 #[.pointer (some ⟨g, 0, none⟩)] w (DrewCl g A c cs (m + 40) w) := by
  have hg := h.g1
  have hb0 : Below w.heap.size w (w.alloc (.cells #[.string { data := #[] }, .int .i64 0, .int .i64 0, .int .i64 0] 37)) := (Below.refl _ w).alloc (Nat.le_refl _) _
  obtain ⟨wa, hwa⟩ : ∃ W, W = w.alloc (.cells #[.string { data := #[] }, .int .i64 0, .int .i64 0, .int .i64 0] 37) := ⟨_, rfl⟩
  have hR : CB wa w.heap.size { data := #[] } 0 0 0 := by rw [hwa]; exact CB.new
  rw [← hwa] at hb0
  have hS0 := h.below hb0
  have hsa := hb0.size
  have hsw : w.heap.size < wa.heap.size := hR.lt
  have hc := textLit_any NmT 4 _ rfl rfl (by omega) (by omega) g A c cs m wa hS0 (by omega)
  have HR := Lib.hid hR
  have HF0 := Lib.hid (Fs.of_below (g := g) hb0)
  clear h hb0 hR hS0
  go_enter Tryz.func34, Tryz.ntmps34
  go_upto_region 1 with fail
  rw [← hwa]
  clear hwa
  go_wp2_with fail
  refine hc.mono ?_
  rintro e w1 ⟨nm, rfl, hn, hS, hF⟩
  have hs1 := hF.size
  have hns := NmT_size hn
  obtain ⟨wb, hwb⟩ : ∃ W, W = w1.alloc (.cells #[.string nm, .int .i64 0, .int .i64 0, .int .i64 0] 37) := ⟨_, rfl⟩
  have hX : CB wb w1.heap.size nm 0 0 0 := by rw [hwb]; exact CB.new
  have hbb : Below w1.heap.size w1 wb := by rw [hwb]; exact (Below.refl _ _).alloc (Nat.le_refl _) _
  have HR1 := Lib.hid ((HR.out.fs hF (by omega)).below hbb)
  have HX1 := Lib.hid hX
  have HS1 := Lib.hid (hS.below hbb)
  have HF1 := Lib.hid ((HF0.out.trans hF).then_ hbb (by omega))
  have hc2 := pick_any 25 g A c cs _ wb HS1.out (by omega) (by omega)
  clear hc hS hF hn hX hbb HR HF0
  go_upto_region 2 with fail
  rw [← hwb]
  clear hwb
  generalize w1.heap.size = bx at *
  have hbx : w.heap.size < bx := by omega
  go_wp2_with fail
  refine hc2.mono ?_
  rintro e w2 ⟨x, rfl, x0, x1, hS, hF⟩
  obtain ⟨mn, hmn⟩ : ∃ mn, mn = 100 * (20 + x) := ⟨_, rfl⟩
  have e1 : IntKind.i64.wrap (20 + x) = 20 + x := wrapS (by omega) (by omega)
  have e2 : IntKind.i64.wrap (100 * (20 + x)) = mn := by rw [wrapS (by omega) (by omega), hmn]
  have hmb : 2000 ≤ mn ∧ mn ≤ 4400 := by omega
  have HR2 := Lib.hid (HR1.out.fs hF (by omega))
  have HX2 := Lib.hid (HX1.out.fs hF (by omega))
  have q1 := HX2.out.c1
  have q2 := HX2.out.f 1
  obtain ⟨w3, hw3⟩ : ∃ W, W = w2.setCell ⟨bx, 1, none⟩ (.int .i64 mn) := ⟨_, rfl⟩
  have hb3 : Below w.heap.size w2 w3 := by rw [hw3]; exact (Below.refl _ _).setCell (p := ⟨bx, 1, none⟩) (by dsimp only; omega) _
  have HX3 : Hid (CB w3 bx nm mn 0 0) := Lib.hid (by rw [hw3]; exact HX2.out.set1 mn)
  have HR3 : Hid (CB w3 w.heap.size { data := #[] } 0 0 0) := Lib.hid (by rw [hw3]; exact HR2.out.far (by omega) _)
  have HS3 := Lib.hid (hS.belowB hb3 hg)
  have HF3 := Lib.hid ((HF1.out.trans hF).then_ hb3 (Nat.le_refl _))
  clear hc2 hS hF HR1 HX1 HS1 HF1 hmn hb3
  go_upto_region 3 with fail
  rw [← hw3]
  clear hw3 q1 q2 e1 e2 HR2 HX2 x0 x1
  have hc3 := pick_any 18 g A c cs _ w3.drew HS3.out.dr (by omega) (by omega)
  have q1 : w3.drew.cell? ⟨bx, 1, none⟩ = some (.int .i64 mn) := HX3.out.c1
  have q0 := HX3.out.c1
  go_region_held3 (fun W => W.cell? ⟨bx, 1, none⟩ = some (.int .i64 mn))
    (first | go_keep | (exact hk4) | (exact (cell_setS _ (by omega)).trans hk4))
    ((go_at_call 33; (with_reducible refine hc3.mono ?_); rintro e w4 ⟨y, rfl, y0, y1, hS4, hF4⟩; have e3 : IntKind.i64.wrap (100 * y) = 100 * y := (wrapS (by omega) (by omega)); have e4 : IntKind.i64.wrap (mn - 100 * y) = mn - 100 * y := (wrapS (by omega) (by omega)); have hX4 := HX3.out.drew.fs hF4 (by omega); have hk4 := hX4.c1; have q3 := hX4.c2; have q4 := hX4.f 2))
  have heb : 0 ≤ (mn - 100 * y) ∧ (mn - 100 * y) ≤ 4400 := by omega
  obtain ⟨w5, hw5⟩ : ∃ W, W = w4.setCell ⟨bx, 2, none⟩ (.int .i64 (mn - 100 * y)) := ⟨_, rfl⟩
  have hb5 : Below w.heap.size w4 w5 := by rw [hw5]; exact (Below.refl _ _).setCell (p := ⟨bx, 2, none⟩) (by dsimp only; omega) _
  have HX5 : Hid (CB w5 bx nm mn (mn - 100 * y) 0) := Lib.hid (by rw [hw5]; exact hX4.set2 (mn - 100 * y))
  have HR5 : Hid (CB w5 w.heap.size { data := #[] } 0 0 0) := Lib.hid (by rw [hw5]; exact (HR3.out.drew.fs hF4 (by omega)).far (by omega) _)
  have HS5 := Lib.hid (hS4.belowB hb5 hg)
  have HF5 := Lib.hid ((HF3.out.drew.trans hF4).then_ hb5 (Nat.le_refl _))
  have hc4 := pick_any 15 g A c cs _ w5 HS5.out (by omega) (by omega)
  go_upto_region 4 with fail
  rw [← hw5]
  clear hw5 hX4 hk4 q0 q1 q3 q4 e3 e4 y0 y1 hS4 hF4 HX3 HR3 HS3 HF3 hc3 hb5
  generalize mn - 100 * y = ea at *
  go_wp2_with fail
  refine hc4.mono ?_
  rintro e w6 ⟨x, rfl, x0, x1, hS, hF⟩
  obtain ⟨wt, hwt⟩ : ∃ wt, wt = 60 + 10 * x := ⟨_, rfl⟩
  have e1 : IntKind.i64.wrap (10 * x) = 10 * x := wrapS (by omega) (by omega)
  have e2 : IntKind.i64.wrap (60 + 10 * x) = wt := by rw [wrapS (by omega) (by omega), hwt]
  have hwb : 60 ≤ wt ∧ wt ≤ 200 := by omega
  have HR6 := Lib.hid (HR5.out.fs hF (by omega))
  have HX6 := Lib.hid (HX5.out.fs hF (by omega))
  have q1 := HX6.out.c3
  have q2 := HX6.out.f 3
  obtain ⟨w7, hw7⟩ : ∃ W, W = w6.setCell ⟨bx, 3, none⟩ (.int .i64 wt) := ⟨_, rfl⟩
  have hb7 : Below w.heap.size w6 w7 := by rw [hw7]; exact (Below.refl _ _).setCell (p := ⟨bx, 3, none⟩) (by dsimp only; omega) _
  have HX7 : Hid (CB w7 bx nm mn ea wt) := Lib.hid (by rw [hw7]; exact HX6.out.set3 wt)
  have HR7 : Hid (CB w7 w.heap.size { data := #[] } 0 0 0) := Lib.hid (by rw [hw7]; exact HR6.out.far (by omega) _)
  have HS7 := Lib.hid (hS.belowB hb7 hg)
  have HF7 := Lib.hid ((HF5.out.trans hF).then_ hb7 (Nat.le_refl _))
  have hc5 := pick_any 20 g A c cs _ w7 HS7.out (by omega) (by omega)
  clear hc4 hS hF HR5 HX5 HS5 HF5 hwt hb7
  go_upto_region 5 with fail
  rw [← hw7]
  clear hw7 q1 q2 e1 e2 HR6 HX6 x0 x1
  go_wp2_with fail
  refine hc5.mono ?_
  rintro e w8 ⟨z, rfl, z0, z1, hS, hF⟩
  have HR8 := Lib.hid (HR7.out.fs hF (by omega))
  have HX8 := Lib.hid (HX7.out.fs hF (by omega))
  have HS8 := Lib.hid hS
  have HF8 := Lib.hid (HF7.out.trans hF)
  clear hc5 hS hF HR7 HX7 HS7 HF7
  have hbr : w.heap.size ≠ bx := by omega
  by_cases h0 : z = 0
  · subst h0
    have hct := textLit_any NmX 2 _ rfl rfl (by omega) (by omega) g A c cs _ w8 HS8.out (by omega)
    go_wp2_with fail
    refine hct.mono ?_
    rintro e w9 ⟨n2, rfl, hn, hS, hF⟩
    have hn2 := NmX_size hn
    have HOKC : Hid (OkClass (n2, mn, ea, wt)) := Lib.hid (okc hn2 (by omega) (by omega) (by omega))
    have hX := HX8.out.fs hF (by omega)
    have HR9 := Lib.hid (HR8.out.fs hF (by omega))
    have HF9 := Lib.hid (HF8.out.trans hF)
    have HS9 := Lib.hid hS
    obtain ⟨p0, p1, p2, p3, pf, pl⟩ := hX
    obtain ⟨r0, r1, r2, r3, rf, rl⟩ := HR9.out
    clear hct hS hF hn HX8 HR8 HS8 HF8
    go_wp2_with fail
    refine bodyPost_ret (v := .agg #[.string n2, .int .i64 mn, .int .i64 ea, .int .i64 wt]) (by simp [results, Tryz.results34, go_sem]; go_simp) rfl ⟨n2, mn, ea, wt, rfl, HOKC.out, ?_, ?_⟩
    · refine (HS9.out.belowB (B := w.heap.size) ?_ hg).more (by omega)
      repeat' (first | exact Below.refl _ _ | (refine Below.setCell ?_ ?_ _) | (dsimp only; omega))
    · refine HF9.out.then_ (B := w.heap.size) ?_ (Nat.le_refl _)
      repeat' (first | exact Below.refl _ _ | (refine Below.setCell ?_ ?_ _) | (dsimp only; omega))
  · by_cases h1 : z = 1
    · subst h1
      have hct := amongLit_any [-1, 100000, 100001] 3 _ rfl rfl (by omega) (by omega) g A c cs _ w8 HS8.out (by omega)
      clear h0
      go_wp2_with fail
      refine hct.mono ?_
      rintro e w9 ⟨v2, rfl, hn, hS, hF⟩
      have hn2 : -1 ≤ v2 ∧ v2 ≤ 100001 := by
        simp only [List.mem_cons, List.not_mem_nil, or_false] at hn
        omega
      have HOKC : Hid (OkClass (nm, v2, ea, wt)) := Lib.hid (okc hns (by omega) (by omega) (by omega))
      have hX := HX8.out.fs hF (by omega)
      have HR9 := Lib.hid (HR8.out.fs hF (by omega))
      have HF9 := Lib.hid (HF8.out.trans hF)
      have HS9 := Lib.hid hS
      obtain ⟨p0, p1, p2, p3, pf, pl⟩ := hX
      obtain ⟨r0, r1, r2, r3, rf, rl⟩ := HR9.out
      clear hct hS hF hn HX8 HR8 HS8 HF8
      go_wp2_with fail
      refine bodyPost_ret (v := .agg #[.string nm, .int .i64 v2, .int .i64 ea, .int .i64 wt]) (by simp [results, Tryz.results34, go_sem]; go_simp) rfl ⟨nm, v2, ea, wt, rfl, HOKC.out, ?_, ?_⟩
      · refine (HS9.out.belowB (B := w.heap.size) ?_ hg).more (by omega)
        repeat' (first | exact Below.refl _ _ | (refine Below.setCell ?_ ?_ _) | (dsimp only; omega))
      · refine HF9.out.then_ (B := w.heap.size) ?_ (Nat.le_refl _)
        repeat' (first | exact Below.refl _ _ | (refine Below.setCell ?_ ?_ _) | (dsimp only; omega))
    · by_cases h2 : z = 2
      · subst h2
        have e1 : IntKind.i64.wrap (mn + 1) = mn + 1 := wrapS (by omega) (by omega)
        have hct := amongLit_any [-1, 0, mn, mn + 1] 4 _ rfl rfl (by omega) (by omega) g A c cs _ w8 HS8.out (by omega)
        have q1 := HX8.out.c1
        clear h0 h1
        go_wp2_with fail
        refine hct.mono ?_
        rintro e w9 ⟨v2, rfl, hn, hS, hF⟩
        have hn2 : -1 ≤ v2 ∧ v2 ≤ 5000 := by
          simp only [List.mem_cons, List.not_mem_nil, or_false] at hn
          omega
        have HOKC : Hid (OkClass (nm, mn, v2, wt)) := Lib.hid (okc hns (by omega) (by omega) (by omega))
        have hX := HX8.out.fs hF (by omega)
        have HR9 := Lib.hid (HR8.out.fs hF (by omega))
        have HF9 := Lib.hid (HF8.out.trans hF)
        have HS9 := Lib.hid hS
        obtain ⟨p0, p1, p2, p3, pf, pl⟩ := hX
        obtain ⟨r0, r1, r2, r3, rf, rl⟩ := HR9.out
        clear hct hS hF hn HX8 HR8 HS8 HF8 q1 e1
        go_wp2_with fail
        refine bodyPost_ret (v := .agg #[.string nm, .int .i64 mn, .int .i64 v2, .int .i64 wt]) (by simp [results, Tryz.results34, go_sem]; go_simp) rfl ⟨nm, mn, v2, wt, rfl, HOKC.out, ?_, ?_⟩
        · refine (HS9.out.belowB (B := w.heap.size) ?_ hg).more (by omega)
          repeat' (first | exact Below.refl _ _ | (refine Below.setCell ?_ ?_ _) | (dsimp only; omega))
        · refine HF9.out.then_ (B := w.heap.size) ?_ (Nat.le_refl _)
          repeat' (first | exact Below.refl _ _ | (refine Below.setCell ?_ ?_ _) | (dsimp only; omega))
      · by_cases h3 : z = 3
        · subst h3
          have hct := amongLit_any [-1, 0, 1000, 1001] 4 _ rfl rfl (by omega) (by omega) g A c cs _ w8 HS8.out (by omega)
          clear h0 h1 h2
          go_wp2_with fail
          refine hct.mono ?_
          rintro e w9 ⟨v2, rfl, hn, hS, hF⟩
          have hn2 : -1 ≤ v2 ∧ v2 ≤ 1001 := by
            simp only [List.mem_cons, List.not_mem_nil, or_false] at hn
            omega
          have HOKC : Hid (OkClass (nm, mn, ea, v2)) := Lib.hid (okc hns (by omega) (by omega) (by omega))
          have hX := HX8.out.fs hF (by omega)
          have HR9 := Lib.hid (HR8.out.fs hF (by omega))
          have HF9 := Lib.hid (HF8.out.trans hF)
          have HS9 := Lib.hid hS
          obtain ⟨p0, p1, p2, p3, pf, pl⟩ := hX
          obtain ⟨r0, r1, r2, r3, rf, rl⟩ := HR9.out
          clear hct hS hF hn HX8 HR8 HS8 HF8
          go_wp2_with fail
          refine bodyPost_ret (v := .agg #[.string nm, .int .i64 mn, .int .i64 ea, .int .i64 v2]) (by simp [results, Tryz.results34, go_sem]; go_simp) rfl ⟨nm, mn, ea, v2, rfl, HOKC.out, ?_, ?_⟩
          · refine (HS9.out.belowB (B := w.heap.size) ?_ hg).more (by omega)
            repeat' (first | exact Below.refl _ _ | (refine Below.setCell ?_ ?_ _) | (dsimp only; omega))
          · refine HF9.out.then_ (B := w.heap.size) ?_ (Nat.le_refl _)
            repeat' (first | exact Below.refl _ _ | (refine Below.setCell ?_ ?_ _) | (dsimp only; omega))
        · have y0 : (z == 0) = false := by rw [beq_eq_false_iff_ne]; exact h0
          have y1 : (z == 1) = false := by rw [beq_eq_false_iff_ne]; exact h1
          have y2 : (z == 2) = false := by rw [beq_eq_false_iff_ne]; exact h2
          have y3 : (z == 3) = false := by rw [beq_eq_false_iff_ne]; exact h3
          have HOKC : Hid (OkClass (nm, mn, ea, wt)) := Lib.hid (okc hns (by omega) (by omega) (by omega))
          have HF9 := HF8
          have HS9 := HS8
          obtain ⟨p0, p1, p2, p3, pf, pl⟩ := HX8.out
          obtain ⟨r0, r1, r2, r3, rf, rl⟩ := HR8.out
          clear HX8 HR8 HS8 HF8
          go_wp2_with fail
          refine bodyPost_ret (v := .agg #[.string nm, .int .i64 mn, .int .i64 ea, .int .i64 wt]) (by simp [results, Tryz.results34, go_sem]; go_simp) rfl ⟨nm, mn, ea, wt, rfl, HOKC.out, ?_, ?_⟩
          · refine (HS9.out.belowB (B := w.heap.size) ?_ hg).more (by omega)
            repeat' (first | exact Below.refl _ _ | (refine Below.setCell ?_ ?_ _) | (dsimp only; omega))
          · refine HF9.out.then_ (B := w.heap.size) ?_ (Nat.le_refl _)
            repeat' (first | exact Below.refl _ _ | (refine Below.setCell ?_ ?_ _) | (dsimp only; omega))
end Go.Proofs.YtehmghlhljocbaaGreatDoor
