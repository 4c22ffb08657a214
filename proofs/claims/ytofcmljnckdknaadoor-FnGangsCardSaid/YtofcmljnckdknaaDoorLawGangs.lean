/-
  FnGangs returns true for every argument: the walk.
-/
import Derived.Test.YtofcmljnckdknaaDoorGangsLaw
import Derived.Test.YtofcmljnckdknaaDoorGangsDrawD
import Derived.Test.YtofcmljnckdknaaDoorHandG
import Derived.Test.YtofcmljnckdknaaDoorF6a
import Derived.Deep.CutRange
import Derived.Test.YtofcmljnckdknaaDoorSched
namespace Go.Proofs.YtofcmljnckdknaaDoor
open Go.ChangeShapes Go.WideShapes Go.RowKit

/-- a hand that lies in a box -/
structure BoxH (w : World) (b : Nat) (h : HandD) : Prop where
  c0 : w.cell? ⟨b, 0, none⟩ = some (.string h.1)
  c1 : w.cell? ⟨b, 1, none⟩ = some (.int .i64 h.2.1)
  c2 : w.cell? ⟨b, 2, none⟩ = some (.bool h.2.2)
  lt : b < w.heap.size
theorem BoxH.below {w w' : World} {b : Nat} {h : HandD} (hx : BoxH w b h) (hb : Below w.heap.size w w') : BoxH w' b h :=
  ⟨(hb.cell (p := ⟨b, 0, none⟩) hx.lt).trans hx.c0, (hb.cell (p := ⟨b, 1, none⟩) hx.lt).trans hx.c1, (hb.cell (p := ⟨b, 2, none⟩) hx.lt).trans hx.c2, by have := hx.lt; have := hb.size; omega⟩
theorem BoxH.new {w : World} {h : HandD} : BoxH (w.alloc (.cells #[.string h.1, .int .i64 h.2.1, .bool h.2.2] 26)) w.heap.size h :=
  ⟨by go_simp, by go_simp, by go_simp, by simp⟩
theorem allEq_self {α : Type} {p : α → α → Bool} (h : ∀ x, p x x = true) : ∀ xs : List α, allEq p xs xs = true
  | [] => rfl
  | x :: xs => by
    have := allEq_self h xs
    simp [allEq, h x, this]
theorem eqfHand_self (x : HandD) : eqfHand x x = true := by simp [eqfHand]
theorem neqFrac (a b : Int) (w : World) : Sem.run Tryd.prog (binOp .neq 42 (.agg #[.int .i64 a, .int .i64 b]) (.agg #[.int .i64 a, .int .i64 b])) w = .ok (.bool false) w := by
  rw [run_neq_struct, run_equalIn_struct _ _ _ _ _ (by kernel_rfl) (by kernel_rfl)]
  simp [go_sem, Tryd.underlying42, Tryd.underlying2]
/-- a fraction that lies in a box -/
structure BoxF (w : World) (b : Nat) (n d : Int) : Prop where
  c0 : w.cell? ⟨b, 0, none⟩ = some (.int .i64 n)
  c1 : w.cell? ⟨b, 1, none⟩ = some (.int .i64 d)
  lt : b < w.heap.size
theorem BoxF.below {w w' : World} {b : Nat} {n d : Int} (hx : BoxF w b n d) (hb : Below w.heap.size w w') : BoxF w' b n d :=
  ⟨(hb.cell (p := ⟨b, 0, none⟩) hx.lt).trans hx.c0, (hb.cell (p := ⟨b, 1, none⟩) hx.lt).trans hx.c1, by have := hx.lt; have := hb.size; omega⟩
theorem BoxF.new {w : World} {n d : Int} : BoxF (w.alloc (.cells #[.int .i64 n, .int .i64 d] 42)) w.heap.size n d := ⟨by go_simp, by go_simp, by simp⟩
set_option maxRecDepth 100000 in
set_option maxHeartbeats 12800000 in
theorem lawGangs_any (A : Option Addr) (c : Nat) (cs : List Int) (w : World) (hr : Rd LU w w.heap.size A c cs) (hb : ∀ x ∈ cs, 0 ≤ x ∧ x ≤ 255) :
    Calls Tryd.prog 3 #[.slice A cs.length c] w fun e w' => e = .returned (.bool true) ∧ Below w.heap.size w w' := by
  have hlen := hr.len63
  have h6 := f6big_any A c cs.length w (by omega)
  have HK0 := Lib.hid (fun (W : World) (h : Below w.heap.size w W) => And.intro ((hr.below h).more h.size) h)
  have HBY := Lib.hid hb
  have hc1 := drawAddHand_any A c cs w hr hb
  clear hr hb
  cases hbig : decide (4096 < cs.length)
  rotate_left
  · rw [hbig] at h6
    clear hc1
    go_enter Tryd.func3, Tryd.ntmps3
    go_wp2_with fail
    refine h6.mono ?_
    rintro e w1 ⟨rfl, rfl⟩
    go_wp2_with fail
    go_ret
    exact ⟨rfl, Below.refl _ _⟩
  rw [hbig] at h6
  go_enter Tryd.func3, Tryd.ntmps3
  go_wp2_with fail
  refine h6.mono ?_
  rintro e w0 ⟨rfl, rfl⟩
  go_wp2_with fail
  refine hc1.mono ?_
  rintro e w1 ⟨B1, d1, xs, hh, rfl, _, hr1, hok1, hokh, hb1⟩
  have hs1 := hb1.size
  have hb1b := hb1.alloc hs1 (.cells #[.string hh.1, .int .i64 hh.2.1, .bool hh.2.2] 26)
  obtain ⟨X, hX⟩ : ∃ X, X = ahP xs (hh.1, hh.2.1, hh.2.2) := ⟨_, rfl⟩
  have hokh' : OkHand (hh.1, hh.2.1, hh.2.2) := hokh
  have HC2 := Lib.hid (fun (W : World) (h1 : Rd LHand W W.heap.size B1 d1 xs) => implAddHand_any B1 d1 xs hh.1 hh.2.1 hh.2.2 W h1 hok1 hokh')
  have HC3 := Lib.hid (fun (W : World) (h1 : Rd LHand W W.heap.size B1 d1 xs) => specAddHand_any B1 d1 xs hh.1 hh.2.1 hh.2.2 W h1 hok1 hokh')
  rw [← hX] at HC2 HC3
  obtain ⟨X, pc⟩ := X
  dsimp only at HC2 HC3
  have HX := Lib.hid hX
  have HOK1 := Lib.hid hok1
  obtain ⟨W1, hW1⟩ : ∃ W, W = w1.alloc (.cells #[.string hh.1, .int .i64 hh.2.1, .bool hh.2.2] 26) := ⟨_, rfl⟩
  have hbx := BoxH.new (w := w1) (h := hh)
  have hal : Below w1.heap.size w1 (w1.alloc (.cells #[.string hh.1, .int .i64 hh.2.1, .bool hh.2.2] 26)) := (Below.refl _ w1).alloc (Nat.le_refl _) _
  have hrW := (hr1.below hal).more hal.size
  rw [← hW1] at hb1b hbx hrW
  have HK1 := Lib.hid (fun (W : World) (hW : Below W1.heap.size W1 W) => And.intro (HK0.out W (bthen hb1b (Nat.le_refl _) hW)) (And.intro ((hrW.below hW).more hW.size) (hbx.below hW)))
  have hc2 := HC2.out W1 hrW
  clear h6 hc1 hr1 hb1 hb1b hbx hal hX hlen hbig HC2 hrW hokh' hok1
  go_wp2_with fail
  rw [← hW1]
  clear hW1
  generalize w1.heap.size = bh at *
  refine hc2.mono ?_
  rintro e w2 ⟨B2, d2, rfl, ho2, hb2⟩
  have HK2 := Lib.hid (fun (W : World) (hW : Below w2.heap.size w2 W) => And.intro (HK1.out W (bthen hb2 (Nat.le_refl _) hW)) ((ho2.rd.below hW).more hW.size))
  have hc3 := HC3.out w2 (HK2.out w2 (Below.refl _ _)).1.2.1
  obtain ⟨q0, q1, q2, ql⟩ := (HK2.out w2 (Below.refl _ _)).1.2.2
  clear hc2 ho2 hb2 HC3 HK1
  as_aux_lemma =>
  go_wp2_with fail
  refine hc3.mono ?_
  rintro e w3 ⟨B3, d3, rfl, ho3, hb3⟩
  have HK3 := Lib.hid (fun (W : World) (hW : Below w3.heap.size w3 W) => And.intro (HK2.out W (bthen hb3 (Nat.le_refl _) hW)) ((ho3.rd.below hW).more hW.size))
  have hc4 := drawBest_any A c cs w3 (HK3.out w3 (Below.refl _ _)).1.1.1.1 HBY.out
  clear hc3 ho3 hb3 HK2 q0 q1 q2 ql
  go_wp2_with fail
  refine hc4.mono ?_
  rintro e w4 ⟨B4, B5, d4, d5, ys, ws, rfl, _, hw101, ho4, ho5, hok4, _, hb4⟩
  have HOK4 := Lib.hid hok4
  have HK4 := Lib.hid (fun (W : World) (hW : Below w4.heap.size w4 W) => And.intro (HK3.out W (bthen hb4 (Nat.le_refl _) hW)) (And.intro ((ho4.rd.below hW).more hW.size) ((ho5.rd.below hW).more hW.size)))
  have HCB := Lib.hid (fun (W : World) (h1 : Rd LHand W W.heap.size B4 d4 ys) (h2 : Rd LWork W W.heap.size B5 d5 ws) => And.intro (implBestDay_any B4 d4 ys B5 d5 ws W h1 h2 hok4) (specBestDay_any B4 d4 ys B5 d5 ws W h1 h2 hok4))
  have HCL := Lib.hid (fun (W : World) (h1 : Rd LHand W W.heap.size B4 d4 ys) (h2 : Rd LWork W W.heap.size B5 d5 ws) => And.intro (implLaidBy_any B4 d4 ys B5 d5 ws W h1 h2 hok4) (specLaidBy_any B4 d4 ys B5 d5 ws W h1 h2 hok4))
  have HCH := Lib.hid (fun (W : World) (h1 : Rd LHand W W.heap.size B4 d4 ys) (h2 : Rd LWork W W.heap.size B5 d5 ws) => And.intro (implHoursBy_any B4 d4 ys B5 d5 ws W h1 h2 hok4) (specHoursBy_any B4 d4 ys B5 d5 ws W h1 h2 hok4))
  obtain ⟨D, hD⟩ : ∃ D, D = bdP ys ws := ⟨_, rfl⟩
  obtain ⟨L, hL⟩ : ∃ D, D = wbP fLaid ys ws := ⟨_, rfl⟩
  obtain ⟨H, hH⟩ : ∃ D, D = wbP fHours ys ws := ⟨_, rfl⟩
  rw [← hD] at HCB
  rw [← hL] at HCL
  rw [← hH] at HCH
  obtain ⟨day, one⟩ := D
  obtain ⟨L, lc⟩ := L
  obtain ⟨H, hc⟩ := H
  dsimp only at HCB HCL HCH
  have HD := Lib.hid hD
  have hc5 := (HCB.out w4 (HK4.out w4 (Below.refl _ _)).2.1 (HK4.out w4 (Below.refl _ _)).2.2).1
  clear hc4 ho4 ho5 hok4 hb4 HK3 hD hL hH
  as_aux_lemma =>
  go_wp2_with fail
  refine hc5.mono ?_
  rintro e w5 ⟨rfl, hb5⟩
  have HK5 := Lib.hid (fun (W : World) (hW : Below w5.heap.size w5 W) => HK4.out W (bthen hb5 (Nat.le_refl _) hW))
  have hc6 := (HCB.out w5 (HK5.out w5 (Below.refl _ _)).2.1 (HK5.out w5 (Below.refl _ _)).2.2).2
  clear hc5 hb5 HK4 HCB
  go_wp2_with fail
  refine hc6.mono ?_
  rintro e w6 ⟨rfl, hb6⟩
  have HK6 := Lib.hid (fun (W : World) (hW : Below w6.heap.size w6 W) => HK5.out W (bthen hb6 (Nat.le_refl _) hW))
  have hc7 := (HCL.out w6 (HK6.out w6 (Below.refl _ _)).2.1 (HK6.out w6 (Below.refl _ _)).2.2).1
  clear hc6 hb6 HK5
  go_wp2_with fail
  refine hc7.mono ?_
  rintro e w7 ⟨B7, d7, rfl, ho7, hb7⟩
  have HK7 := Lib.hid (fun (W : World) (hW : Below w7.heap.size w7 W) => And.intro (HK6.out W (bthen hb7 (Nat.le_refl _) hW)) ((ho7.rd.below hW).more hW.size))
  have hc8 := (HCL.out w7 (HK7.out w7 (Below.refl _ _)).1.2.1 (HK7.out w7 (Below.refl _ _)).1.2.2).2
  clear hc7 ho7 hb7 HK6 HCL
  as_aux_lemma =>
  go_wp2_with fail
  refine hc8.mono ?_
  rintro e w8 ⟨B8, d8, rfl, ho8, hb8⟩
  have HK8 := Lib.hid (fun (W : World) (hW : Below w8.heap.size w8 W) => And.intro (HK7.out W (bthen hb8 (Nat.le_refl _) hW)) ((ho8.rd.below hW).more hW.size))
  have hc9 := (HCH.out w8 (HK8.out w8 (Below.refl _ _)).1.1.2.1 (HK8.out w8 (Below.refl _ _)).1.1.2.2).1
  clear hc8 ho8 hb8 HK7
  go_wp2_with fail
  refine hc9.mono ?_
  rintro e w9 ⟨B9, d9, rfl, ho9, hb9⟩
  have HK9 := Lib.hid (fun (W : World) (hW : Below w9.heap.size w9 W) => And.intro (HK8.out W (bthen hb9 (Nat.le_refl _) hW)) ((ho9.rd.below hW).more hW.size))
  have hc10 := (HCH.out w9 (HK9.out w9 (Below.refl _ _)).1.1.1.2.1 (HK9.out w9 (Below.refl _ _)).1.1.1.2.2).2
  clear hc9 ho9 hb9 HK8 HCH
  go_wp2_with fail
  refine hc10.mono ?_
  rintro e w10 ⟨B10, d10, rfl, ho10, hb10⟩
  have HK10 := Lib.hid (fun (W : World) (hW : Below w10.heap.size w10 W) => And.intro (HK9.out W (bthen hb10 (Nat.le_refl _) hW)) ((ho10.rd.below hW).more hW.size))
  have hc11 := drawEach_any A c cs w10 (HK10.out w10 (Below.refl _ _)).1.1.1.1.1.1.1.1.1 HBY.out
  clear hc10 ho10 hb10 HK9
  as_aux_lemma =>
  go_wp2_with fail
  refine hc11.mono ?_
  rintro e w11 ⟨B11, B12, d11, d12, zs, vs, hand, rfl, _, _, ho11, ho12, hok11, _, _, hb11⟩
  have HK11 := Lib.hid (fun (W : World) (hW : Below w11.heap.size w11 W) => And.intro (HK10.out W (bthen hb11 (Nat.le_refl _) hW)) (And.intro ((ho11.rd.below hW).more hW.size) ((ho12.rd.below hW).more hW.size)))
  have HCE := Lib.hid (fun (W : World) (h1 : Rd LHand W W.heap.size B11 d11 zs) (h2 : Rd LWork W W.heap.size B12 d12 vs) => And.intro (implLaidEachHour_any B11 d11 zs B12 d12 vs hand W h1 h2 hok11) (specLaidEachHour_any B11 d11 zs B12 d12 vs hand W h1 h2 hok11))
  obtain ⟨E, hE⟩ : ∃ D, D = lhP zs vs hand := ⟨_, rfl⟩
  rw [← hE] at HCE
  obtain ⟨⟨en, ed⟩, ec⟩ := E
  dsimp only at HCE
  have HE := Lib.hid hE
  have hc12 := (HCE.out w11 (HK11.out w11 (Below.refl _ _)).2.1 (HK11.out w11 (Below.refl _ _)).2.2).1
  clear hc11 ho11 ho12 hok11 hb11 HK10 hE
  go_wp2_with fail
  refine hc12.mono ?_
  rintro e w12 ⟨rfl, hb12⟩
  have hal12 : Below w12.heap.size w12 (w12.alloc (.cells #[.int .i64 en, .int .i64 ed] 42)) := (Below.refl _ _).alloc (Nat.le_refl _) _
  have hbx12 := BoxF.new (w := w12) (n := en) (d := ed)
  have hb12b := bthen hb12 (Nat.le_refl _) hal12
  have HK12 := Lib.hid (fun (W : World) (hW : Below (w12.alloc (.cells #[.int .i64 en, .int .i64 ed] 42)).heap.size (w12.alloc (.cells #[.int .i64 en, .int .i64 ed] 42)) W) => And.intro (HK11.out W (bthen hb12b (Nat.le_refl _) hW)) (hbx12.below hW))
  have hc13 := (HCE.out _ (HK12.out _ (Below.refl _ _)).1.2.1 (HK12.out _ (Below.refl _ _)).1.2.2).2
  clear hc12 hb12 hal12 hbx12 hb12b HK11 HCE
  as_aux_lemma =>
  go_wp2_with fail
  refine hc13.mono ?_
  rintro e w13 ⟨rfl, hb13⟩
  have hal13 : Below w13.heap.size w13 (w13.alloc (.cells #[.int .i64 en, .int .i64 ed] 42)) := (Below.refl _ _).alloc (Nat.le_refl _) _
  have hbx13 := BoxF.new (w := w13) (n := en) (d := ed)
  have hb13b := bthen hb13 (Nat.le_refl _) hal13
  have HK13 := Lib.hid (fun (W : World) (hW : Below (w13.alloc (.cells #[.int .i64 en, .int .i64 ed] 42)).heap.size (w13.alloc (.cells #[.int .i64 en, .int .i64 ed] 42)) W) => And.intro (HK12.out W (bthen hb13b (Nat.le_refl _) hW)) (hbx13.below hW))
  have hc14 := drawCarriers_any A c cs (w13.alloc (.cells #[.int .i64 en, .int .i64 ed] 42)) (HK13.out _ (Below.refl _ _)).1.1.1.1.1.1.1.1.1.1.1.1 HBY.out
  clear hc13 hb13 hal13 hbx13 hb13b HK12
  generalize w12.heap.size = b12 at *
  go_wp2_with fail
  refine hc14.mono ?_
  rintro e w14 ⟨B14, d14, us, few, rfl, _, ho14, hok14, hb14⟩
  have HK14 := Lib.hid (fun (W : World) (hW : Below w14.heap.size w14 W) => HK13.out W (bthen hb14 (Nat.le_refl _) hW))
  generalize w13.heap.size = b13 at *
  have HCC := Lib.hid (fun (W : World) (hW : Below w14.heap.size w14 W) => And.intro (implCarriersFor_any B14 d14 us few W ((ho14.rd.below hW).more hW.size) hok14) (specCarriersFor_any B14 d14 us few W ((ho14.rd.below hW).more hW.size) hok14))
  obtain ⟨C, hC⟩ : ∃ D, D = cfP us few := ⟨_, rfl⟩
  rw [← hC] at HCC
  clear hC
  obtain ⟨cn, cc⟩ := C
  dsimp only at HCC
  have hc15 := (HCC.out w14 (Below.refl _ _)).1
  clear hc14 ho14 hok14 hb14 HK13
  as_aux_lemma =>
  go_wp2_with fail
  refine hc15.mono ?_
  rintro e w15 ⟨rfl, hb15⟩
  have HK15 := Lib.hid (fun (W : World) (hW : Below w15.heap.size w15 W) => HK14.out W (bthen hb15 (Nat.le_refl _) hW))
  have hc16 := (HCC.out w15 hb15).2
  clear hc15 hb15 HK14 HCC
  go_wp2_with fail
  refine hc16.mono ?_
  rintro e w16 ⟨rfl, hb16⟩
  have HK16 := Lib.hid (fun (W : World) (hW : Below w16.heap.size w16 W) => HK15.out W (bthen hb16 (Nat.le_refl _) hW))
  have hc17 := drawSame_any A c cs w16 (HK16.out w16 (Below.refl _ _)).1.1.1.1.1.1.1.1.1.1.1.1 HBY.out
  clear hc16 hb16 HK15
  go_wp2_with fail
  refine hc17.mono ?_
  rintro e w17 ⟨B17, B18, d17, d18, es, fs_, rfl, _, _, ho17, ho18, _, _, hb17⟩
  have HK17 := Lib.hid (fun (W : World) (hW : Below w17.heap.size w17 W) => And.intro (HK16.out W (bthen hb17 (Nat.le_refl _) hW)) (And.intro ((ho17.rd.below hW).more hW.size) ((ho18.rd.below hW).more hW.size)))
  have hc18 := drawHandText_any A c cs w17 (HK17.out w17 (Below.refl _ _)).1.1.1.1.1.1.1.1.1.1.1.1.1 HBY.out
  clear hc17 ho17 ho18 hb17 HK16
  as_aux_lemma =>
  go_wp2_with fail
  refine hc18.mono ?_
  rintro e w18 ⟨th, rfl, htk, hb18⟩
  have hal18 : Below w18.heap.size w18 (w18.alloc (.cells #[.string th.1, .int .i64 th.2.1, .bool th.2.2] 26)) := (Below.refl _ _).alloc (Nat.le_refl _) _
  have hbx18 := BoxH.new (w := w18) (h := th)
  have hb18b := bthen hb18 (Nat.le_refl _) hal18
  obtain ⟨wk, hwk⟩ : ∃ W, W = w18.alloc (.cells #[.string th.1, .int .i64 th.2.1, .bool th.2.2] 26) := ⟨_, rfl⟩
  rw [← hwk] at hbx18 hb18b
  have HZ := Lib.hid (fun (W : World) (hW : Below wk.heap.size wk W) => And.intro (HK17.out W (bthen hb18b (Nat.le_refl _) hW)) (hbx18.below hW))
  have HTS := Lib.hid htk.1
  clear hc18 hb18 hal18 hbx18 hb18b HK17 HBY HK0 htk
  have HX2 : Hid (∀ W, Below wk.heap.size wk W → Rd LHand W W.heap.size B2 d2 X ∧ Rd LHand W W.heap.size B3 d3 X) := Lib.hid (fun W hW => ⟨(HZ.out W hW).1.1.1.1.1.1.1.1.1.1.1.2, (HZ.out W hW).1.1.1.1.1.1.1.1.1.1.2⟩)
  have HY4 : Hid (∀ W, Below wk.heap.size wk W → Rd LHand W W.heap.size B4 d4 ys ∧ Rd LWork W W.heap.size B5 d5 ws) := Lib.hid (fun W hW => (HZ.out W hW).1.1.1.1.1.1.1.1.1.2)
  have HL7 : Hid (∀ W, Below wk.heap.size wk W → Rd LI W W.heap.size B7 d7 L ∧ Rd LI W W.heap.size B8 d8 L) := Lib.hid (fun W hW => ⟨(HZ.out W hW).1.1.1.1.1.1.1.1.2, (HZ.out W hW).1.1.1.1.1.1.1.2⟩)
  have HH9 : Hid (∀ W, Below wk.heap.size wk W → Rd LI W W.heap.size B9 d9 H ∧ Rd LI W W.heap.size B10 d10 H) := Lib.hid (fun W hW => ⟨(HZ.out W hW).1.1.1.1.1.1.2, (HZ.out W hW).1.1.1.1.1.2⟩)
  have HZ11 : Hid (∀ W, Below wk.heap.size wk W → Rd LHand W W.heap.size B11 d11 zs ∧ Rd LWork W W.heap.size B12 d12 vs) := Lib.hid (fun W hW => (HZ.out W hW).1.1.1.1.2)
  have HF12 : Hid (∀ W, Below wk.heap.size wk W → BoxF W b12 en ed ∧ BoxF W b13 en ed) := Lib.hid (fun W hW => ⟨(HZ.out W hW).1.1.1.2, (HZ.out W hW).1.1.2⟩)
  have HE17 : Hid (∀ W, Below wk.heap.size wk W → Rd LHand W W.heap.size B17 d17 es ∧ Rd LHand W W.heap.size B18 d18 fs_) := Lib.hid (fun W hW => (HZ.out W hW).1.2)
  have HB18 : Hid (∀ W, Below wk.heap.size wk W → BoxH W w18.heap.size th) := Lib.hid (fun W hW => (HZ.out W hW).2)
  have HX1 : Hid (∀ W, Below wk.heap.size wk W → Rd LHand W W.heap.size B1 d1 xs) := Lib.hid (fun W hW => (HZ.out W hW).1.1.1.1.1.1.1.1.1.1.1.1.2.1)
  have HBW : Hid (∀ W, Below wk.heap.size wk W → Below w.heap.size w W) := Lib.hid (fun W hW => (HZ.out W hW).1.1.1.1.1.1.1.1.1.1.1.1.1.2)
  clear HZ
  as_aux_lemma =>
  go_upto_region 21 with fail
  rw [← hwk]
  clear hwk
  generalize w18.heap.size = b18 at *
  go_cut [240] from 148 to 240 (fun s wx => s = .bool false ∧ Below wk.heap.size wk wx)
  case first =>
    as_aux_lemma =>
    have hsg := fun (W : World) (hW : Below wk.heap.size wk W) => specSameGang_any B2 d2 X B3 d3 X W (HX2.out W hW).1 (HX2.out W hW).2
    rw [allEq_self eqfHand_self] at hsg
    have hfL := fun (W : World) (hW : Below wk.heap.size wk W) => (f6ints_any B7 B8 d7 d8 L _ W (HL7.out W hW).1 (HL7.out W hW).2).mono (fun e w' (h : e = Ending.returned (.bool true) ∧ Dr W w') => And.intro h.1 (show Below W.heap.size W w' from h.2.below))
    have hfH := fun (W : World) (hW : Below wk.heap.size wk W) => (f6ints_any B9 B10 d9 d10 H _ W (HH9.out W hW).1 (HH9.out W hW).2).mono (fun e w' (h : e = Ending.returned (.bool true) ∧ Dr W w') => And.intro h.1 (show Below W.heap.size W w' from h.2.below))
    have hsi := fun (W : World) (hW : Below wk.heap.size wk W) => implSameGang_any B17 d17 es B18 d18 fs_ W (HE17.out W hW).1 (HE17.out W hW).2
    have hss := fun (W : World) (hW : Below wk.heap.size wk W) => specSameGang_any B17 d17 es B18 d18 fs_ W (HE17.out W hW).1 (HE17.out W hW).2
    have hti := fun (W : World) => implHandText_any th.1 th.2.1 th.2.2 W (by have := HTS.out; omega)
    have hts := fun (W : World) => specHandText_any th.1 th.2.1 th.2.2 W (by have := HTS.out; omega)
    have hvi := fun (W : World) (hW : Below wk.heap.size wk W) => implValidGang_any B1 d1 xs W (HX1.out W hW) HOK1.out
    have hvs := fun (W : World) (hW : Below wk.heap.size wk W) => specValidGang_any B1 d1 xs W (HX1.out W hW) HOK1.out
    have hwi := fun (W : World) (hW : Below wk.heap.size wk W) => implValidWork_any B4 d4 ys B5 d5 ws W (HY4.out W hW).1 (HY4.out W hW).2 HOK4.out
    have hws := fun (W : World) (hW : Below wk.heap.size wk W) => specValidWork_any B4 d4 ys B5 d5 ws W (HY4.out W hW).1 (HY4.out W hW).2 HOK4.out
    generalize allEq eqfHand es fs_ = ae at *
    generalize gangB xs = gb at *
    generalize vwB ys ws = vb at *
    generalize htS th.1 th.2.1 th.2.2 = tx at *
    have hq := fun W => neqFrac en ed W
    have HTI := Lib.hid hti
    have HTO := Lib.hid hts
    have HSG := Lib.hid hsg
    have HFL := Lib.hid hfL
    have HFH := Lib.hid hfH
    have HSI := Lib.hid hsi
    have HSS := Lib.hid hss
    have HVI := Lib.hid hvi
    have HVS := Lib.hid hvs
    have HWI := Lib.hid hwi
    have HWS := Lib.hid hws
    clear hti hts hsg hfL hfH hsi hss hvi hvs hwi hws HX1 HX2 HY4 HL7 HH9 HZ11 HE17 HOK1 HOK4 HTS HX HD HE HBW
    simp only [List.cons_append, List.nil_append, List.append_eq]
    refine wp_region_noPanic ?_
    refine startS (S := fun W => BoxF W b12 en ed ∧ BoxF W b13 en ed ∧ BoxH W b18 th) 93 (by kernel_rfl) (by kernel_rfl) ⟨(HF12.out _ (Below.refl _ _).drew).1, (HF12.out _ (Below.refl _ _).drew).2, HB18.out _ (Below.refl _ _).drew⟩ (fun hHeld => ?_)
    clear HF12 HB18
    refine withS 93 [0, 1, 2, 3, 4, 5, 7, 8, 9, 10, 11, 12, 13, 14, 15, 16, 17, 18, 19, 20, 21, 22, 23, 24, 25, 26, 28, 29, 30, 31, 32, 33, 34, 35, 36, 37, 39, 40, 41, 42, 43, 44, 45, 46, 47, 48, 49, 50, 51, 52, 53, 54, 55, 56, 57, 58, 59, 60, 61, 62, 63, 65, 66, 68, 69, 70, 71, 73, 75, 76, 77, 78, 80, 82, 83, 84, 85, 86, 88, 89, 91, 92] (by as_aux_lemma => kernel_rfl) (by kernel_rfl) (by kernel_rfl) (fun _ _ _ _ _ h => h) ?_
    intro HFR HNS HSZ HQP
    refine takeS (i := 0) (v := ?_) HFR.out HNS.out HSZ.out HQP.out rfl (by kernel_rfl) (by kernel_rfl) (by decide) (by kernel_rfl) (Or.inl ⟨by rfl, ?_⟩) hHeld rfl (by dsimp only [List.set_cons_succ, List.set_cons_zero]) ?_
    rotate_left
    · intro w hSw; clear hSw; go_simp; (try with_reducible rfl)
    refine takeS (i := 1) (v := ?_) HFR.out HNS.out HSZ.out HQP.out rfl (by kernel_rfl) (by kernel_rfl) (by decide) (by kernel_rfl) (Or.inl ⟨by rfl, ?_⟩) hHeld rfl (by dsimp only [List.set_cons_succ, List.set_cons_zero]) ?_
    rotate_left
    · intro w hSw; clear hSw; go_simp; (try with_reducible rfl)
    refine takeS (i := 2) (v := ?_) HFR.out HNS.out HSZ.out HQP.out rfl (by kernel_rfl) (by kernel_rfl) (by decide) (by kernel_rfl) (Or.inl ⟨by rfl, ?_⟩) hHeld rfl (by dsimp only [List.set_cons_succ, List.set_cons_zero]) ?_
    rotate_left
    · intro w hSw; clear hSw; go_simp; (try with_reducible rfl)
    refine takeS (i := 3) (v := ?_) HFR.out HNS.out HSZ.out HQP.out rfl (by kernel_rfl) (by kernel_rfl) (by decide) (by kernel_rfl) (Or.inl ⟨by rfl, ?_⟩) hHeld rfl (by dsimp only [List.set_cons_succ, List.set_cons_zero]) ?_
    rotate_left
    · intro w hSw; clear hSw; go_simp; (try with_reducible rfl)
    refine takeS (i := 4) (v := ?_) HFR.out HNS.out HSZ.out HQP.out rfl (by kernel_rfl) (by kernel_rfl) (by decide) (by kernel_rfl) (Or.inl ⟨by rfl, ?_⟩) hHeld rfl (by dsimp only [List.set_cons_succ, List.set_cons_zero]) ?_
    rotate_left
    · intro w hSw; clear hSw; go_simp; (try with_reducible rfl)
    refine takeS (i := 5) (v := ?_) HFR.out HNS.out HSZ.out HQP.out rfl (by kernel_rfl) (by kernel_rfl) (by decide) (by kernel_rfl) (Or.inl ⟨by rfl, ?_⟩) hHeld rfl (by dsimp only [List.set_cons_succ, List.set_cons_zero]) ?_
    rotate_left
    · intro w hSw; clear hSw; go_simp; (try with_reducible rfl)
    refine callS (i := 6) HSZ.out (by kernel_rfl) (by kernel_rfl) rfl (fun K hK => ?_)
    go_simp
    (go_at_call 23; (with_reducible refine (HSG.out wk.drew (Below.refl _ _).drew).mono ?_); rintro e v1 ⟨rfl, hx1⟩; have hb1 := bthen ((Below.refl wk.heap.size wk).drew) (Nat.le_refl _) hx1)
    refine hK.out _ _ ⟨hHeld.1.below hx1, hHeld.2.1.below hx1, hHeld.2.2.below hx1⟩ (fun hHeldN => ?_)
    clear hK K hHeld
    try simp only [Act.put, List.setIfInBounds_toArray, List.set_cons_zero, List.set_cons_succ]
    have hHeld := hHeldN
    clear hHeldN
    refine takeS (i := 7) (v := ?_) HFR.out HNS.out HSZ.out HQP.out rfl (by kernel_rfl) (by kernel_rfl) (by decide) (by kernel_rfl) (Or.inl ⟨by rfl, ?_⟩) hHeld rfl (by dsimp only [List.set_cons_succ, List.set_cons_zero]) ?_
    rotate_left
    · intro w hSw; clear hSw; go_simp; (try with_reducible rfl)
    refine takeS (i := 8) (v := ?_) HFR.out HNS.out HSZ.out HQP.out rfl (by kernel_rfl) (by kernel_rfl) (by decide) (by kernel_rfl) (Or.inl ⟨by rfl, ?_⟩) hHeld rfl (by dsimp only [List.set_cons_succ, List.set_cons_zero]) ?_
    rotate_left
    · intro w hSw; clear hSw; go_simp; (try with_reducible rfl)
    refine takeS (i := 9) (v := ?_) HFR.out HNS.out HSZ.out HQP.out rfl (by kernel_rfl) (by kernel_rfl) (by decide) (by kernel_rfl) (Or.inl ⟨by rfl, ?_⟩) hHeld rfl (by dsimp only [List.set_cons_succ, List.set_cons_zero]) ?_
    rotate_left
    · intro w hSw; clear hSw; go_simp; (try with_reducible rfl)
    refine takeS (i := 10) (v := ?_) HFR.out HNS.out HSZ.out HQP.out rfl (by kernel_rfl) (by kernel_rfl) (by decide) (by kernel_rfl) (Or.inl ⟨by rfl, ?_⟩) hHeld rfl (by dsimp only [List.set_cons_succ, List.set_cons_zero]) ?_
    rotate_left
    · intro w hSw; clear hSw; go_simp; (try with_reducible rfl)
    refine takeS (i := 11) (v := ?_) HFR.out HNS.out HSZ.out HQP.out rfl (by kernel_rfl) (by kernel_rfl) (by decide) (by kernel_rfl) (Or.inl ⟨by rfl, ?_⟩) hHeld rfl (by dsimp only [List.set_cons_succ, List.set_cons_zero]) ?_
    rotate_left
    · intro w hSw; clear hSw; go_simp; (try with_reducible rfl)
    as_aux_lemma =>
    refine takeS (i := 12) (v := ?_) HFR.out HNS.out HSZ.out HQP.out rfl (by kernel_rfl) (by kernel_rfl) (by decide) (by kernel_rfl) (Or.inl ⟨by rfl, ?_⟩) hHeld rfl (by dsimp only [List.set_cons_succ, List.set_cons_zero]) ?_
    rotate_left
    · intro w hSw; clear hSw; go_simp; (try with_reducible rfl)
    refine takeS (i := 13) (v := ?_) HFR.out HNS.out HSZ.out HQP.out rfl (by kernel_rfl) (by kernel_rfl) (by decide) (by kernel_rfl) (Or.inl ⟨by rfl, ?_⟩) hHeld rfl (by dsimp only [List.set_cons_succ, List.set_cons_zero]) ?_
    rotate_left
    · intro w hSw; clear hSw; go_simp; (try with_reducible rfl)
    refine takeS (i := 14) (v := ?_) HFR.out HNS.out HSZ.out HQP.out rfl (by kernel_rfl) (by kernel_rfl) (by decide) (by kernel_rfl) (Or.inl ⟨by rfl, ?_⟩) hHeld rfl (by dsimp only [List.set_cons_succ, List.set_cons_zero]) ?_
    rotate_left
    · intro w hSw; clear hSw; go_simp; (try with_reducible rfl)
    refine takeS (i := 15) (v := ?_) HFR.out HNS.out HSZ.out HQP.out rfl (by kernel_rfl) (by kernel_rfl) (by decide) (by kernel_rfl) (Or.inl ⟨by rfl, ?_⟩) hHeld rfl (by dsimp only [List.set_cons_succ, List.set_cons_zero]) ?_
    rotate_left
    · intro w hSw; clear hSw; go_simp; (try with_reducible rfl)
    refine takeS (i := 16) (v := ?_) HFR.out HNS.out HSZ.out HQP.out rfl (by kernel_rfl) (by kernel_rfl) (by decide) (by kernel_rfl) (Or.inl ⟨by rfl, ?_⟩) hHeld rfl (by dsimp only [List.set_cons_succ, List.set_cons_zero]) ?_
    rotate_left
    · intro w hSw; clear hSw; go_simp; (try with_reducible rfl)
    refine takeS (i := 17) (v := ?_) HFR.out HNS.out HSZ.out HQP.out rfl (by kernel_rfl) (by kernel_rfl) (by decide) (by kernel_rfl) (Or.inl ⟨by rfl, ?_⟩) hHeld rfl (by dsimp only [List.set_cons_succ, List.set_cons_zero]) ?_
    rotate_left
    · intro w hSw; clear hSw; go_simp; (try with_reducible rfl)
    refine takeS (i := 18) (v := ?_) HFR.out HNS.out HSZ.out HQP.out rfl (by kernel_rfl) (by kernel_rfl) (by decide) (by kernel_rfl) (Or.inl ⟨by rfl, ?_⟩) hHeld rfl (by dsimp only [List.set_cons_succ, List.set_cons_zero]) ?_
    rotate_left
    · intro w hSw; clear hSw; go_simp; (try with_reducible rfl)
    refine takeS (i := 19) (v := ?_) HFR.out HNS.out HSZ.out HQP.out rfl (by kernel_rfl) (by kernel_rfl) (by decide) (by kernel_rfl) (Or.inl ⟨by rfl, ?_⟩) hHeld rfl (by dsimp only [List.set_cons_succ, List.set_cons_zero]) ?_
    rotate_left
    · intro w hSw; clear hSw; go_simp; (try with_reducible rfl)
    refine takeS (i := 20) (v := ?_) HFR.out HNS.out HSZ.out HQP.out rfl (by kernel_rfl) (by kernel_rfl) (by decide) (by kernel_rfl) (Or.inl ⟨by rfl, ?_⟩) hHeld rfl (by dsimp only [List.set_cons_succ, List.set_cons_zero]) ?_
    rotate_left
    · intro w hSw; clear hSw; go_simp; (try with_reducible rfl)
    refine takeS (i := 21) (v := ?_) HFR.out HNS.out HSZ.out HQP.out rfl (by kernel_rfl) (by kernel_rfl) (by decide) (by kernel_rfl) (Or.inl ⟨by rfl, ?_⟩) hHeld rfl (by dsimp only [List.set_cons_succ, List.set_cons_zero]) ?_
    rotate_left
    · intro w hSw; clear hSw; go_simp; (try with_reducible rfl)
    refine takeS (i := 22) (v := ?_) HFR.out HNS.out HSZ.out HQP.out rfl (by kernel_rfl) (by kernel_rfl) (by decide) (by kernel_rfl) (Or.inl ⟨by rfl, ?_⟩) hHeld rfl (by dsimp only [List.set_cons_succ, List.set_cons_zero]) ?_
    rotate_left
    · intro w hSw; clear hSw; go_simp; (try with_reducible rfl)
    refine takeS (i := 23) (v := ?_) HFR.out HNS.out HSZ.out HQP.out rfl (by kernel_rfl) (by kernel_rfl) (by decide) (by kernel_rfl) (Or.inl ⟨by rfl, ?_⟩) hHeld rfl (by dsimp only [List.set_cons_succ, List.set_cons_zero]) ?_
    rotate_left
    · intro w hSw; clear hSw; go_simp; (try with_reducible rfl)
    as_aux_lemma =>
    refine takeS (i := 24) (v := ?_) HFR.out HNS.out HSZ.out HQP.out rfl (by kernel_rfl) (by kernel_rfl) (by decide) (by kernel_rfl) (Or.inl ⟨by rfl, ?_⟩) hHeld rfl (by dsimp only [List.set_cons_succ, List.set_cons_zero]) ?_
    rotate_left
    · intro w hSw; clear hSw; go_simp; (try with_reducible rfl)
    refine takeS (i := 25) (v := ?_) HFR.out HNS.out HSZ.out HQP.out rfl (by kernel_rfl) (by kernel_rfl) (by decide) (by kernel_rfl) (Or.inl ⟨by rfl, ?_⟩) hHeld rfl (by dsimp only [List.set_cons_succ, List.set_cons_zero]) ?_
    rotate_left
    · intro w hSw; clear hSw; go_simp; (try with_reducible rfl)
    refine takeS (i := 26) (v := ?_) HFR.out HNS.out HSZ.out HQP.out rfl (by kernel_rfl) (by kernel_rfl) (by decide) (by kernel_rfl) (Or.inl ⟨by rfl, ?_⟩) hHeld rfl (by dsimp only [List.set_cons_succ, List.set_cons_zero]) ?_
    rotate_left
    · intro w hSw; clear hSw; go_simp; (try with_reducible rfl)
    refine callS (i := 27) HSZ.out (by kernel_rfl) (by kernel_rfl) rfl (fun K hK => ?_)
    go_simp
    (go_at_call 24; (with_reducible refine (HFL.out v1 hb1).mono ?_); rintro e v2 ⟨rfl, hx2⟩; have hb2 := bthen hb1 (Nat.le_refl _) hx2; clear hx1)
    refine hK.out _ _ ⟨hHeld.1.below hx2, hHeld.2.1.below hx2, hHeld.2.2.below hx2⟩ (fun hHeldN => ?_)
    clear hK K hHeld
    try simp only [Act.put, List.setIfInBounds_toArray, List.set_cons_zero, List.set_cons_succ]
    have hHeld := hHeldN
    clear hHeldN
    refine takeS (i := 28) (v := ?_) HFR.out HNS.out HSZ.out HQP.out rfl (by kernel_rfl) (by kernel_rfl) (by decide) (by kernel_rfl) (Or.inl ⟨by rfl, ?_⟩) hHeld rfl (by dsimp only [List.set_cons_succ, List.set_cons_zero]) ?_
    rotate_left
    · intro w hSw; clear hSw; go_simp; (try with_reducible rfl)
    refine takeS (i := 29) (v := ?_) HFR.out HNS.out HSZ.out HQP.out rfl (by kernel_rfl) (by kernel_rfl) (by decide) (by kernel_rfl) (Or.inl ⟨by rfl, ?_⟩) hHeld rfl (by dsimp only [List.set_cons_succ, List.set_cons_zero]) ?_
    rotate_left
    · intro w hSw; clear hSw; go_simp; (try with_reducible rfl)
    refine takeS (i := 30) (v := ?_) HFR.out HNS.out HSZ.out HQP.out rfl (by kernel_rfl) (by kernel_rfl) (by decide) (by kernel_rfl) (Or.inl ⟨by rfl, ?_⟩) hHeld rfl (by dsimp only [List.set_cons_succ, List.set_cons_zero]) ?_
    rotate_left
    · intro w hSw; clear hSw; go_simp; (try with_reducible rfl)
    refine takeS (i := 31) (v := ?_) HFR.out HNS.out HSZ.out HQP.out rfl (by kernel_rfl) (by kernel_rfl) (by decide) (by kernel_rfl) (Or.inl ⟨by rfl, ?_⟩) hHeld rfl (by dsimp only [List.set_cons_succ, List.set_cons_zero]) ?_
    rotate_left
    · intro w hSw; clear hSw; go_simp; (try with_reducible rfl)
    refine takeS (i := 32) (v := ?_) HFR.out HNS.out HSZ.out HQP.out rfl (by kernel_rfl) (by kernel_rfl) (by decide) (by kernel_rfl) (Or.inl ⟨by rfl, ?_⟩) hHeld rfl (by dsimp only [List.set_cons_succ, List.set_cons_zero]) ?_
    rotate_left
    · intro w hSw; clear hSw; go_simp; (try with_reducible rfl)
    refine takeS (i := 33) (v := ?_) HFR.out HNS.out HSZ.out HQP.out rfl (by kernel_rfl) (by kernel_rfl) (by decide) (by kernel_rfl) (Or.inl ⟨by rfl, ?_⟩) hHeld rfl (by dsimp only [List.set_cons_succ, List.set_cons_zero]) ?_
    rotate_left
    · intro w hSw; clear hSw; go_simp; (try with_reducible rfl)
    refine takeS (i := 34) (v := ?_) HFR.out HNS.out HSZ.out HQP.out rfl (by kernel_rfl) (by kernel_rfl) (by decide) (by kernel_rfl) (Or.inl ⟨by rfl, ?_⟩) hHeld rfl (by dsimp only [List.set_cons_succ, List.set_cons_zero]) ?_
    rotate_left
    · intro w hSw; clear hSw; go_simp; (try with_reducible rfl)
    refine takeS (i := 35) (v := ?_) HFR.out HNS.out HSZ.out HQP.out rfl (by kernel_rfl) (by kernel_rfl) (by decide) (by kernel_rfl) (Or.inl ⟨by rfl, ?_⟩) hHeld rfl (by dsimp only [List.set_cons_succ, List.set_cons_zero]) ?_
    rotate_left
    · intro w hSw; clear hSw; go_simp; (try with_reducible rfl)
    as_aux_lemma =>
    refine takeS (i := 36) (v := ?_) HFR.out HNS.out HSZ.out HQP.out rfl (by kernel_rfl) (by kernel_rfl) (by decide) (by kernel_rfl) (Or.inl ⟨by rfl, ?_⟩) hHeld rfl (by dsimp only [List.set_cons_succ, List.set_cons_zero]) ?_
    rotate_left
    · intro w hSw; clear hSw; go_simp; (try with_reducible rfl)
    refine takeS (i := 37) (v := ?_) HFR.out HNS.out HSZ.out HQP.out rfl (by kernel_rfl) (by kernel_rfl) (by decide) (by kernel_rfl) (Or.inl ⟨by rfl, ?_⟩) hHeld rfl (by dsimp only [List.set_cons_succ, List.set_cons_zero]) ?_
    rotate_left
    · intro w hSw; clear hSw; go_simp; (try with_reducible rfl)
    refine callS (i := 38) HSZ.out (by kernel_rfl) (by kernel_rfl) rfl (fun K hK => ?_)
    go_simp
    (go_at_call 24; (with_reducible refine (HFH.out v2 hb2).mono ?_); rintro e v3 ⟨rfl, hx3⟩; have hb3 := bthen hb2 (Nat.le_refl _) hx3; clear hx2)
    refine hK.out _ _ ⟨hHeld.1.below hx3, hHeld.2.1.below hx3, hHeld.2.2.below hx3⟩ (fun hHeldN => ?_)
    clear hK K hHeld
    try simp only [Act.put, List.setIfInBounds_toArray, List.set_cons_zero, List.set_cons_succ]
    have hHeld := hHeldN
    clear hHeldN
    refine takeS (i := 39) (v := ?_) HFR.out HNS.out HSZ.out HQP.out rfl (by kernel_rfl) (by kernel_rfl) (by decide) (by kernel_rfl) (Or.inl ⟨by rfl, ?_⟩) hHeld rfl (by dsimp only [List.set_cons_succ, List.set_cons_zero]) ?_
    rotate_left
    · intro w hSw; clear hSw; go_simp; (try with_reducible rfl)
    refine takeS (i := 40) (v := ?_) HFR.out HNS.out HSZ.out HQP.out rfl (by kernel_rfl) (by kernel_rfl) (by decide) (by kernel_rfl) (Or.inl ⟨by rfl, ?_⟩) hHeld rfl (by dsimp only [List.set_cons_succ, List.set_cons_zero]) ?_
    rotate_left
    · intro w hSw; clear hSw; go_simp; (try with_reducible rfl)
    refine takeS (i := 41) (v := ?_) HFR.out HNS.out HSZ.out HQP.out rfl (by kernel_rfl) (by kernel_rfl) (by decide) (by kernel_rfl) (Or.inl ⟨by rfl, ?_⟩) hHeld rfl (by dsimp only [List.set_cons_succ, List.set_cons_zero]) ?_
    rotate_left
    · intro w hSw; clear hSw; go_simp; (try with_reducible rfl)
    refine takeS (i := 42) (v := ?_) HFR.out HNS.out HSZ.out HQP.out rfl (by kernel_rfl) (by kernel_rfl) (by decide) (by kernel_rfl) (Or.inl ⟨by rfl, ?_⟩) hHeld rfl (by dsimp only [List.set_cons_succ, List.set_cons_zero]) ?_
    rotate_left
    · intro w hSw; clear hSw; go_simp; (try with_reducible rfl)
    refine takeS (i := 43) (v := ?_) HFR.out HNS.out HSZ.out HQP.out rfl (by kernel_rfl) (by kernel_rfl) (by decide) (by kernel_rfl) (Or.inl ⟨by rfl, ?_⟩) hHeld rfl (by dsimp only [List.set_cons_succ, List.set_cons_zero]) ?_
    rotate_left
    · intro w hSw; clear hSw; go_simp; (try with_reducible rfl)
    refine takeS (i := 44) (v := ?_) HFR.out HNS.out HSZ.out HQP.out rfl (by kernel_rfl) (by kernel_rfl) (by decide) (by kernel_rfl) (Or.inl ⟨by rfl, ?_⟩) hHeld rfl (by dsimp only [List.set_cons_succ, List.set_cons_zero]) ?_
    rotate_left
    · intro w hSw; clear hSw; go_simp; (try with_reducible rfl)
    refine takeS (i := 45) (v := ?_) HFR.out HNS.out HSZ.out HQP.out rfl (by kernel_rfl) (by kernel_rfl) (by decide) (by kernel_rfl) (Or.inl ⟨by rfl, ?_⟩) hHeld rfl (by dsimp only [List.set_cons_succ, List.set_cons_zero]) ?_
    rotate_left
    · intro w hSw; clear hSw; go_simp; (try with_reducible rfl)
    refine takeS (i := 46) (v := ?_) HFR.out HNS.out HSZ.out HQP.out rfl (by kernel_rfl) (by kernel_rfl) (by decide) (by kernel_rfl) (Or.inl ⟨by rfl, ?_⟩) hHeld rfl (by dsimp only [List.set_cons_succ, List.set_cons_zero]) ?_
    rotate_left
    · intro w hSw; clear hSw; go_simp; (try with_reducible rfl)
    refine takeS (i := 47) (v := ?_) HFR.out HNS.out HSZ.out HQP.out rfl (by kernel_rfl) (by kernel_rfl) (by decide) (by kernel_rfl) (Or.inl ⟨by rfl, ?_⟩) hHeld rfl (by dsimp only [List.set_cons_succ, List.set_cons_zero]) ?_
    rotate_left
    · intro w hSw; obtain ⟨⟨p0, p1, _⟩, ⟨r0, r1, _⟩, ⟨s0, s1, s2, _⟩⟩ := hSw; go_simp; (try with_reducible rfl)
    as_aux_lemma =>
    refine takeS (i := 48) (v := ?_) HFR.out HNS.out HSZ.out HQP.out rfl (by kernel_rfl) (by kernel_rfl) (by decide) (by kernel_rfl) (Or.inl ⟨by rfl, ?_⟩) hHeld rfl (by dsimp only [List.set_cons_succ, List.set_cons_zero]) ?_
    rotate_left
    · intro w hSw; obtain ⟨⟨p0, p1, _⟩, ⟨r0, r1, _⟩, ⟨s0, s1, s2, _⟩⟩ := hSw; go_simp; (try with_reducible rfl)
    refine takeS (i := 49) (v := ?_) HFR.out HNS.out HSZ.out HQP.out rfl (by kernel_rfl) (by kernel_rfl) (by decide) (by kernel_rfl) (Or.inl ⟨by rfl, ?_⟩) hHeld rfl (by dsimp only [List.set_cons_succ, List.set_cons_zero]) ?_
    rotate_left
    · intro w hSw; clear hSw; go_simp; (try with_reducible rfl)
    refine takeS (i := 50) (v := ?_) HFR.out HNS.out HSZ.out HQP.out rfl (by kernel_rfl) (by kernel_rfl) (by decide) (by kernel_rfl) (Or.inl ⟨by rfl, ?_⟩) hHeld rfl (by dsimp only [List.set_cons_succ, List.set_cons_zero]) ?_
    rotate_left
    · intro w hSw; clear hSw; go_simp; (try with_reducible rfl)
    refine takeS (i := 51) (v := ?_) HFR.out HNS.out HSZ.out HQP.out rfl (by kernel_rfl) (by kernel_rfl) (by decide) (by kernel_rfl) (Or.inl ⟨by rfl, ?_⟩) hHeld rfl (by dsimp only [List.set_cons_succ, List.set_cons_zero]) ?_
    rotate_left
    · intro w hSw; clear hSw; go_simp; (try with_reducible rfl)
    refine takeS (i := 52) (v := ?_) HFR.out HNS.out HSZ.out HQP.out rfl (by kernel_rfl) (by kernel_rfl) (by decide) (by kernel_rfl) (Or.inl ⟨by rfl, ?_⟩) hHeld rfl (by dsimp only [List.set_cons_succ, List.set_cons_zero]) ?_
    rotate_left
    · intro w hSw; clear hSw; go_simp; (try with_reducible rfl)
    refine takeS (i := 53) (v := ?_) HFR.out HNS.out HSZ.out HQP.out rfl (by kernel_rfl) (by kernel_rfl) (by decide) (by kernel_rfl) (Or.inl ⟨by rfl, ?_⟩) hHeld rfl (by dsimp only [List.set_cons_succ, List.set_cons_zero]) ?_
    rotate_left
    · intro w hSw; clear hSw; go_simp; (try with_reducible rfl)
    refine takeS (i := 54) (v := ?_) HFR.out HNS.out HSZ.out HQP.out rfl (by kernel_rfl) (by kernel_rfl) (by decide) (by kernel_rfl) (Or.inl ⟨by rfl, ?_⟩) hHeld rfl (by dsimp only [List.set_cons_succ, List.set_cons_zero]) ?_
    rotate_left
    · intro w hSw; clear hSw; go_simp; (try with_reducible rfl)
    refine takeS (i := 55) (v := ?_) HFR.out HNS.out HSZ.out HQP.out rfl (by kernel_rfl) (by kernel_rfl) (by decide) (by kernel_rfl) (Or.inl ⟨by rfl, ?_⟩) hHeld rfl (by dsimp only [List.set_cons_succ, List.set_cons_zero]) ?_
    rotate_left
    · intro w hSw; clear hSw; go_simp; (try with_reducible rfl)
    refine takeS (i := 56) (v := ?_) HFR.out HNS.out HSZ.out HQP.out rfl (by kernel_rfl) (by kernel_rfl) (by decide) (by kernel_rfl) (Or.inl ⟨by rfl, ?_⟩) hHeld rfl (by dsimp only [List.set_cons_succ, List.set_cons_zero]) ?_
    rotate_left
    · intro w hSw; clear hSw; go_simp; (try with_reducible rfl)
    refine takeS (i := 57) (v := ?_) HFR.out HNS.out HSZ.out HQP.out rfl (by kernel_rfl) (by kernel_rfl) (by decide) (by kernel_rfl) (Or.inl ⟨by rfl, ?_⟩) hHeld rfl (by dsimp only [List.set_cons_succ, List.set_cons_zero]) ?_
    rotate_left
    · intro w hSw; clear hSw; go_simp; (try with_reducible rfl)
    refine takeS (i := 58) (v := ?_) HFR.out HNS.out HSZ.out HQP.out rfl (by kernel_rfl) (by kernel_rfl) (by decide) (by kernel_rfl) (Or.inl ⟨by rfl, ?_⟩) hHeld rfl (by dsimp only [List.set_cons_succ, List.set_cons_zero]) ?_
    rotate_left
    · intro w hSw; clear hSw; go_simp; (try with_reducible rfl)
    refine takeS (i := 59) (v := ?_) HFR.out HNS.out HSZ.out HQP.out rfl (by kernel_rfl) (by kernel_rfl) (by decide) (by kernel_rfl) (Or.inl ⟨by rfl, ?_⟩) hHeld rfl (by dsimp only [List.set_cons_succ, List.set_cons_zero]) ?_
    rotate_left
    · intro w hSw; clear hSw; go_simp; (try with_reducible rfl)
    as_aux_lemma =>
    refine takeS (i := 60) (v := ?_) HFR.out HNS.out HSZ.out HQP.out rfl (by kernel_rfl) (by kernel_rfl) (by decide) (by kernel_rfl) (Or.inl ⟨by rfl, ?_⟩) hHeld rfl (by dsimp only [List.set_cons_succ, List.set_cons_zero]) ?_
    rotate_left
    · intro w hSw; clear hSw; go_simp; (try with_reducible rfl)
    refine takeS (i := 61) (v := ?_) HFR.out HNS.out HSZ.out HQP.out rfl (by kernel_rfl) (by kernel_rfl) (by decide) (by kernel_rfl) (Or.inl ⟨by rfl, ?_⟩) hHeld rfl (by dsimp only [List.set_cons_succ, List.set_cons_zero]) ?_
    rotate_left
    · intro w hSw; clear hSw; go_simp; (try with_reducible rfl)
    refine takeS (i := 62) (v := ?_) HFR.out HNS.out HSZ.out HQP.out rfl (by kernel_rfl) (by kernel_rfl) (by decide) (by kernel_rfl) (Or.inl ⟨by rfl, ?_⟩) hHeld rfl (by dsimp only [List.set_cons_succ, List.set_cons_zero]) ?_
    rotate_left
    · intro w hSw; clear hSw; go_simp; (try with_reducible rfl)
    refine takeS (i := 63) (v := ?_) HFR.out HNS.out HSZ.out HQP.out rfl (by kernel_rfl) (by kernel_rfl) (by decide) (by kernel_rfl) (Or.inl ⟨by rfl, ?_⟩) hHeld rfl (by dsimp only [List.set_cons_succ, List.set_cons_zero]) ?_
    rotate_left
    · intro w hSw; clear hSw; go_simp; (try with_reducible rfl)
    refine takeS (i := 65) (v := ?_) HFR.out HNS.out HSZ.out HQP.out rfl (by kernel_rfl) (by kernel_rfl) (by decide) (by kernel_rfl) (Or.inl ⟨by rfl, ?_⟩) hHeld rfl (by dsimp only [List.set_cons_succ, List.set_cons_zero]) ?_
    rotate_left
    · intro w hSw; clear hSw; go_simp; (try with_reducible rfl)
    refine takeS (i := 66) (v := ?_) HFR.out HNS.out HSZ.out HQP.out rfl (by kernel_rfl) (by kernel_rfl) (by decide) (by kernel_rfl) (Or.inl ⟨by rfl, ?_⟩) hHeld rfl (by dsimp only [List.set_cons_succ, List.set_cons_zero]) ?_
    rotate_left
    · intro w hSw; clear hSw; go_simp; (try with_reducible rfl)
    refine callS (i := 64) HSZ.out (by kernel_rfl) (by kernel_rfl) rfl (fun K hK => ?_)
    go_simp
    (go_at_call 25; (with_reducible refine (HSI.out v3 hb3).mono ?_); rintro e v4 ⟨rfl, hx4⟩; have hb4 := bthen hb3 (Nat.le_refl _) hx4; clear hx3)
    refine hK.out _ _ ⟨hHeld.1.below hx4, hHeld.2.1.below hx4, hHeld.2.2.below hx4⟩ (fun hHeldN => ?_)
    clear hK K hHeld
    try simp only [Act.put, List.setIfInBounds_toArray, List.set_cons_zero, List.set_cons_succ]
    have hHeld := hHeldN
    clear hHeldN
    refine callS (i := 67) HSZ.out (by kernel_rfl) (by kernel_rfl) rfl (fun K hK => ?_)
    go_simp
    (go_at_call 23; (with_reducible refine (HSS.out v4 hb4).mono ?_); rintro e v5 ⟨rfl, hx5⟩; have hb5 := bthen hb4 (Nat.le_refl _) hx5; clear hx4)
    refine hK.out _ _ ⟨hHeld.1.below hx5, hHeld.2.1.below hx5, hHeld.2.2.below hx5⟩ (fun hHeldN => ?_)
    clear hK K hHeld
    try simp only [Act.put, List.setIfInBounds_toArray, List.set_cons_zero, List.set_cons_succ]
    have hHeld := hHeldN
    clear hHeldN
    refine takeS (i := 68) (v := ?_) HFR.out HNS.out HSZ.out HQP.out rfl (by kernel_rfl) (by kernel_rfl) (by decide) (by kernel_rfl) (Or.inl ⟨by rfl, ?_⟩) hHeld rfl (by dsimp only [List.set_cons_succ, List.set_cons_zero]) ?_
    rotate_left
    · intro w hSw; clear hSw; go_simp; (try with_reducible rfl)
    refine takeS (i := 69) (v := ?_) HFR.out HNS.out HSZ.out HQP.out rfl (by kernel_rfl) (by kernel_rfl) (by decide) (by kernel_rfl) (Or.inl ⟨by rfl, ?_⟩) hHeld rfl (by dsimp only [List.set_cons_succ, List.set_cons_zero]) ?_
    rotate_left
    · intro w hSw; clear hSw; go_simp; (try with_reducible rfl)
    refine takeS (i := 70) (v := ?_) HFR.out HNS.out HSZ.out HQP.out rfl (by kernel_rfl) (by kernel_rfl) (by decide) (by kernel_rfl) (Or.inl ⟨by rfl, ?_⟩) hHeld rfl (by dsimp only [List.set_cons_succ, List.set_cons_zero]) ?_
    rotate_left
    · intro w hSw; clear hSw; go_simp; (try with_reducible rfl)
    refine takeS (i := 71) (v := ?_) HFR.out HNS.out HSZ.out HQP.out rfl (by kernel_rfl) (by kernel_rfl) (by decide) (by kernel_rfl) (Or.inl ⟨by rfl, ?_⟩) hHeld rfl (by dsimp only [List.set_cons_succ, List.set_cons_zero]) ?_
    rotate_left
    · intro w hSw; obtain ⟨⟨p0, p1, _⟩, ⟨r0, r1, _⟩, ⟨s0, s1, s2, _⟩⟩ := hSw; go_simp; (try with_reducible rfl)
    as_aux_lemma =>
    refine takeS (i := 73) (v := ?_) HFR.out HNS.out HSZ.out HQP.out rfl (by kernel_rfl) (by kernel_rfl) (by decide) (by kernel_rfl) (Or.inl ⟨by rfl, ?_⟩) hHeld rfl (by dsimp only [List.set_cons_succ, List.set_cons_zero]) ?_
    rotate_left
    · intro w hSw; obtain ⟨⟨p0, p1, _⟩, ⟨r0, r1, _⟩, ⟨s0, s1, s2, _⟩⟩ := hSw; go_simp; (try with_reducible rfl)
    refine callS (i := 72) HSZ.out (by kernel_rfl) (by kernel_rfl) rfl (fun K hK => ?_)
    go_simp
    (go_at_call 26; (with_reducible refine (HTI.out v5).mono ?_); rintro e v6 ⟨rfl, hx6⟩; have hb6 := bthen hb5 (Nat.le_refl _) hx6; clear hx5)
    refine hK.out _ _ ⟨hHeld.1.below hx6, hHeld.2.1.below hx6, hHeld.2.2.below hx6⟩ (fun hHeldN => ?_)
    clear hK K hHeld
    try simp only [Act.put, List.setIfInBounds_toArray, List.set_cons_zero, List.set_cons_succ]
    have hHeld := hHeldN
    clear hHeldN
    refine callS (i := 74) HSZ.out (by kernel_rfl) (by kernel_rfl) rfl (fun K hK => ?_)
    go_simp
    (go_at_call 27; (with_reducible refine (HTO.out v6).mono ?_); rintro e v7 ⟨rfl, hx7⟩; have hb7 := bthen hb6 (Nat.le_refl _) hx7; clear hx6)
    refine hK.out _ _ ⟨hHeld.1.below hx7, hHeld.2.1.below hx7, hHeld.2.2.below hx7⟩ (fun hHeldN => ?_)
    clear hK K hHeld
    try simp only [Act.put, List.setIfInBounds_toArray, List.set_cons_zero, List.set_cons_succ]
    have hHeld := hHeldN
    clear hHeldN
    refine takeS (i := 75) (v := ?_) HFR.out HNS.out HSZ.out HQP.out rfl (by kernel_rfl) (by kernel_rfl) (by decide) (by kernel_rfl) (Or.inl ⟨by rfl, ?_⟩) hHeld rfl (by dsimp only [List.set_cons_succ, List.set_cons_zero]) ?_
    rotate_left
    · intro w hSw; clear hSw; go_simp; (try with_reducible rfl)
    refine takeS (i := 76) (v := ?_) HFR.out HNS.out HSZ.out HQP.out rfl (by kernel_rfl) (by kernel_rfl) (by decide) (by kernel_rfl) (Or.inl ⟨by rfl, ?_⟩) hHeld rfl (by dsimp only [List.set_cons_succ, List.set_cons_zero]) ?_
    rotate_left
    · intro w hSw; clear hSw; go_simp; (try with_reducible rfl)
    refine takeS (i := 77) (v := ?_) HFR.out HNS.out HSZ.out HQP.out rfl (by kernel_rfl) (by kernel_rfl) (by decide) (by kernel_rfl) (Or.inl ⟨by rfl, ?_⟩) hHeld rfl (by dsimp only [List.set_cons_succ, List.set_cons_zero]) ?_
    rotate_left
    · intro w hSw; clear hSw; go_simp; (try with_reducible rfl)
    refine takeS (i := 78) (v := ?_) HFR.out HNS.out HSZ.out HQP.out rfl (by kernel_rfl) (by kernel_rfl) (by decide) (by kernel_rfl) (Or.inl ⟨by rfl, ?_⟩) hHeld rfl (by dsimp only [List.set_cons_succ, List.set_cons_zero]) ?_
    rotate_left
    · intro w hSw; clear hSw; go_simp; (try with_reducible rfl)
    refine takeS (i := 80) (v := ?_) HFR.out HNS.out HSZ.out HQP.out rfl (by kernel_rfl) (by kernel_rfl) (by decide) (by kernel_rfl) (Or.inl ⟨by rfl, ?_⟩) hHeld rfl (by dsimp only [List.set_cons_succ, List.set_cons_zero]) ?_
    rotate_left
    · intro w hSw; clear hSw; go_simp; (try with_reducible rfl)
    refine callS (i := 79) HSZ.out (by kernel_rfl) (by kernel_rfl) rfl (fun K hK => ?_)
    go_simp
    (go_at_call 28; (with_reducible refine (HVI.out v7 hb7).mono ?_); rintro e v8 ⟨rfl, hx8⟩; have hb8 := bthen hb7 (Nat.le_refl _) hx8; clear hx7)
    refine hK.out _ _ ⟨hHeld.1.below hx8, hHeld.2.1.below hx8, hHeld.2.2.below hx8⟩ (fun hHeldN => ?_)
    clear hK K hHeld
    try simp only [Act.put, List.setIfInBounds_toArray, List.set_cons_zero, List.set_cons_succ]
    have hHeld := hHeldN
    clear hHeldN
    refine callS (i := 81) HSZ.out (by kernel_rfl) (by kernel_rfl) rfl (fun K hK => ?_)
    go_simp
    (go_at_call 29; (with_reducible refine (HVS.out v8 hb8).mono ?_); rintro e v9 ⟨rfl, hx9⟩; have hb9 := bthen hb8 (Nat.le_refl _) hx9; clear hx8)
    refine hK.out _ _ ⟨hHeld.1.below hx9, hHeld.2.1.below hx9, hHeld.2.2.below hx9⟩ (fun hHeldN => ?_)
    clear hK K hHeld
    try simp only [Act.put, List.setIfInBounds_toArray, List.set_cons_zero, List.set_cons_succ]
    have hHeld := hHeldN
    clear hHeldN
    refine takeS (i := 82) (v := ?_) HFR.out HNS.out HSZ.out HQP.out rfl (by kernel_rfl) (by kernel_rfl) (by decide) (by kernel_rfl) (Or.inl ⟨by rfl, ?_⟩) hHeld rfl (by dsimp only [List.set_cons_succ, List.set_cons_zero]) ?_
    rotate_left
    · intro w hSw; clear hSw; go_simp; (try with_reducible rfl)
    refine takeS (i := 83) (v := ?_) HFR.out HNS.out HSZ.out HQP.out rfl (by kernel_rfl) (by kernel_rfl) (by decide) (by kernel_rfl) (Or.inl ⟨by rfl, ?_⟩) hHeld rfl (by dsimp only [List.set_cons_succ, List.set_cons_zero]) ?_
    rotate_left
    · intro w hSw; clear hSw; go_simp; (try with_reducible rfl)
    as_aux_lemma =>
    refine takeS (i := 84) (v := ?_) HFR.out HNS.out HSZ.out HQP.out rfl (by kernel_rfl) (by kernel_rfl) (by decide) (by kernel_rfl) (Or.inl ⟨by rfl, ?_⟩) hHeld rfl (by dsimp only [List.set_cons_succ, List.set_cons_zero]) ?_
    rotate_left
    · intro w hSw; clear hSw; go_simp; (try with_reducible rfl)
    refine takeS (i := 85) (v := ?_) HFR.out HNS.out HSZ.out HQP.out rfl (by kernel_rfl) (by kernel_rfl) (by decide) (by kernel_rfl) (Or.inl ⟨by rfl, ?_⟩) hHeld rfl (by dsimp only [List.set_cons_succ, List.set_cons_zero]) ?_
    rotate_left
    · intro w hSw; clear hSw; go_simp; (try with_reducible rfl)
    refine takeS (i := 86) (v := ?_) HFR.out HNS.out HSZ.out HQP.out rfl (by kernel_rfl) (by kernel_rfl) (by decide) (by kernel_rfl) (Or.inl ⟨by rfl, ?_⟩) hHeld rfl (by dsimp only [List.set_cons_succ, List.set_cons_zero]) ?_
    rotate_left
    · intro w hSw; clear hSw; go_simp; (try with_reducible rfl)
    refine takeS (i := 88) (v := ?_) HFR.out HNS.out HSZ.out HQP.out rfl (by kernel_rfl) (by kernel_rfl) (by decide) (by kernel_rfl) (Or.inl ⟨by rfl, ?_⟩) hHeld rfl (by dsimp only [List.set_cons_succ, List.set_cons_zero]) ?_
    rotate_left
    · intro w hSw; clear hSw; go_simp; (try with_reducible rfl)
    refine takeS (i := 89) (v := ?_) HFR.out HNS.out HSZ.out HQP.out rfl (by kernel_rfl) (by kernel_rfl) (by decide) (by kernel_rfl) (Or.inl ⟨by rfl, ?_⟩) hHeld rfl (by dsimp only [List.set_cons_succ, List.set_cons_zero]) ?_
    rotate_left
    · intro w hSw; clear hSw; go_simp; (try with_reducible rfl)
    refine callS (i := 87) HSZ.out (by kernel_rfl) (by kernel_rfl) rfl (fun K hK => ?_)
    go_simp
    (go_at_call 30; (with_reducible refine (HWI.out v9 hb9).mono ?_); rintro e v10 ⟨rfl, hx10⟩; have hb10 := bthen hb9 (Nat.le_refl _) hx10; clear hx9)
    refine hK.out _ _ ⟨hHeld.1.below hx10, hHeld.2.1.below hx10, hHeld.2.2.below hx10⟩ (fun hHeldN => ?_)
    clear hK K hHeld
    try simp only [Act.put, List.setIfInBounds_toArray, List.set_cons_zero, List.set_cons_succ]
    have hHeld := hHeldN
    clear hHeldN
    refine callS (i := 90) HSZ.out (by kernel_rfl) (by kernel_rfl) rfl (fun K hK => ?_)
    go_simp
    (go_at_call 31; (with_reducible refine (HWS.out v10 hb10).mono ?_); rintro e v11 ⟨rfl, hx11⟩; have hb11 := bthen hb10 (Nat.le_refl _) hx11; clear hx10)
    refine hK.out _ _ ⟨hHeld.1.below hx11, hHeld.2.1.below hx11, hHeld.2.2.below hx11⟩ (fun hHeldN => ?_)
    clear hK K hHeld
    try simp only [Act.put, List.setIfInBounds_toArray, List.set_cons_zero, List.set_cons_succ]
    have hHeld := hHeldN
    clear hHeldN
    refine takeS (i := 91) (v := ?_) HFR.out HNS.out HSZ.out HQP.out rfl (by kernel_rfl) (by kernel_rfl) (by decide) (by kernel_rfl) (Or.inl ⟨by rfl, ?_⟩) hHeld rfl (by dsimp only [List.set_cons_succ, List.set_cons_zero]) ?_
    rotate_left
    · intro w hSw; clear hSw; go_simp; (try with_reducible rfl)
    refine takeS (i := 92) (v := ?_) HFR.out HNS.out HSZ.out HQP.out rfl (by kernel_rfl) (by kernel_rfl) (by decide) (by kernel_rfl) (Or.inl ⟨by rfl, ?_⟩) hHeld rfl (by dsimp only [List.set_cons_succ, List.set_cons_zero]) ?_
    rotate_left
    · intro w hSw; clear hSw; go_simp; (try with_reducible rfl)
    refine doneS HSZ.out (by kernel_rfl) (by kernel_rfl) (NoPanic.normal ?_)
    go_wp2_with fail
    go_meet
    case rel => exact ⟨by first | rfl | (simp; done), hb11⟩
  case rest =>
  as_aux_lemma =>
  obtain ⟨rfl, hB⟩ := hcut
  have HB := Lib.hid hB
  clear hB
  go_upto_region 23 with fail
  go_cut [255] from 241 to 255 (fun s wx => s = .bool false ∧ Below wk.heap.size wk wx)
  case first =>
    as_aux_lemma =>
    by_cases h1 : ec = 0
    · subst h1
      obtain ⟨k, rfl, hk, _, himp⟩ := lh_walk HE.out.symm
      obtain ⟨⟨p0, p1, pl⟩, _⟩ := HF12.out _ HB.out
      by_cases h2 : 0 < en
      · obtain ⟨ad, rfl, hab, d0, d1, d2⟩ := rdHand (HZ11.out _ HB.out).1 hk
        rw [himp h2] at d2
        have hki : (k : Int) < zs.length := by omega
        clear himp
        go_wp2_with fail
        go_meet
        case rel => exact ⟨by first | rfl | (simp; done), HB.out⟩
      · have h3 : en ≤ 0 := by omega
        clear himp
        go_wp2_with fail
        go_meet
        case rel => exact ⟨by first | rfl | (simp; done), HB.out⟩
    · have h3 : (ec == 0) = false := by rw [beq_eq_false_iff_ne]; exact h1
      go_wp2_with fail
      go_meet
      case rel => exact ⟨by first | rfl | (simp; done), HB.out⟩
  case rest =>
  as_aux_lemma =>
  clear HB
  obtain ⟨rfl, hB⟩ := hcut
  have HB := Lib.hid hB
  clear hB
  go_upto_if 257 with fail
  obtain ⟨b3, hb3⟩ : ∃ b, b = (one == 0) := ⟨_, rfl⟩
  rw [← hb3]
  go_cut [2] from 256 to 324 (fun s wx => s = .bool false ∧ Below wk.heap.size wk wx)
  case first =>
    as_aux_lemma =>
    cases b3
    · go_wp2_with fail
      go_meet
      case rel => exact ⟨rfl, HB.out⟩
    obtain rfl : one = 0 := by simpa using hb3.symm
    clear hb3
    obtain ⟨hv, hmax⟩ := bd_walk HD.out.symm
    obtain ⟨_, hw, _, hf, _⟩ := vw_bds hv
    have HMX := Lib.hid hmax
    have HFL := Lib.hid hf
    have HSB : Hid (∀ (d : Int) (j : Nat), 0 ≤ dsum (ws.take j) d ∧ dsum (ws.take j) d ≤ 10000000) := Lib.hid fun d j => dsum_bd hf hw d j
    have HU : Hid (∀ (d : Int) (j : Nat) (hj : j < ws.length), dsum (ws.take (j + 1)) d = dsum (ws.take j) d + if (ws[j].2.1 == d) = true then ws[j].2.2.1 else 0) := Lib.hid fun d j hj => dsum_succ ws _ hj
    have HT : Hid (∀ (d : Int) (j : Nat), ws.length ≤ j → dsum (ws.take j) d = dsum ws d) := Lib.hid fun d j hj => by rw [List.take_of_length_le hj]
    clear hv hmax hf
    go_wp2_with fail
    go_loopw [39, 40] (fun s i wr => ∃ j : Nat, j ≤ ws.length ∧ i = .int .i64 j ∧ s = .int .i64 (dsum (ws.take j) day) ∧ Hid (Below wk.heap.size wk wr)) (fun _ i _ => ws.length - (intOf i).toNat)
    case atStart => exact ⟨0, by omega, rfl, rfl, HB⟩
    case round =>
      clear HB
      obtain ⟨j, hj, rfl, rfl, HB⟩ := hrel
      obtain ⟨wu, rfl⟩ : ∃ q, q = wr := ⟨_, rfl⟩
      obtain ⟨t0, t1⟩ := HSB.out day j
      by_cases hjn : j < ws.length
      · obtain ⟨ad2, rfl, hab2, e0, e1, e2, e3⟩ := rdWork (HY4.out _ HB.out).2 hjn
        have hj0 : (j : Int) < ws.length := by omega
        have HUj := Lib.hid (HU.out day j hjn)
        obtain ⟨l0, l1⟩ := HFL.out _ (List.getElem_mem hjn)
        unfold fLaid at l0 l1
        cases hd : (ws[j].2.1 == day)
        · go_wp2_with fail
          go_roundw
          case rel => exact ⟨j + 1, by omega, by go_num, by rw [HUj.out, hd]; simp, HB⟩
          case measure => simp [intOf]; omega
        · go_wp2_with fail
          go_roundw
          case rel => exact ⟨j + 1, by omega, by go_num, by rw [HUj.out, hd]; simp, HB⟩
          case measure => simp [intOf]; omega
      · have hj0 : (ws.length : Int) ≤ j := by omega
        rw [HT.out day j (by omega)] at t0 t1
        rw [HT.out day j (by omega)]
        obtain ⟨most, hmost⟩ : ∃ m, m = dsum ws day := ⟨_, rfl⟩
        rw [← hmost] at t0 t1
        rw [← hmost]
        have HMOST := Lib.hid hmost
        clear hmost
        go_wp2_with fail
        go_loopw [2, 41, 42, 43] (fun z i _ _ wr => ∃ j1 : Nat, j1 ≤ ws.length ∧ z = .bool false ∧ i = .int .i64 j1 ∧ Hid (Below wk.heap.size wk wr)) (fun _ i _ _ _ => ws.length - (intOf i).toNat)
        case atStart => exact ⟨0, by omega, rfl, rfl, HB⟩
        case round =>
          clear HB
          obtain ⟨j1, hj1, rfl, rfl, HB⟩ := hrel
          obtain ⟨wv, rfl⟩ : ∃ q, q = wr := ⟨_, rfl⟩
          by_cases hlt1 : j1 < ws.length
          rotate_left
          · have hii : (ws.length : Int) ≤ j1 := by omega
            go_wp2_with fail
            go_meet
            case rel => exact ⟨rfl, HB.out⟩
          have hii : (j1 : Int) < ws.length := by omega
          obtain ⟨hm1, hm2⟩ := HMX.out j1 hlt1
          rw [← HMOST.out] at hm1 hm2
          have HM1 := Lib.hid hm1
          have HM2 := Lib.hid hm2
          obtain ⟨dy, hdy⟩ : ∃ d, d = ws[j1].2.1 := ⟨_, rfl⟩
          rw [← hdy] at HM1 HM2
          have HDY := Lib.hid hdy
          clear hm1 hm2 hdy
          go_wp2_with fail
          go_loopw [42, 43] (fun s i wr => ∃ j : Nat, j ≤ ws.length ∧ i = .int .i64 j ∧ s = .int .i64 (dsum (ws.take j) dy) ∧ Hid (Below wk.heap.size wk wr)) (fun _ i _ => ws.length - (intOf i).toNat)
          case atStart => exact ⟨0, by omega, rfl, rfl, HB⟩
          case round =>
            clear HB
            obtain ⟨k1, hk1, rfl, rfl, HB⟩ := hrel
            obtain ⟨s0, s1⟩ := HSB.out dy k1
            obtain ⟨ad2, rfl, hab2, e0, e1, e2, e3⟩ := rdWork (HY4.out _ HB.out).2 hlt1
            rw [← HDY.out] at e1
            by_cases hkn : k1 < ws.length
            · obtain ⟨ad3, hA, hab3, f0, f1, f2, f3⟩ := rdWork (HY4.out _ HB.out).2 hkn
              cases hA
              have hk0 : (k1 : Int) < ws.length := by omega
              have HUk := Lib.hid (HU.out dy k1 hkn)
              obtain ⟨l0, l1⟩ := HFL.out _ (List.getElem_mem hkn)
              unfold fLaid at l0 l1
              clear e0 e2 e3 f0 f3
              go_upto_region 39 with fail
              go_quiet (fail)
              cases hd : (ws[k1].2.1 == dy)
              · go_wp2_with fail
                go_roundw
                case rel => exact ⟨k1 + 1, by omega, by go_num, by rw [HUk.out, hd]; simp, Lib.hid (below_drewN HB.out _)⟩
                case measure => simp [intOf]; omega
              · go_wp2_with fail
                go_roundw
                case rel => exact ⟨k1 + 1, by omega, by go_num, by rw [HUk.out, hd]; simp, Lib.hid (below_drewN HB.out _)⟩
                case measure => simp [intOf]; omega
            · have hk0 : (ws.length : Int) ≤ k1 := by omega
              rw [HT.out dy k1 (by omega)] at s0 s1
              rw [HT.out dy k1 (by omega)]
              have m1 := HM1.out
              have m2 := HM2.out
              generalize dsum ws dy = sm at *
              by_cases hq : sm = most
              · subst hq
                have m3 := m2 rfl
                clear m2 e0 e2 e3
                go_wp2_with fail
                go_roundw
                case rel => exact ⟨j1 + 1, by omega, rfl, by go_num, HB⟩
                case measure => simp [intOf]; omega
              · have hq2 : (sm == most) = false := by rw [beq_eq_false_iff_ne]; exact hq
                clear m2 e0 e2 e3 hq
                go_wp2_with fail
                go_roundw
                case rel => exact ⟨j1 + 1, by omega, rfl, by go_num, HB⟩
                case measure => simp [intOf]; omega
  case rest =>
  as_aux_lemma =>
  clear HB hb3 b3
  obtain ⟨rfl, hB⟩ := hcut
  have HB := Lib.hid hB
  clear hB
  by_cases h1 : pc = 0
  · subst h1
    obtain ⟨rfl, hg⟩ := ah_walk HX.out.symm
    have hcv := implValidGang_any B2 d2 _ _ (HX2.out _ HB.out).1 (fun n hn => by rcases List.mem_append.1 hn with h | h; (focus (exact HOK1.out n h)); (focus (rw [List.mem_singleton.1 h]; exact hokh)))
    rw [hg] at hcv
    have hl : xs.length + 1 ≤ 9223372036854775807 := by have := (HX2.out _ HB.out).1.len63; rw [List.length_append, List.length_singleton] at this; exact this
    simp only [List.length_append, List.length_singleton] at hcv ⊢
    go_wp2_with fail
    refine hcv.mono ?_
    rintro e w9 ⟨rfl, hb9⟩
    go_wp2_with fail
    go_ret
    exact ⟨by first | rfl | (simp; done), HBW.out _ (bthen HB.out (Nat.le_refl _) hb9)⟩
  · have h3 : (pc != 0) = true := by rw [bne_iff_ne]; exact h1
    go_wp2_with fail
    go_ret
    exact ⟨by first | rfl | (simp; done), HBW.out _ HB.out⟩
end Go.Proofs.YtofcmljnckdknaaDoor
