/-
  FnScaffolds returns true for every argument: the walk.
-/
import Derived.Test.YtamhkiakplmlmaaDoorScafsLaw
import Derived.Test.YtamhkiakplmlmaaDoorScafT
import Derived.Test.YtamhkiakplmlmaaDoorScSame
import Derived.Test.YtamhkiakplmlmaaDoorScDrawC
import Derived.Test.YtamhkiakplmlmaaDoorScDrawD
import Derived.Test.YtamhkiakplmlmaaDoorF6a
import Derived.Deep.CutRange
import Derived.Lib.MinMax
import Derived.Test.YtamhkiakplmlmaaDoorSched
namespace Go.Proofs.YtamhkiakplmlmaaDoor
open Go.ChangeShapes Go.WideShapes Go.RowKit

/-- a scaffold that lies in a box -/
structure BoxS (w : World) (b : Nat) (A : Option Addr) (c : Nat) (x : List Int) (At : Option Addr) (ct : Nat) (xt : List Int) (N : Int) : Prop where
  c0 : w.cell? ⟨b, 0, none⟩ = some (.slice A x.length c)
  c1 : w.cell? ⟨b, 1, none⟩ = some (.slice At xt.length ct)
  c2 : w.cell? ⟨b, 2, none⟩ = some (.int .i64 N)
  lt : b < w.heap.size
theorem BoxS.below {w w' : World} {b : Nat} {A : Option Addr} {c : Nat} {x : List Int} {At : Option Addr} {ct : Nat} {xt : List Int} {N : Int} (h : BoxS w b A c x At ct xt N) (hb : Below w.heap.size w w') : BoxS w' b A c x At ct xt N :=
  ⟨(hb.cell (p := ⟨b, 0, none⟩) h.lt).trans h.c0, (hb.cell (p := ⟨b, 1, none⟩) h.lt).trans h.c1, (hb.cell (p := ⟨b, 2, none⟩) h.lt).trans h.c2, by have := h.lt; have := hb.size; omega⟩
theorem BoxS.new {w : World} {A : Option Addr} {c : Nat} {x : List Int} {At : Option Addr} {ct : Nat} {xt : List Int} {N : Int} : BoxS (w.alloc (.cells #[.slice A x.length c, .slice At xt.length ct, .int .i64 N] 26)) w.heap.size A c x At ct xt N :=
  ⟨by go_simp, by go_simp, by go_simp, by simp⟩
/-- a stand that lies in a box -/
structure BoxT (w : World) (b : Nat) (x : StandD) : Prop where
  c0 : w.cell? ⟨b, 0, none⟩ = some (.int .i64 x.1)
  c1 : w.cell? ⟨b, 1, none⟩ = some (.int .i64 x.2.1)
  c2 : w.cell? ⟨b, 2, none⟩ = some (.int .i64 x.2.2)
  lt : b < w.heap.size
theorem BoxT.below {w w' : World} {b : Nat} {x : StandD} (h : BoxT w b x) (hb : Below w.heap.size w w') : BoxT w' b x :=
  ⟨(hb.cell (p := ⟨b, 0, none⟩) h.lt).trans h.c0, (hb.cell (p := ⟨b, 1, none⟩) h.lt).trans h.c1, (hb.cell (p := ⟨b, 2, none⟩) h.lt).trans h.c2, by have := h.lt; have := hb.size; omega⟩
theorem BoxT.new {w : World} {x : StandD} : BoxT (w.alloc (.cells #[.int .i64 x.1, .int .i64 x.2.1, .int .i64 x.2.2] 33)) w.heap.size x := ⟨by go_simp, by go_simp, by go_simp, by simp⟩
theorem neqStand (a b c : Int) (w : World) : Sem.run Tryd.prog (binOp .neq 33 (.agg #[.int .i64 a, .int .i64 b, .int .i64 c]) (.agg #[.int .i64 a, .int .i64 b, .int .i64 c])) w = .ok (.bool false) w := by
  rw [run_neq_struct, run_equalIn_struct _ _ _ _ _ (by kernel_rfl) (by kernel_rfl)]
  simp [go_sem, Tryd.underlying33, Tryd.underlying2]
set_option maxRecDepth 100000 in
set_option maxHeartbeats 12800000 in
theorem lawScaffolds_any (A : Option Addr) (c : Nat) (cs : List Int) (w : World) (hr : Rd LU w w.heap.size A c cs) (hb : ∀ x ∈ cs, 0 ≤ x ∧ x ≤ 255) (hT : TabW w) :
    Calls Tryd.prog 3 #[.slice A cs.length c] w fun e w' => e = .returned (.bool true) ∧ Below w.heap.size w w' := by
  have hlen := hr.len63
  have h6 := f6big_any A c cs.length w (by omega)
  have HK0 := Lib.hid (fun (W : World) (h : Below w.heap.size w W) => And.intro ((hr.below h).more h.size) (And.intro h (tab_below hT h (Nat.le_refl _))))
  have HBY := Lib.hid hb
  have hc1 := drawRoom_any A c cs w hr hb
  clear hr hb hT
  cases hbig : decide (4096 < cs.length)
  rotate_left
  · rw [hbig] at h6
    clear hc1
    go_enter Tryd.func3, Tryd.ntmps3
    go_wp2_with fail
    refine h6.mono ?_
    rintro e w1 ⟨rfl, rfl⟩
    go_wp2_with fail
    go_ret
    exact ⟨rfl, Below.refl _ _⟩
  rw [hbig] at h6
  go_enter Tryd.func3, Tryd.ntmps3
  go_wp2_with fail
  refine h6.mono ?_
  rintro e w0 ⟨rfl, rfl⟩
  go_wp2_with fail
  refine hc1.mono ?_
  rintro e w1 ⟨Ab, cb, xb, At, ct, xt, N, B1, d1, ss, tier, rfl, hx1, hx2, hx3, hrb, hrt, hrs, hb1⟩
  obtain ⟨W1, hW1⟩ : ∃ W, W = w1.alloc (.cells #[.slice Ab xb.length cb, .slice At xt.length ct, .int .i64 N] 26) := ⟨_, rfl⟩
  have hal : Below w1.heap.size w1 (w1.alloc (.cells #[.slice Ab xb.length cb, .slice At xt.length ct, .int .i64 N] 26)) := (Below.refl _ _).alloc (Nat.le_refl _) _
  have hbz := bthen hb1 (Nat.le_refl _) hal
  have hbx := BoxS.new (w := w1) (A := Ab) (c := cb) (x := xb) (At := At) (ct := ct) (xt := xt) (N := N)
  have hfx0 := (hrb.below hal).more hal.size
  have hfx1 := (hrt.below hal).more hal.size
  have hfx2 := (hrs.below hal).more hal.size
  rw [← hW1] at hal hbz hbx hfx0 hfx1 hfx2
  have HK1 := Lib.hid (fun (W : World) (hW : Below W1.heap.size W1 W) => And.intro (And.intro (And.intro (And.intro (HK0.out W (bthen hbz (Nat.le_refl _) hW)) ((hfx0.below hW).more hW.size)) ((hfx1.below hW).more hW.size)) ((hfx2.below hW).more hW.size)) (hbx.below hW))
  obtain ⟨rf, hrf⟩ : ∃ r, r = rfP xb xt N ss tier := ⟨_, rfl⟩
  obtain ⟨ov, hov⟩ : ∃ r, r = ovP xb xt N ss := ⟨_, rfl⟩
  have HI1 := Lib.hid (fun (W : World) (h1 : Rd LI W W.heap.size Ab cb xb) (h2 : Rd LI W W.heap.size At ct xt) (h3 : Rd LStand W W.heap.size B1 d1 ss) => And.intro (implRoomFor_any Ab cb xb At ct xt N B1 d1 ss tier W h1 h2 h3) (specRoomFor_any Ab cb xb At ct xt N B1 d1 ss tier W h1 h2 h3))
  have HI2 := Lib.hid (fun (W : World) (h1 : Rd LI W W.heap.size Ab cb xb) (h2 : Rd LI W W.heap.size At ct xt) (h3 : Rd LStand W W.heap.size B1 d1 ss) => And.intro (implOverloadOf_any Ab cb xb At ct xt N B1 d1 ss W h1 h2 h3) (specOverloadOf_any Ab cb xb At ct xt N B1 d1 ss W h1 h2 h3))
  have HI9 := Lib.hid (fun (W : World) (h1 : Rd LI W W.heap.size Ab cb xb) (h2 : Rd LI W W.heap.size At ct xt) => And.intro (implValidScaffold_any Ab cb xb At ct xt N W h1 h2) (specValidScaffold_any Ab cb xb At ct xt N W h1 h2))
  rw [← hrf] at HI1
  rw [← hov] at HI2
  obtain ⟨M, pc⟩ := rf
  obtain ⟨much, oc⟩ := ov
  dsimp only at HI1 HI2
  have HRF := Lib.hid hrf
  have HOV := Lib.hid hov
  have hc2 := (HI1.out W1 ((HK1.out W1 (Below.refl _ _)).1.1.1.2) ((HK1.out W1 (Below.refl _ _)).1.1.2) ((HK1.out W1 (Below.refl _ _)).1.2)).1
  obtain ⟨q0, q1, q2, ql⟩ := (HK1.out W1 (Below.refl _ _)).2
  clear h6 hc1 hrb hrt hrs hb1 hal hbz hbx hfx0 hfx1 hfx2 hlen hbig hrf hov
  go_wp2_with fail
  rw [← hW1]
  clear hW1
  generalize w1.heap.size = bs_ at *
  refine hc2.mono ?_
  rintro e w2 ⟨B2, d2, rfl, ho2, hb2⟩
  have HK2 := Lib.hid (fun (W : World) (hW : Below w2.heap.size w2 W) => And.intro (HK1.out W (bthen hb2 (Nat.le_refl _) hW)) ((ho2.rd.below hW).more hW.size))
  have hc3 := (HI1.out w2 ((HK2.out w2 (Below.refl _ _)).1.1.1.1.2) ((HK2.out w2 (Below.refl _ _)).1.1.1.2) ((HK2.out w2 (Below.refl _ _)).1.1.2)).2
  clear hc2 ho2 hb2 HI1 q0 q1 q2 ql
  obtain ⟨q0, q1, q2, ql⟩ := (HK2.out w2 (Below.refl _ _)).1.2
  as_aux_lemma =>
  go_wp2_with fail
  refine hc3.mono ?_
  rintro e w3 ⟨B3, d3, rfl, ho3, hb3⟩
  have HK3 := Lib.hid (fun (W : World) (hW : Below w3.heap.size w3 W) => And.intro (HK2.out W (bthen hb3 (Nat.le_refl _) hW)) ((ho3.rd.below hW).more hW.size))
  have hc4 := (HI2.out w3 ((HK3.out w3 (Below.refl _ _)).1.1.1.1.1.2) ((HK3.out w3 (Below.refl _ _)).1.1.1.1.2) ((HK3.out w3 (Below.refl _ _)).1.1.1.2)).1
  clear hc3 ho3 hb3 q0 q1 q2 ql
  obtain ⟨q0, q1, q2, ql⟩ := (HK3.out w3 (Below.refl _ _)).1.1.2
  go_wp2_with fail
  refine hc4.mono ?_
  rintro e w4 ⟨rfl, hb4⟩
  obtain ⟨W4, hW4⟩ : ∃ W, W = w4.alloc (.cells #[.int .i64 much.1, .int .i64 much.2.1, .int .i64 much.2.2] 33) := ⟨_, rfl⟩
  have hal : Below w4.heap.size w4 (w4.alloc (.cells #[.int .i64 much.1, .int .i64 much.2.1, .int .i64 much.2.2] 33)) := (Below.refl _ _).alloc (Nat.le_refl _) _
  have hbz := bthen hb4 (Nat.le_refl _) hal
  have hbx := BoxT.new (w := w4) (x := much)
  rw [← hW4] at hal hbz hbx
  have HK4 := Lib.hid (fun (W : World) (hW : Below W4.heap.size W4 W) => And.intro (HK3.out W (bthen hbz (Nat.le_refl _) hW)) (hbx.below hW))
  have hc5 := (HI2.out W4 ((HK4.out W4 (Below.refl _ _)).1.1.1.1.1.1.2) ((HK4.out W4 (Below.refl _ _)).1.1.1.1.1.2) ((HK4.out W4 (Below.refl _ _)).1.1.1.1.2)).2
  clear hc4 hb4 hal hbz hbx q0 q1 q2 ql HI2
  obtain ⟨q0, q1, q2, ql⟩ := (HK4.out W4 (Below.refl _ _)).1.1.1.2
  as_aux_lemma =>
  go_upto_region 7 with fail
  rw [← hW4]
  clear hW4
  generalize w4.heap.size = bo_ at *
  go_wp2_with fail
  refine hc5.mono ?_
  rintro e w5 ⟨rfl, hb5⟩
  obtain ⟨W5, hW5⟩ : ∃ W, W = w5.alloc (.cells #[.int .i64 much.1, .int .i64 much.2.1, .int .i64 much.2.2] 33) := ⟨_, rfl⟩
  have hal : Below w5.heap.size w5 (w5.alloc (.cells #[.int .i64 much.1, .int .i64 much.2.1, .int .i64 much.2.2] 33)) := (Below.refl _ _).alloc (Nat.le_refl _) _
  have hbz := bthen hb5 (Nat.le_refl _) hal
  have hbx := BoxT.new (w := w5) (x := much)
  rw [← hW5] at hal hbz hbx
  have HK5 := Lib.hid (fun (W : World) (hW : Below W5.heap.size W5 W) => And.intro (HK4.out W (bthen hbz (Nat.le_refl _) hW)) (hbx.below hW))
  have hc6 := drawBayAt_any A c cs W5 ((HK5.out W5 (Below.refl _ _)).1.1.1.1.1.1.1.1).1 HBY.out
  clear hc5 hb5 hal hbz hbx q0 q1 q2 ql
  go_wp2_with fail
  rw [← hW5]
  clear hW5
  generalize w5.heap.size = bm_ at *
  refine hc6.mono ?_
  rintro e w6 ⟨Aa, ca, xa, Aat, cat, xat, Na, place, rfl, _, _, hra, hrat, hb6⟩
  obtain ⟨W6, hW6⟩ : ∃ W, W = w6.alloc (.cells #[.slice Aa xa.length ca, .slice Aat xat.length cat, .int .i64 Na] 26) := ⟨_, rfl⟩
  have hal : Below w6.heap.size w6 (w6.alloc (.cells #[.slice Aa xa.length ca, .slice Aat xat.length cat, .int .i64 Na] 26)) := (Below.refl _ _).alloc (Nat.le_refl _) _
  have hbz := bthen hb6 (Nat.le_refl _) hal
  have hbx := BoxS.new (w := w6) (A := Aa) (c := ca) (x := xa) (At := Aat) (ct := cat) (xt := xat) (N := Na)
  have hfx0 := (hra.below hal).more hal.size
  have hfx1 := (hrat.below hal).more hal.size
  rw [← hW6] at hal hbz hbx hfx0 hfx1
  have HK6 := Lib.hid (fun (W : World) (hW : Below W6.heap.size W6 W) => And.intro (And.intro (And.intro (HK5.out W (bthen hbz (Nat.le_refl _) hW)) ((hfx0.below hW).more hW.size)) ((hfx1.below hW).more hW.size)) (hbx.below hW))
  obtain ⟨ba, hba⟩ : ∃ r, r = baP xa xat Na place := ⟨_, rfl⟩
  have HI3 := Lib.hid (fun (W : World) (h1 : Rd LI W W.heap.size Aa ca xa) (h2 : Rd LI W W.heap.size Aat cat xat) => And.intro (implBayAt_any Aa ca xa Aat cat xat Na place W h1 h2) (specBayAt_any Aa ca xa Aat cat xat Na place W h1 h2))
  rw [← hba] at HI3
  obtain ⟨bay, bc⟩ := ba
  dsimp only at HI3
  have HBA := Lib.hid hba
  have hc7 := (HI3.out W6 ((HK6.out W6 (Below.refl _ _)).1.1.2) ((HK6.out W6 (Below.refl _ _)).1.2)).1
  clear hc6 hra hrat hb6 hal hbz hbx hfx0 hfx1 hba
  obtain ⟨q0, q1, q2, ql⟩ := (HK6.out W6 (Below.refl _ _)).2
  as_aux_lemma =>
  go_wp2_with fail
  rw [← hW6]
  clear hW6
  generalize w6.heap.size = ba_ at *
  refine hc7.mono ?_
  rintro e w7 ⟨rfl, hb7⟩
  have HK7 := Lib.hid (fun (W : World) (hW : Below w7.heap.size w7 W) => HK6.out W (bthen hb7 (Nat.le_refl _) hW))
  have hc8 := (HI3.out w7 ((HK7.out w7 (Below.refl _ _)).1.1.2) ((HK7.out w7 (Below.refl _ _)).1.2)).2
  clear hc7 hb7 HI3 q0 q1 q2 ql
  obtain ⟨q0, q1, q2, ql⟩ := (HK7.out w7 (Below.refl _ _)).2
  go_wp2_with fail
  refine hc8.mono ?_
  rintro e w8 ⟨rfl, hb8⟩
  have HK8 := Lib.hid (fun (W : World) (hW : Below w8.heap.size w8 W) => HK7.out W (bthen hb8 (Nat.le_refl _) hW))
  have hc9 := drawTier_any A c cs w8 ((HK8.out w8 (Below.refl _ _)).1.1.1.1.1.1.1.1.1.1.1).1 HBY.out
  clear hc8 hb8 q0 q1 q2 ql
  as_aux_lemma =>
  go_wp2_with fail
  refine hc9.mono ?_
  rintro e w9 ⟨Ac, cc, xc, Act, cct, xct, Nc, height, reach, rfl, _, _, hrc, hrct, hb9⟩
  obtain ⟨W9, hW9⟩ : ∃ W, W = w9.alloc (.cells #[.slice Ac xc.length cc, .slice Act xct.length cct, .int .i64 Nc] 26) := ⟨_, rfl⟩
  have hal : Below w9.heap.size w9 (w9.alloc (.cells #[.slice Ac xc.length cc, .slice Act xct.length cct, .int .i64 Nc] 26)) := (Below.refl _ _).alloc (Nat.le_refl _) _
  have hbz := bthen hb9 (Nat.le_refl _) hal
  have hbx := BoxS.new (w := w9) (A := Ac) (c := cc) (x := xc) (At := Act) (ct := cct) (xt := xct) (N := Nc)
  have hfx0 := (hrc.below hal).more hal.size
  have hfx1 := (hrct.below hal).more hal.size
  rw [← hW9] at hal hbz hbx hfx0 hfx1
  have HK9 := Lib.hid (fun (W : World) (hW : Below W9.heap.size W9 W) => And.intro (And.intro (And.intro (HK8.out W (bthen hbz (Nat.le_refl _) hW)) ((hfx0.below hW).more hW.size)) ((hfx1.below hW).more hW.size)) (hbx.below hW))
  obtain ⟨tf, htf⟩ : ∃ r, r = tfP xc xct Nc height reach := ⟨_, rfl⟩
  have HI4 := Lib.hid (fun (W : World) (h1 : Rd LI W W.heap.size Ac cc xc) (h2 : Rd LI W W.heap.size Act cct xct) => And.intro (implTierFor_any Ac cc xc Act cct xct Nc height reach W h1 h2) (specTierFor_any Ac cc xc Act cct xct Nc height reach W h1 h2))
  rw [← htf] at HI4
  obtain ⟨level, tc⟩ := tf
  dsimp only at HI4
  have HTF := Lib.hid htf
  have hc10 := (HI4.out W9 ((HK9.out W9 (Below.refl _ _)).1.1.2) ((HK9.out W9 (Below.refl _ _)).1.2)).1
  clear hc9 hrc hrct hb9 hal hbz hbx hfx0 hfx1 htf
  obtain ⟨q0, q1, q2, ql⟩ := (HK9.out W9 (Below.refl _ _)).2
  go_wp2_with fail
  rw [← hW9]
  clear hW9
  generalize w9.heap.size = bb_ at *
  refine hc10.mono ?_
  rintro e w10 ⟨rfl, hb10⟩
  have HK10 := Lib.hid (fun (W : World) (hW : Below w10.heap.size w10 W) => HK9.out W (bthen hb10 (Nat.le_refl _) hW))
  have hc11 := (HI4.out w10 ((HK10.out w10 (Below.refl _ _)).1.1.2) ((HK10.out w10 (Below.refl _ _)).1.2)).2
  clear hc10 hb10 HI4 q0 q1 q2 ql
  obtain ⟨q0, q1, q2, ql⟩ := (HK10.out w10 (Below.refl _ _)).2
  as_aux_lemma =>
  go_wp2_with fail
  refine hc11.mono ?_
  rintro e w11 ⟨rfl, hb11⟩
  have HK11 := Lib.hid (fun (W : World) (hW : Below w11.heap.size w11 W) => HK10.out W (bthen hb11 (Nat.le_refl _) hW))
  have hc12 := drawSameSc_any A c cs w11 ((HK11.out w11 (Below.refl _ _)).1.1.1.1.1.1.1.1.1.1.1.1.1.1).1 HBY.out
  clear hc11 hb11 q0 q1 q2 ql
  go_wp2_with fail
  refine hc12.mono ?_
  rintro e w12 ⟨Ad, cd, xd, Adt, cdt, xdt, Nd, Ae, ce, xe, Aet, cet, xet, Ne, rfl, _, _, _, _, hrd, hrdt, hre, hret, hb12⟩
  have hal0 : Below w12.heap.size w12 (w12.alloc (.cells #[.slice Ad xd.length cd, .slice Adt xdt.length cdt, .int .i64 Nd] 26)) := (Below.refl _ _).alloc (Nat.le_refl _) _
  have hbx1 := BoxS.new (w := w12) (A := Ad) (c := cd) (x := xd) (At := Adt) (ct := cdt) (xt := xdt) (N := Nd)
  obtain ⟨v12, hv12⟩ : ∃ W, W = w12.alloc (.cells #[.slice Ad xd.length cd, .slice Adt xdt.length cdt, .int .i64 Nd] 26) := ⟨_, rfl⟩
  have hgy0 := (hrd.below hal0).more hal0.size
  have hgy1 := (hrdt.below hal0).more hal0.size
  have hgy2 := (hre.below hal0).more hal0.size
  have hgy3 := (hret.below hal0).more hal0.size
  rw [← hv12] at hal0 hbx1 hgy0 hgy1 hgy2 hgy3
  have hb12v := bthen hb12 (Nat.le_refl _) hal0
  obtain ⟨W12, hW12⟩ : ∃ W, W = v12.alloc (.cells #[.slice Ae xe.length ce, .slice Aet xet.length cet, .int .i64 Ne] 26) := ⟨_, rfl⟩
  have hal : Below v12.heap.size v12 (v12.alloc (.cells #[.slice Ae xe.length ce, .slice Aet xet.length cet, .int .i64 Ne] 26)) := (Below.refl _ _).alloc (Nat.le_refl _) _
  have hbz := bthen hb12v (Nat.le_refl _) hal
  have hbx := BoxS.new (w := v12) (A := Ae) (c := ce) (x := xe) (At := Aet) (ct := cet) (xt := xet) (N := Ne)
  have hfx0 := (hgy0.below hal).more hal.size
  have hfx1 := (hgy1.below hal).more hal.size
  have hfx2 := (hgy2.below hal).more hal.size
  have hfx3 := (hgy3.below hal).more hal.size
  rw [← hW12] at hal hbz hbx hfx0 hfx1 hfx2 hfx3
  have HK12 := Lib.hid (fun (W : World) (hW : Below W12.heap.size W12 W) => And.intro (And.intro (And.intro (And.intro (And.intro (HK11.out W (bthen hbz (Nat.le_refl _) hW)) ((hfx0.below hW).more hW.size)) ((hfx1.below hW).more hW.size)) ((hfx2.below hW).more hW.size)) ((hfx3.below hW).more hW.size)) (hbx.below hW))
  have hbd := hbx1.below (show Below v12.heap.size v12 W12 by rw [hW12]; exact (Below.refl _ _).alloc (Nat.le_refl _) _)
  have hc13 := drawScText_any A c cs W12 ((HK12.out W12 (Below.refl _ _)).1.1.1.1.1.1.1.1.1.1.1.1.1.1.1.1.1.1.1).1 HBY.out
  have HBD := Lib.hid hbd
  have hbe : v12.heap.size = w12.heap.size + 1 := by rw [hv12]; simp
  clear hc12 hrd hrdt hre hret hb12 hb12v hal0 hbx1 hgy0 hgy1 hgy2 hgy3 hal hbz hbx hfx0 hfx1 hfx2 hfx3 hbd
  as_aux_lemma =>
  go_upto_region 15 with fail
  rw [← hv12, ← hW12]
  clear hv12 hW12
  generalize w12.heap.size = bd_ at *
  generalize v12.heap.size = be_ at *
  subst hbe
  go_wp2_with fail
  refine hc13.mono ?_
  rintro e w13 ⟨Af, cf, xf, Aft, cft, xft, Nf, rfl, _, _, hrf, hrft, hb13⟩
  obtain ⟨wk, hwk⟩ : ∃ W, W = w13.alloc (.cells #[.slice Af xf.length cf, .slice Aft xft.length cft, .int .i64 Nf] 26) := ⟨_, rfl⟩
  have hal : Below w13.heap.size w13 (w13.alloc (.cells #[.slice Af xf.length cf, .slice Aft xft.length cft, .int .i64 Nf] 26)) := (Below.refl _ _).alloc (Nat.le_refl _) _
  have hbz := bthen hb13 (Nat.le_refl _) hal
  have hbx := BoxS.new (w := w13) (A := Af) (c := cf) (x := xf) (At := Aft) (ct := cft) (xt := xft) (N := Nf)
  have hfx0 := (hrf.below hal).more hal.size
  have hfx1 := (hrft.below hal).more hal.size
  rw [← hwk] at hal hbz hbx hfx0 hfx1
  have hex0 := HBD.out.below hbz
  have HK13 := Lib.hid (fun (W : World) (hW : Below wk.heap.size wk W) => And.intro (And.intro (And.intro (And.intro (HK12.out W (bthen hbz (Nat.le_refl _) hW)) ((hfx0.below hW).more hW.size)) ((hfx1.below hW).more hW.size)) (hbx.below hW)) (hex0.below hW))
  clear hc13 hrf hrft hb13 hal hbz hbx hfx0 hfx1 hex0 HBD HBY HK0
  have HX1 : Hid (∀ W, Below wk.heap.size wk W → Rd LI W W.heap.size Ab cb xb ∧ Rd LI W W.heap.size At ct xt) := Lib.hid (fun W hW => ⟨(HK13.out W hW).1.1.1.1.1.1.1.1.1.1.1.1.1.1.1.1.1.1.1.1.1.1.2, (HK13.out W hW).1.1.1.1.1.1.1.1.1.1.1.1.1.1.1.1.1.1.1.1.1.2⟩)
  have HX3 : Hid (∀ W, Below wk.heap.size wk W → Rd LStand W W.heap.size B1 d1 ss) := Lib.hid (fun W hW => (HK13.out W hW).1.1.1.1.1.1.1.1.1.1.1.1.1.1.1.1.1.1.1.1.2)
  have HM5 : Hid (∀ W, Below wk.heap.size wk W → Rd LI W W.heap.size B2 d2 M ∧ Rd LI W W.heap.size B3 d3 M) := Lib.hid (fun W hW => ⟨(HK13.out W hW).1.1.1.1.1.1.1.1.1.1.1.1.1.1.1.1.1.1.2, (HK13.out W hW).1.1.1.1.1.1.1.1.1.1.1.1.1.1.1.1.1.2⟩)
  have HA9 : Hid (∀ W, Below wk.heap.size wk W → Rd LI W W.heap.size Aa ca xa ∧ Rd LI W W.heap.size Aat cat xat) := Lib.hid (fun W hW => ⟨(HK13.out W hW).1.1.1.1.1.1.1.1.1.1.1.1.1.1.2, (HK13.out W hW).1.1.1.1.1.1.1.1.1.1.1.1.1.2⟩)
  have HC12 : Hid (∀ W, Below wk.heap.size wk W → Rd LI W W.heap.size Ac cc xc ∧ Rd LI W W.heap.size Act cct xct) := Lib.hid (fun W hW => ⟨(HK13.out W hW).1.1.1.1.1.1.1.1.1.1.1.2, (HK13.out W hW).1.1.1.1.1.1.1.1.1.1.2⟩)
  have HD15 : Hid (∀ W, Below wk.heap.size wk W → Rd LI W W.heap.size Ad cd xd ∧ Rd LI W W.heap.size Adt cdt xdt ∧ Rd LI W W.heap.size Ae ce xe ∧ Rd LI W W.heap.size Aet cet xet) := Lib.hid (fun W hW => ⟨(HK13.out W hW).1.1.1.1.1.1.1.1.2, (HK13.out W hW).1.1.1.1.1.1.1.2, (HK13.out W hW).1.1.1.1.1.1.2, (HK13.out W hW).1.1.1.1.1.2⟩)
  have HF20 : Hid (∀ W, Below wk.heap.size wk W → Rd LI W W.heap.size Af cf xf ∧ Rd LI W W.heap.size Aft cft xft) := Lib.hid (fun W hW => ⟨(HK13.out W hW).1.1.1.2, (HK13.out W hW).1.1.2⟩)
  have HBS : Hid (∀ W, Below wk.heap.size wk W → BoxS W bs_ Ab cb xb At ct xt N) := Lib.hid (fun W hW => (HK13.out W hW).1.1.1.1.1.1.1.1.1.1.1.1.1.1.1.1.1.1.1.2)
  have HBO : Hid (∀ W, Below wk.heap.size wk W → BoxT W bo_ much ∧ BoxT W bm_ much) := Lib.hid (fun W hW => ⟨(HK13.out W hW).1.1.1.1.1.1.1.1.1.1.1.1.1.1.1.1.2, (HK13.out W hW).1.1.1.1.1.1.1.1.1.1.1.1.1.1.1.2⟩)
  have HBa : Hid (∀ W, Below wk.heap.size wk W → BoxS W ba_ Aa ca xa Aat cat xat Na) := Lib.hid (fun W hW => (HK13.out W hW).1.1.1.1.1.1.1.1.1.1.1.1.2)
  have HBb : Hid (∀ W, Below wk.heap.size wk W → BoxS W bb_ Ac cc xc Act cct xct Nc) := Lib.hid (fun W hW => (HK13.out W hW).1.1.1.1.1.1.1.1.1.2)
  have HBd : Hid (∀ W, Below wk.heap.size wk W → BoxS W bd_ Ad cd xd Adt cdt xdt Nd ∧ BoxS W (bd_ + 1) Ae ce xe Aet cet xet Ne) := Lib.hid (fun W hW => ⟨(HK13.out W hW).2, (HK13.out W hW).1.1.1.1.2⟩)
  have HBf : Hid (∀ W, Below wk.heap.size wk W → BoxS W w13.heap.size Af cf xf Aft cft xft Nf) := Lib.hid (fun W hW => (HK13.out W hW).1.2)
  have HBW : Hid (∀ W, Below wk.heap.size wk W → Below w.heap.size w W ∧ TabW W) := Lib.hid (fun W hW => (HK13.out W hW).1.1.1.1.1.1.1.1.1.1.1.1.1.1.1.1.1.1.1.1.1.1.1.2)
  clear HK13
  as_aux_lemma =>
  go_upto_region 16 with fail
  rw [← hwk]
  clear hwk
  generalize w13.heap.size = bf_ at *
  go_cut [174] from 113 to 174 (fun s wx => s = .bool false ∧ Below wk.heap.size wk wx)
  case first =>
    as_aux_lemma =>
    have hfM := fun (W : World) (hW : Below wk.heap.size wk W) => (f6ints_any B2 B3 d2 d3 M _ W (HM5.out W hW).1 (HM5.out W hW).2).mono (fun e w' (h : e = Ending.returned (.bool true) ∧ Dr W w') => And.intro h.1 (show Below W.heap.size W w' from h.2.below))
    have hsi := fun (W : World) (hW : Below wk.heap.size wk W) => implSameScaffold_any Ad cd xd Adt cdt xdt Nd Ae ce xe Aet cet xet Ne W (HD15.out W hW).1 (HD15.out W hW).2.1 (HD15.out W hW).2.2.1 (HD15.out W hW).2.2.2
    have hss := fun (W : World) (hW : Below wk.heap.size wk W) => specSameScaffold_any Ad cd xd Adt cdt xdt Nd Ae ce xe Aet cet xet Ne W (HD15.out W hW).1 (HD15.out W hW).2.1 (HD15.out W hW).2.2.1 (HD15.out W hW).2.2.2
    have hti := fun (W : World) (hW : Below wk.heap.size wk W) => implScaffoldText_any Af cf xf Aft cft xft Nf W (HF20.out W hW).1 (HF20.out W hW).2 (HBW.out W hW).2
    have hts := fun (W : World) (hW : Below wk.heap.size wk W) => specScaffoldText_any Af cf xf Aft cft xft Nf W (HF20.out W hW).1 (HF20.out W hW).2 (HBW.out W hW).2
    have hvi := fun (W : World) (hW : Below wk.heap.size wk W) => implValidScaffold_any Ab cb xb At ct xt N W (HX1.out W hW).1 (HX1.out W hW).2
    have hvs := fun (W : World) (hW : Below wk.heap.size wk W) => specValidScaffold_any Ab cb xb At ct xt N W (HX1.out W hW).1 (HX1.out W hW).2
    generalize ssB xd xdt Nd xe xet Ne = sb at *
    generalize stS xf xft Nf = tx at *
    generalize vsB xb xt N = vb at *
    have hq := fun W => neqStand much.1 much.2.1 much.2.2 W
    have HFM := Lib.hid hfM
    have HSI := Lib.hid hsi
    have HSS := Lib.hid hss
    have HTI := Lib.hid hti
    have HTO := Lib.hid hts
    have HVI := Lib.hid hvi
    have HVS := Lib.hid hvs
    clear hfM hsi hss hti hts hvi hvs HX1 HX3 HM5 HA9 HC12 HD15 HF20 HBa HBb HBW HRF HOV HBA HTF HI9
    try simp only [List.cons_append, List.nil_append, List.append_eq]
    refine wp_region_noPanic ?_
    refine startS (S := (fun W => BoxT W bo_ much ∧ BoxT W bm_ much ∧ BoxS W bd_ Ad cd xd Adt cdt xdt Nd ∧ BoxS W (bd_ + 1) Ae ce xe Aet cet xet Ne ∧ BoxS W bf_ Af cf xf Aft cft xft Nf ∧ BoxS W bs_ Ab cb xb At ct xt N)) 62 (by kernel_rfl) (by kernel_rfl) ⟨(HBO.out _ (Below.refl _ _).drew).1, (HBO.out _ (Below.refl _ _).drew).2, (HBd.out _ (Below.refl _ _).drew).1, (HBd.out _ (Below.refl _ _).drew).2, HBf.out _ (Below.refl _ _).drew, HBS.out _ (Below.refl _ _).drew⟩ (fun hHeld => ?_)
    clear HBO HBd HBf HBS
    refine withS 62 [0, 1, 2, 3, 4, 5, 7, 8, 9, 10, 11, 12, 13, 14, 15, 16, 17, 18, 19, 20, 21, 22, 23, 24, 25, 26, 27, 28, 29, 30, 31, 32, 33, 34, 35, 36, 37, 38, 39, 40, 41, 43, 44, 46, 47, 48, 49, 51, 53, 54, 55, 56, 58, 60, 61] (by as_aux_lemma => kernel_rfl) (by kernel_rfl) (by kernel_rfl) (fun _ _ _ _ _ h => h) ?_
    intro HFR HNS HSZ HQP
    focus
      refine takeS (i := 0) (v := ?_) HFR.out HNS.out HSZ.out HQP.out rfl (by kernel_rfl) (by kernel_rfl) (by decide) (by kernel_rfl) (Or.inl ⟨by rfl, ?_⟩) hHeld rfl (by dsimp only [List.set_cons_succ, List.set_cons_zero]) ?_
      rotate_left
      · intro w hSw; clear hSw; go_simp; (try with_reducible rfl)
    focus
      refine takeS (i := 1) (v := ?_) HFR.out HNS.out HSZ.out HQP.out rfl (by kernel_rfl) (by kernel_rfl) (by decide) (by kernel_rfl) (Or.inl ⟨by rfl, ?_⟩) hHeld rfl (by dsimp only [List.set_cons_succ, List.set_cons_zero]) ?_
      rotate_left
      · intro w hSw; clear hSw; go_simp; (try with_reducible rfl)
    focus
      refine takeS (i := 2) (v := ?_) HFR.out HNS.out HSZ.out HQP.out rfl (by kernel_rfl) (by kernel_rfl) (by decide) (by kernel_rfl) (Or.inl ⟨by rfl, ?_⟩) hHeld rfl (by dsimp only [List.set_cons_succ, List.set_cons_zero]) ?_
      rotate_left
      · intro w hSw; clear hSw; go_simp; (try with_reducible rfl)
    focus
      refine takeS (i := 3) (v := ?_) HFR.out HNS.out HSZ.out HQP.out rfl (by kernel_rfl) (by kernel_rfl) (by decide) (by kernel_rfl) (Or.inl ⟨by rfl, ?_⟩) hHeld rfl (by dsimp only [List.set_cons_succ, List.set_cons_zero]) ?_
      rotate_left
      · intro w hSw; clear hSw; go_simp; (try with_reducible rfl)
    focus
      refine takeS (i := 4) (v := ?_) HFR.out HNS.out HSZ.out HQP.out rfl (by kernel_rfl) (by kernel_rfl) (by decide) (by kernel_rfl) (Or.inl ⟨by rfl, ?_⟩) hHeld rfl (by dsimp only [List.set_cons_succ, List.set_cons_zero]) ?_
      rotate_left
      · intro w hSw; clear hSw; go_simp; (try with_reducible rfl)
    focus
      refine takeS (i := 5) (v := ?_) HFR.out HNS.out HSZ.out HQP.out rfl (by kernel_rfl) (by kernel_rfl) (by decide) (by kernel_rfl) (Or.inl ⟨by rfl, ?_⟩) hHeld rfl (by dsimp only [List.set_cons_succ, List.set_cons_zero]) ?_
      rotate_left
      · intro w hSw; clear hSw; go_simp; (try with_reducible rfl)
    refine callS (i := 6) HSZ.out (by kernel_rfl) (by kernel_rfl) rfl (fun K hK => ?_)
    go_simp
    (go_at_call 18; (with_reducible refine (HFM.out wk.drew (Below.refl _ _).drew).mono ?_); rintro e v1 ⟨rfl, hx1⟩; have hb1 := bthen ((Below.refl wk.heap.size wk).drew) (Nat.le_refl _) hx1)
    refine hK.out _ _ ⟨hHeld.1.below hx1, hHeld.2.1.below hx1, hHeld.2.2.1.below hx1, hHeld.2.2.2.1.below hx1, hHeld.2.2.2.2.1.below hx1, hHeld.2.2.2.2.2.below hx1⟩ (fun hHeldN => ?_)
    clear hK K hHeld
    try simp only [Act.put, List.setIfInBounds_toArray, List.set_cons_zero, List.set_cons_succ]
    have hHeld := hHeldN
    clear hHeldN
    focus
      refine takeS (i := 7) (v := ?_) HFR.out HNS.out HSZ.out HQP.out rfl (by kernel_rfl) (by kernel_rfl) (by decide) (by kernel_rfl) (Or.inl ⟨by rfl, ?_⟩) hHeld rfl (by dsimp only [List.set_cons_succ, List.set_cons_zero]) ?_
      rotate_left
      · intro w hSw; clear hSw; go_simp; (try with_reducible rfl)
    focus
      refine takeS (i := 8) (v := ?_) HFR.out HNS.out HSZ.out HQP.out rfl (by kernel_rfl) (by kernel_rfl) (by decide) (by kernel_rfl) (Or.inl ⟨by rfl, ?_⟩) hHeld rfl (by dsimp only [List.set_cons_succ, List.set_cons_zero]) ?_
      rotate_left
      · intro w hSw; clear hSw; go_simp; (try with_reducible rfl)
    focus
      refine takeS (i := 9) (v := ?_) HFR.out HNS.out HSZ.out HQP.out rfl (by kernel_rfl) (by kernel_rfl) (by decide) (by kernel_rfl) (Or.inl ⟨by rfl, ?_⟩) hHeld rfl (by dsimp only [List.set_cons_succ, List.set_cons_zero]) ?_
      rotate_left
      · intro w hSw; clear hSw; go_simp; (try with_reducible rfl)
    focus
      refine takeS (i := 10) (v := ?_) HFR.out HNS.out HSZ.out HQP.out rfl (by kernel_rfl) (by kernel_rfl) (by decide) (by kernel_rfl) (Or.inl ⟨by rfl, ?_⟩) hHeld rfl (by dsimp only [List.set_cons_succ, List.set_cons_zero]) ?_
      rotate_left
      · intro w hSw; clear hSw; go_simp; (try with_reducible rfl)
    focus
      refine takeS (i := 11) (v := ?_) HFR.out HNS.out HSZ.out HQP.out rfl (by kernel_rfl) (by kernel_rfl) (by decide) (by kernel_rfl) (Or.inl ⟨by rfl, ?_⟩) hHeld rfl (by dsimp only [List.set_cons_succ, List.set_cons_zero]) ?_
      rotate_left
      · intro w hSw; clear hSw; go_simp; (try with_reducible rfl)
    focus
      refine takeS (i := 12) (v := ?_) HFR.out HNS.out HSZ.out HQP.out rfl (by kernel_rfl) (by kernel_rfl) (by decide) (by kernel_rfl) (Or.inl ⟨by rfl, ?_⟩) hHeld rfl (by dsimp only [List.set_cons_succ, List.set_cons_zero]) ?_
      rotate_left
      · intro w hSw; clear hSw; go_simp; (try with_reducible rfl)
    focus
      refine takeS (i := 13) (v := ?_) HFR.out HNS.out HSZ.out HQP.out rfl (by kernel_rfl) (by kernel_rfl) (by decide) (by kernel_rfl) (Or.inl ⟨by rfl, ?_⟩) hHeld rfl (by dsimp only [List.set_cons_succ, List.set_cons_zero]) ?_
      rotate_left
      · intro w hSw; clear hSw; go_simp; (try with_reducible rfl)
    focus
      refine takeS (i := 14) (v := ?_) HFR.out HNS.out HSZ.out HQP.out rfl (by kernel_rfl) (by kernel_rfl) (by decide) (by kernel_rfl) (Or.inl ⟨by rfl, ?_⟩) hHeld rfl (by dsimp only [List.set_cons_succ, List.set_cons_zero]) ?_
      rotate_left
      · intro w hSw; clear hSw; go_simp; (try with_reducible rfl)
    focus
      refine takeS (i := 15) (v := ?_) HFR.out HNS.out HSZ.out HQP.out rfl (by kernel_rfl) (by kernel_rfl) (by decide) (by kernel_rfl) (Or.inl ⟨by rfl, ?_⟩) hHeld rfl (by dsimp only [List.set_cons_succ, List.set_cons_zero]) ?_
      rotate_left
      · intro w hSw; obtain ⟨⟨a0, a1, a2, _⟩, ⟨b0, b1, b2, _⟩, ⟨c0, c1, c2, _⟩, ⟨e0, e1, e2, _⟩, ⟨f0, f1, f2, _⟩, ⟨g0, g1, g2, _⟩⟩ := hSw; go_simp; (try with_reducible rfl)
    focus
      refine takeS (i := 16) (v := ?_) HFR.out HNS.out HSZ.out HQP.out rfl (by kernel_rfl) (by kernel_rfl) (by decide) (by kernel_rfl) (Or.inl ⟨by rfl, ?_⟩) hHeld rfl (by dsimp only [List.set_cons_succ, List.set_cons_zero]) ?_
      rotate_left
      · intro w hSw; obtain ⟨⟨a0, a1, a2, _⟩, ⟨b0, b1, b2, _⟩, ⟨c0, c1, c2, _⟩, ⟨e0, e1, e2, _⟩, ⟨f0, f1, f2, _⟩, ⟨g0, g1, g2, _⟩⟩ := hSw; go_simp; (try with_reducible rfl)
    focus
      refine takeS (i := 17) (v := ?_) HFR.out HNS.out HSZ.out HQP.out rfl (by kernel_rfl) (by kernel_rfl) (by decide) (by kernel_rfl) (Or.inl ⟨by rfl, ?_⟩) hHeld rfl (by dsimp only [List.set_cons_succ, List.set_cons_zero]) ?_
      rotate_left
      · intro w hSw; clear hSw; go_simp; (try with_reducible rfl)
    focus
      refine takeS (i := 18) (v := ?_) HFR.out HNS.out HSZ.out HQP.out rfl (by kernel_rfl) (by kernel_rfl) (by decide) (by kernel_rfl) (Or.inl ⟨by rfl, ?_⟩) hHeld rfl (by dsimp only [List.set_cons_succ, List.set_cons_zero]) ?_
      rotate_left
      · intro w hSw; clear hSw; go_simp; (try with_reducible rfl)
    focus
      refine takeS (i := 19) (v := ?_) HFR.out HNS.out HSZ.out HQP.out rfl (by kernel_rfl) (by kernel_rfl) (by decide) (by kernel_rfl) (Or.inl ⟨by rfl, ?_⟩) hHeld rfl (by dsimp only [List.set_cons_succ, List.set_cons_zero]) ?_
      rotate_left
      · intro w hSw; clear hSw; go_simp; (try with_reducible rfl)
    focus
      refine takeS (i := 20) (v := ?_) HFR.out HNS.out HSZ.out HQP.out rfl (by kernel_rfl) (by kernel_rfl) (by decide) (by kernel_rfl) (Or.inl ⟨by rfl, ?_⟩) hHeld rfl (by dsimp only [List.set_cons_succ, List.set_cons_zero]) ?_
      rotate_left
      · intro w hSw; clear hSw; go_simp; (try with_reducible rfl)
    focus
      refine takeS (i := 21) (v := ?_) HFR.out HNS.out HSZ.out HQP.out rfl (by kernel_rfl) (by kernel_rfl) (by decide) (by kernel_rfl) (Or.inl ⟨by rfl, ?_⟩) hHeld rfl (by dsimp only [List.set_cons_succ, List.set_cons_zero]) ?_
      rotate_left
      · intro w hSw; clear hSw; go_simp; (try with_reducible rfl)
    focus
      refine takeS (i := 22) (v := ?_) HFR.out HNS.out HSZ.out HQP.out rfl (by kernel_rfl) (by kernel_rfl) (by decide) (by kernel_rfl) (Or.inl ⟨by rfl, ?_⟩) hHeld rfl (by dsimp only [List.set_cons_succ, List.set_cons_zero]) ?_
      rotate_left
      · intro w hSw; clear hSw; go_simp; (try with_reducible rfl)
    focus
      refine takeS (i := 23) (v := ?_) HFR.out HNS.out HSZ.out HQP.out rfl (by kernel_rfl) (by kernel_rfl) (by decide) (by kernel_rfl) (Or.inl ⟨by rfl, ?_⟩) hHeld rfl (by dsimp only [List.set_cons_succ, List.set_cons_zero]) ?_
      rotate_left
      · intro w hSw; clear hSw; go_simp; (try with_reducible rfl)
    focus
      refine takeS (i := 24) (v := ?_) HFR.out HNS.out HSZ.out HQP.out rfl (by kernel_rfl) (by kernel_rfl) (by decide) (by kernel_rfl) (Or.inl ⟨by rfl, ?_⟩) hHeld rfl (by dsimp only [List.set_cons_succ, List.set_cons_zero]) ?_
      rotate_left
      · intro w hSw; clear hSw; go_simp; (try with_reducible rfl)
    focus
      refine takeS (i := 25) (v := ?_) HFR.out HNS.out HSZ.out HQP.out rfl (by kernel_rfl) (by kernel_rfl) (by decide) (by kernel_rfl) (Or.inl ⟨by rfl, ?_⟩) hHeld rfl (by dsimp only [List.set_cons_succ, List.set_cons_zero]) ?_
      rotate_left
      · intro w hSw; clear hSw; go_simp; (try with_reducible rfl)
    focus
      refine takeS (i := 26) (v := ?_) HFR.out HNS.out HSZ.out HQP.out rfl (by kernel_rfl) (by kernel_rfl) (by decide) (by kernel_rfl) (Or.inl ⟨by rfl, ?_⟩) hHeld rfl (by dsimp only [List.set_cons_succ, List.set_cons_zero]) ?_
      rotate_left
      · intro w hSw; clear hSw; go_simp; (try with_reducible rfl)
    focus
      refine takeS (i := 27) (v := ?_) HFR.out HNS.out HSZ.out HQP.out rfl (by kernel_rfl) (by kernel_rfl) (by decide) (by kernel_rfl) (Or.inl ⟨by rfl, ?_⟩) hHeld rfl (by dsimp only [List.set_cons_succ, List.set_cons_zero]) ?_
      rotate_left
      · intro w hSw; clear hSw; go_simp; (try with_reducible rfl)
    focus
      refine takeS (i := 28) (v := ?_) HFR.out HNS.out HSZ.out HQP.out rfl (by kernel_rfl) (by kernel_rfl) (by decide) (by kernel_rfl) (Or.inl ⟨by rfl, ?_⟩) hHeld rfl (by dsimp only [List.set_cons_succ, List.set_cons_zero]) ?_
      rotate_left
      · intro w hSw; clear hSw; go_simp; (try with_reducible rfl)
    focus
      refine takeS (i := 29) (v := ?_) HFR.out HNS.out HSZ.out HQP.out rfl (by kernel_rfl) (by kernel_rfl) (by decide) (by kernel_rfl) (Or.inl ⟨by rfl, ?_⟩) hHeld rfl (by dsimp only [List.set_cons_succ, List.set_cons_zero]) ?_
      rotate_left
      · intro w hSw; clear hSw; go_simp; (try with_reducible rfl)
    focus
      refine takeS (i := 30) (v := ?_) HFR.out HNS.out HSZ.out HQP.out rfl (by kernel_rfl) (by kernel_rfl) (by decide) (by kernel_rfl) (Or.inl ⟨by rfl, ?_⟩) hHeld rfl (by dsimp only [List.set_cons_succ, List.set_cons_zero]) ?_
      rotate_left
      · intro w hSw; clear hSw; go_simp; (try with_reducible rfl)
    focus
      refine takeS (i := 31) (v := ?_) HFR.out HNS.out HSZ.out HQP.out rfl (by kernel_rfl) (by kernel_rfl) (by decide) (by kernel_rfl) (Or.inl ⟨by rfl, ?_⟩) hHeld rfl (by dsimp only [List.set_cons_succ, List.set_cons_zero]) ?_
      rotate_left
      · intro w hSw; clear hSw; go_simp; (try with_reducible rfl)
    focus
      refine takeS (i := 32) (v := ?_) HFR.out HNS.out HSZ.out HQP.out rfl (by kernel_rfl) (by kernel_rfl) (by decide) (by kernel_rfl) (Or.inl ⟨by rfl, ?_⟩) hHeld rfl (by dsimp only [List.set_cons_succ, List.set_cons_zero]) ?_
      rotate_left
      · intro w hSw; clear hSw; go_simp; (try with_reducible rfl)
    focus
      refine takeS (i := 33) (v := ?_) HFR.out HNS.out HSZ.out HQP.out rfl (by kernel_rfl) (by kernel_rfl) (by decide) (by kernel_rfl) (Or.inl ⟨by rfl, ?_⟩) hHeld rfl (by dsimp only [List.set_cons_succ, List.set_cons_zero]) ?_
      rotate_left
      · intro w hSw; clear hSw; go_simp; (try with_reducible rfl)
    focus
      refine takeS (i := 34) (v := ?_) HFR.out HNS.out HSZ.out HQP.out rfl (by kernel_rfl) (by kernel_rfl) (by decide) (by kernel_rfl) (Or.inl ⟨by rfl, ?_⟩) hHeld rfl (by dsimp only [List.set_cons_succ, List.set_cons_zero]) ?_
      rotate_left
      · intro w hSw; clear hSw; go_simp; (try with_reducible rfl)
    focus
      refine takeS (i := 35) (v := ?_) HFR.out HNS.out HSZ.out HQP.out rfl (by kernel_rfl) (by kernel_rfl) (by decide) (by kernel_rfl) (Or.inl ⟨by rfl, ?_⟩) hHeld rfl (by dsimp only [List.set_cons_succ, List.set_cons_zero]) ?_
      rotate_left
      · intro w hSw; clear hSw; go_simp; (try with_reducible rfl)
    focus
      refine takeS (i := 36) (v := ?_) HFR.out HNS.out HSZ.out HQP.out rfl (by kernel_rfl) (by kernel_rfl) (by decide) (by kernel_rfl) (Or.inl ⟨by rfl, ?_⟩) hHeld rfl (by dsimp only [List.set_cons_succ, List.set_cons_zero]) ?_
      rotate_left
      · intro w hSw; clear hSw; go_simp; (try with_reducible rfl)
    focus
      refine takeS (i := 37) (v := ?_) HFR.out HNS.out HSZ.out HQP.out rfl (by kernel_rfl) (by kernel_rfl) (by decide) (by kernel_rfl) (Or.inl ⟨by rfl, ?_⟩) hHeld rfl (by dsimp only [List.set_cons_succ, List.set_cons_zero]) ?_
      rotate_left
      · intro w hSw; clear hSw; go_simp; (try with_reducible rfl)
    focus
      refine takeS (i := 38) (v := ?_) HFR.out HNS.out HSZ.out HQP.out rfl (by kernel_rfl) (by kernel_rfl) (by decide) (by kernel_rfl) (Or.inl ⟨by rfl, ?_⟩) hHeld rfl (by dsimp only [List.set_cons_succ, List.set_cons_zero]) ?_
      rotate_left
      · intro w hSw; clear hSw; go_simp; (try with_reducible rfl)
    focus
      refine takeS (i := 39) (v := ?_) HFR.out HNS.out HSZ.out HQP.out rfl (by kernel_rfl) (by kernel_rfl) (by decide) (by kernel_rfl) (Or.inl ⟨by rfl, ?_⟩) hHeld rfl (by dsimp only [List.set_cons_succ, List.set_cons_zero]) ?_
      rotate_left
      · intro w hSw; clear hSw; go_simp; (try with_reducible rfl)
    focus
      refine takeS (i := 40) (v := ?_) HFR.out HNS.out HSZ.out HQP.out rfl (by kernel_rfl) (by kernel_rfl) (by decide) (by kernel_rfl) (Or.inl ⟨by rfl, ?_⟩) hHeld rfl (by dsimp only [List.set_cons_succ, List.set_cons_zero]) ?_
      rotate_left
      · intro w hSw; obtain ⟨⟨a0, a1, a2, _⟩, ⟨b0, b1, b2, _⟩, ⟨c0, c1, c2, _⟩, ⟨e0, e1, e2, _⟩, ⟨f0, f1, f2, _⟩, ⟨g0, g1, g2, _⟩⟩ := hSw; go_simp; (try with_reducible rfl)
    focus
      refine takeS (i := 41) (v := ?_) HFR.out HNS.out HSZ.out HQP.out rfl (by kernel_rfl) (by kernel_rfl) (by decide) (by kernel_rfl) (Or.inl ⟨by rfl, ?_⟩) hHeld rfl (by dsimp only [List.set_cons_succ, List.set_cons_zero]) ?_
      rotate_left
      · intro w hSw; obtain ⟨⟨a0, a1, a2, _⟩, ⟨b0, b1, b2, _⟩, ⟨c0, c1, c2, _⟩, ⟨e0, e1, e2, _⟩, ⟨f0, f1, f2, _⟩, ⟨g0, g1, g2, _⟩⟩ := hSw; go_simp; (try with_reducible rfl)
    focus
      refine takeS (i := 43) (v := ?_) HFR.out HNS.out HSZ.out HQP.out rfl (by kernel_rfl) (by kernel_rfl) (by decide) (by kernel_rfl) (Or.inl ⟨by rfl, ?_⟩) hHeld rfl (by dsimp only [List.set_cons_succ, List.set_cons_zero]) ?_
      rotate_left
      · intro w hSw; obtain ⟨⟨a0, a1, a2, _⟩, ⟨b0, b1, b2, _⟩, ⟨c0, c1, c2, _⟩, ⟨e0, e1, e2, _⟩, ⟨f0, f1, f2, _⟩, ⟨g0, g1, g2, _⟩⟩ := hSw; go_simp; (try with_reducible rfl)
    focus
      refine takeS (i := 44) (v := ?_) HFR.out HNS.out HSZ.out HQP.out rfl (by kernel_rfl) (by kernel_rfl) (by decide) (by kernel_rfl) (Or.inl ⟨by rfl, ?_⟩) hHeld rfl (by dsimp only [List.set_cons_succ, List.set_cons_zero]) ?_
      rotate_left
      · intro w hSw; obtain ⟨⟨a0, a1, a2, _⟩, ⟨b0, b1, b2, _⟩, ⟨c0, c1, c2, _⟩, ⟨e0, e1, e2, _⟩, ⟨f0, f1, f2, _⟩, ⟨g0, g1, g2, _⟩⟩ := hSw; go_simp; (try with_reducible rfl)
    refine callS (i := 42) HSZ.out (by kernel_rfl) (by kernel_rfl) rfl (fun K hK => ?_)
    go_simp
    (go_at_call 19; (with_reducible refine (HSI.out v1 hb1).mono ?_); rintro e v2 ⟨rfl, hx2⟩; have hb2 := bthen hb1 (Nat.le_refl _) hx2)
    refine hK.out _ _ ⟨hHeld.1.below hx2, hHeld.2.1.below hx2, hHeld.2.2.1.below hx2, hHeld.2.2.2.1.below hx2, hHeld.2.2.2.2.1.below hx2, hHeld.2.2.2.2.2.below hx2⟩ (fun hHeldN => ?_)
    clear hK K hHeld
    try simp only [Act.put, List.setIfInBounds_toArray, List.set_cons_zero, List.set_cons_succ]
    have hHeld := hHeldN
    clear hHeldN
    refine callS (i := 45) HSZ.out (by kernel_rfl) (by kernel_rfl) rfl (fun K hK => ?_)
    go_simp
    (go_at_call 20; (with_reducible refine (HSS.out v2 hb2).mono ?_); rintro e v3 ⟨rfl, hx3⟩; have hb3 := bthen hb2 (Nat.le_refl _) hx3)
    refine hK.out _ _ ⟨hHeld.1.below hx3, hHeld.2.1.below hx3, hHeld.2.2.1.below hx3, hHeld.2.2.2.1.below hx3, hHeld.2.2.2.2.1.below hx3, hHeld.2.2.2.2.2.below hx3⟩ (fun hHeldN => ?_)
    clear hK K hHeld
    try simp only [Act.put, List.setIfInBounds_toArray, List.set_cons_zero, List.set_cons_succ]
    have hHeld := hHeldN
    clear hHeldN
    focus
      refine takeS (i := 46) (v := ?_) HFR.out HNS.out HSZ.out HQP.out rfl (by kernel_rfl) (by kernel_rfl) (by decide) (by kernel_rfl) (Or.inl ⟨by rfl, ?_⟩) hHeld rfl (by dsimp only [List.set_cons_succ, List.set_cons_zero]) ?_
      rotate_left
      · intro w hSw; clear hSw; go_simp; (try with_reducible rfl)
    focus
      refine takeS (i := 47) (v := ?_) HFR.out HNS.out HSZ.out HQP.out rfl (by kernel_rfl) (by kernel_rfl) (by decide) (by kernel_rfl) (Or.inl ⟨by rfl, ?_⟩) hHeld rfl (by dsimp only [List.set_cons_succ, List.set_cons_zero]) ?_
      rotate_left
      · intro w hSw; clear hSw; go_simp; (try with_reducible rfl)
    focus
      refine takeS (i := 48) (v := ?_) HFR.out HNS.out HSZ.out HQP.out rfl (by kernel_rfl) (by kernel_rfl) (by decide) (by kernel_rfl) (Or.inl ⟨by rfl, ?_⟩) hHeld rfl (by dsimp only [List.set_cons_succ, List.set_cons_zero]) ?_
      rotate_left
      · intro w hSw; clear hSw; go_simp; (try with_reducible rfl)
    focus
      refine takeS (i := 49) (v := ?_) HFR.out HNS.out HSZ.out HQP.out rfl (by kernel_rfl) (by kernel_rfl) (by decide) (by kernel_rfl) (Or.inl ⟨by rfl, ?_⟩) hHeld rfl (by dsimp only [List.set_cons_succ, List.set_cons_zero]) ?_
      rotate_left
      · intro w hSw; obtain ⟨⟨a0, a1, a2, _⟩, ⟨b0, b1, b2, _⟩, ⟨c0, c1, c2, _⟩, ⟨e0, e1, e2, _⟩, ⟨f0, f1, f2, _⟩, ⟨g0, g1, g2, _⟩⟩ := hSw; go_simp; (try with_reducible rfl)
    focus
      refine takeS (i := 51) (v := ?_) HFR.out HNS.out HSZ.out HQP.out rfl (by kernel_rfl) (by kernel_rfl) (by decide) (by kernel_rfl) (Or.inl ⟨by rfl, ?_⟩) hHeld rfl (by dsimp only [List.set_cons_succ, List.set_cons_zero]) ?_
      rotate_left
      · intro w hSw; obtain ⟨⟨a0, a1, a2, _⟩, ⟨b0, b1, b2, _⟩, ⟨c0, c1, c2, _⟩, ⟨e0, e1, e2, _⟩, ⟨f0, f1, f2, _⟩, ⟨g0, g1, g2, _⟩⟩ := hSw; go_simp; (try with_reducible rfl)
    refine callS (i := 50) HSZ.out (by kernel_rfl) (by kernel_rfl) rfl (fun K hK => ?_)
    go_simp
    (go_at_call 21; (with_reducible refine (HTI.out v3 hb3).mono ?_); rintro e v4 ⟨rfl, hx4⟩; have hb4 := bthen hb3 (Nat.le_refl _) hx4)
    refine hK.out _ _ ⟨hHeld.1.below hx4, hHeld.2.1.below hx4, hHeld.2.2.1.below hx4, hHeld.2.2.2.1.below hx4, hHeld.2.2.2.2.1.below hx4, hHeld.2.2.2.2.2.below hx4⟩ (fun hHeldN => ?_)
    clear hK K hHeld
    try simp only [Act.put, List.setIfInBounds_toArray, List.set_cons_zero, List.set_cons_succ]
    have hHeld := hHeldN
    clear hHeldN
    refine callS (i := 52) HSZ.out (by kernel_rfl) (by kernel_rfl) rfl (fun K hK => ?_)
    go_simp
    (go_at_call 22; (with_reducible refine (HTO.out v4 hb4).mono ?_); rintro e v5 ⟨rfl, hx5⟩; have hb5 := bthen hb4 (Nat.le_refl _) hx5)
    refine hK.out _ _ ⟨hHeld.1.below hx5, hHeld.2.1.below hx5, hHeld.2.2.1.below hx5, hHeld.2.2.2.1.below hx5, hHeld.2.2.2.2.1.below hx5, hHeld.2.2.2.2.2.below hx5⟩ (fun hHeldN => ?_)
    clear hK K hHeld
    try simp only [Act.put, List.setIfInBounds_toArray, List.set_cons_zero, List.set_cons_succ]
    have hHeld := hHeldN
    clear hHeldN
    focus
      refine takeS (i := 53) (v := ?_) HFR.out HNS.out HSZ.out HQP.out rfl (by kernel_rfl) (by kernel_rfl) (by decide) (by kernel_rfl) (Or.inl ⟨by rfl, ?_⟩) hHeld rfl (by dsimp only [List.set_cons_succ, List.set_cons_zero]) ?_
      rotate_left
      · intro w hSw; clear hSw; go_simp; (try with_reducible rfl)
    focus
      refine takeS (i := 54) (v := ?_) HFR.out HNS.out HSZ.out HQP.out rfl (by kernel_rfl) (by kernel_rfl) (by decide) (by kernel_rfl) (Or.inl ⟨by rfl, ?_⟩) hHeld rfl (by dsimp only [List.set_cons_succ, List.set_cons_zero]) ?_
      rotate_left
      · intro w hSw; clear hSw; go_simp; (try with_reducible rfl)
    focus
      refine takeS (i := 55) (v := ?_) HFR.out HNS.out HSZ.out HQP.out rfl (by kernel_rfl) (by kernel_rfl) (by decide) (by kernel_rfl) (Or.inl ⟨by rfl, ?_⟩) hHeld rfl (by dsimp only [List.set_cons_succ, List.set_cons_zero]) ?_
      rotate_left
      · intro w hSw; clear hSw; go_simp; (try with_reducible rfl)
    focus
      refine takeS (i := 56) (v := ?_) HFR.out HNS.out HSZ.out HQP.out rfl (by kernel_rfl) (by kernel_rfl) (by decide) (by kernel_rfl) (Or.inl ⟨by rfl, ?_⟩) hHeld rfl (by dsimp only [List.set_cons_succ, List.set_cons_zero]) ?_
      rotate_left
      · intro w hSw; obtain ⟨⟨a0, a1, a2, _⟩, ⟨b0, b1, b2, _⟩, ⟨c0, c1, c2, _⟩, ⟨e0, e1, e2, _⟩, ⟨f0, f1, f2, _⟩, ⟨g0, g1, g2, _⟩⟩ := hSw; go_simp; (try with_reducible rfl)
    focus
      refine takeS (i := 58) (v := ?_) HFR.out HNS.out HSZ.out HQP.out rfl (by kernel_rfl) (by kernel_rfl) (by decide) (by kernel_rfl) (Or.inl ⟨by rfl, ?_⟩) hHeld rfl (by dsimp only [List.set_cons_succ, List.set_cons_zero]) ?_
      rotate_left
      · intro w hSw; obtain ⟨⟨a0, a1, a2, _⟩, ⟨b0, b1, b2, _⟩, ⟨c0, c1, c2, _⟩, ⟨e0, e1, e2, _⟩, ⟨f0, f1, f2, _⟩, ⟨g0, g1, g2, _⟩⟩ := hSw; go_simp; (try with_reducible rfl)
    refine callS (i := 57) HSZ.out (by kernel_rfl) (by kernel_rfl) rfl (fun K hK => ?_)
    go_simp
    (go_at_call 23; (with_reducible refine (HVI.out v5 hb5).mono ?_); rintro e v6 ⟨rfl, hx6⟩; have hb6 := bthen hb5 (Nat.le_refl _) hx6)
    refine hK.out _ _ ⟨hHeld.1.below hx6, hHeld.2.1.below hx6, hHeld.2.2.1.below hx6, hHeld.2.2.2.1.below hx6, hHeld.2.2.2.2.1.below hx6, hHeld.2.2.2.2.2.below hx6⟩ (fun hHeldN => ?_)
    clear hK K hHeld
    try simp only [Act.put, List.setIfInBounds_toArray, List.set_cons_zero, List.set_cons_succ]
    have hHeld := hHeldN
    clear hHeldN
    refine callS (i := 59) HSZ.out (by kernel_rfl) (by kernel_rfl) rfl (fun K hK => ?_)
    go_simp
    (go_at_call 24; (with_reducible refine (HVS.out v6 hb6).mono ?_); rintro e v7 ⟨rfl, hx7⟩; have hb7 := bthen hb6 (Nat.le_refl _) hx7)
    refine hK.out _ _ ⟨hHeld.1.below hx7, hHeld.2.1.below hx7, hHeld.2.2.1.below hx7, hHeld.2.2.2.1.below hx7, hHeld.2.2.2.2.1.below hx7, hHeld.2.2.2.2.2.below hx7⟩ (fun hHeldN => ?_)
    clear hK K hHeld
    try simp only [Act.put, List.setIfInBounds_toArray, List.set_cons_zero, List.set_cons_succ]
    have hHeld := hHeldN
    clear hHeldN
    focus
      refine takeS (i := 60) (v := ?_) HFR.out HNS.out HSZ.out HQP.out rfl (by kernel_rfl) (by kernel_rfl) (by decide) (by kernel_rfl) (Or.inl ⟨by rfl, ?_⟩) hHeld rfl (by dsimp only [List.set_cons_succ, List.set_cons_zero]) ?_
      rotate_left
      · intro w hSw; clear hSw; go_simp; (try with_reducible rfl)
    focus
      refine takeS (i := 61) (v := ?_) HFR.out HNS.out HSZ.out HQP.out rfl (by kernel_rfl) (by kernel_rfl) (by decide) (by kernel_rfl) (Or.inl ⟨by rfl, ?_⟩) hHeld rfl (by dsimp only [List.set_cons_succ, List.set_cons_zero]) ?_
      rotate_left
      · intro w hSw; clear hSw; go_simp; (try with_reducible rfl)
    refine doneS HSZ.out (by kernel_rfl) (by kernel_rfl) (NoPanic.normal ?_)
    go_wp2_with fail
    go_meet
    case rel => exact ⟨by first | rfl | (simp; done), hb7⟩
  case rest =>
  as_aux_lemma =>
  obtain ⟨rfl, hK⟩ := hcut
  have HB := Lib.hid hK
  have HM3 : Hid (∀ W, Below wk.heap.size wk W → Rd LI W W.heap.size B3 d3 M) := Lib.hid (fun W hW => (HM5.out W hW).2)
  clear hK HM5 HD15 HF20 HBf HBd
  obtain ⟨b3, hb3⟩ : ∃ b, b = (bc == 0) := ⟨_, rfl⟩
  go_upto_if 176 with fail
  rw [← hb3]
  go_cut [2] from 175 to 195 (fun s wx => s = .bool false ∧ Below wk.heap.size wk wx)
  case first =>
    as_aux_lemma =>
    cases b3
    · go_wp2_with fail
      go_meet
      case rel => exact ⟨rfl, HB.out⟩
    obtain rfl : bc = 0 := by simpa using hb3.symm
    clear hb3
    obtain ⟨hv, j, hj, rfl, s1, s2⟩ := ba_walk HBA.out.symm
    obtain ⟨⟨_, l20⟩, hx, _⟩ := vsB_parts hv
    have hxj := hx _ (List.getElem_mem hj)
    have hsb := sm_bound (M := 3000) (n := 20) (xs := xa.take j) (by omega) (fun x h => (hx x (List.mem_of_mem_take h)).2) (by simp; omega)
    have hs0 : 0 ≤ sm (xa.take j) := sm_nonneg (fun x h => by have := hx x (List.mem_of_mem_take h); omega)
    have hA := (HA9.out wc HB.out).1
    have hle := hA.le
    have hcap := hA.cap
    have hfs := f6sum_any Aa ca (xa.take j) wc.heap.size wc (hA.take j) (fun x h => by have := hx x (List.mem_of_mem_take h); omega) (by omega)
    rw [show (xa.take j).length = j by simp; omega] at hfs
    obtain ⟨k0, k1, k2, kl⟩ := HBa.out wc HB.out
    obtain ⟨ad, rfl, _, hcj⟩ := hA.int hj
    have hji : (j : Int) < xa.length := by omega
    have hjc : (j : Int) ≤ ca := by omega
    have hjc2 : j ≤ ca := by omega
    generalize sm (xa.take j) = S at *
    generalize xa[j] = y at *
    have ew : IntKind.i64.wrap (S + y) = S + y := wrapS (by omega) (by omega)
    clear hA hv hx hj
    go_wp2_with fail
    refine hfs.mono ?_
    rintro e wd ⟨rfl, rfl⟩
    go_wp2_with fail
    go_meet
    case rel => exact ⟨by first | rfl | (simp; done), HB.out⟩
  case rest =>
  as_aux_lemma =>
  clear HB hb3 b3
  obtain ⟨rfl, hK⟩ := hcut
  have HB := Lib.hid hK
  clear hK HA9 HBa HBA
  obtain ⟨b3, hb3⟩ : ∃ b, b = (tc == 0) := ⟨_, rfl⟩
  go_upto_if 197 with fail
  rw [← hb3]
  go_cut [2] from 196 to 213 (fun s wx => s = .bool false ∧ Below wk.heap.size wk wx)
  case first =>
    as_aux_lemma =>
    cases b3
    · go_wp2_with fail
      go_meet
      case rel => exact ⟨rfl, HB.out⟩
    obtain rfl : tc = 0 := by simpa using hb3.symm
    clear hb3
    obtain ⟨hv, ⟨g0, g1⟩, ⟨r0, r1⟩, j, hj, rfl, s1, s2⟩ := tf_walk HTF.out.symm
    obtain ⟨_, _, ⟨_, l12⟩, hx, _⟩ := vsB_parts hv
    have hsb := sm_bound (M := 2500) (n := 12) (xs := xct.take (j + 1)) (by omega) (fun x h => (hx x (List.mem_of_mem_take h)).2) (by simp; omega)
    have hs0 : 0 ≤ sm (xct.take (j + 1)) := sm_nonneg (fun x h => by have := hx x (List.mem_of_mem_take h); omega)
    have hA := (HC12.out wc HB.out).2
    have hle := hA.le
    have hcap := hA.cap
    have hfs := f6sum_any Act cct (xct.take (j + 1)) wc.heap.size wc (hA.take (j + 1)) (fun x h => by have := hx x (List.mem_of_mem_take h); omega) (by omega)
    rw [show (xct.take (j + 1)).length = j + 1 by simp; omega] at hfs
    obtain ⟨k0, k1, k2, kl⟩ := HBb.out wc HB.out
    have hji : (j : Int) + 1 ≤ cct := by omega
    have hjc2 : j + 1 ≤ cct := by omega
    have ej : IntKind.i64.wrap ((j : Int) + 1) = (j : Int) + 1 := wrapS (by omega) (by omega)
    have ej2 : ((j : Int) + 1).toNat = j + 1 := by omega
    have ej3 : (0 : Int) ≤ (j : Int) + 1 := by omega
    generalize sm (xct.take (j + 1)) = S at *
    have ew : IntKind.i64.wrap (S + reach) = S + reach := wrapS (by omega) (by omega)
    clear hA hv hx hj
    go_wp2_with fail
    refine hfs.mono ?_
    rintro e wd ⟨rfl, rfl⟩
    go_wp2_with fail
    go_meet
    case rel => exact ⟨by first | rfl | (simp; done), HB.out⟩
  case rest =>
  as_aux_lemma =>
  clear HB hb3 b3
  obtain ⟨rfl, hK⟩ := hcut
  have HB := Lib.hid hK
  clear hK HC12 HBb HTF
  go_upto_region 26 with fail
  go_cut [220] from 214 to 220 (fun s wx => s = .bool false ∧ Below wk.heap.size wk wx)
  case first =>
    as_aux_lemma =>
    obtain ⟨_, k0, k1, k2, kl⟩ := HBO.out wc HB.out
    by_cases h1 : oc = 0
    · subst h1
      have h2 := ov_walk (x := much) HOV.out.symm
      generalize much.2.2 = mw at *
      go_wp2_with fail
      go_meet
      case rel => exact ⟨by first | rfl | (simp; done) | (simp; omega), HB.out⟩
    · have h3 : (oc == 0) = false := by rw [beq_eq_false_iff_ne]; exact h1
      go_wp2_with fail
      go_meet
      case rel => exact ⟨by first | rfl | (simp; done), HB.out⟩
  case rest =>
  as_aux_lemma =>
  clear HB
  obtain ⟨rfl, hK⟩ := hcut
  have HB := Lib.hid hK
  clear hK HBO
  by_cases h1 : pc = 0
  rotate_left
  · have h3 : (pc != 0) = true := by rw [bne_iff_ne]; exact h1
    go_wp2_with fail
    go_ret
    exact ⟨by first | rfl | (simp; done), (HBW.out _ HB.out).1⟩
  subst h1
  obtain ⟨hv, ⟨hn, hw⟩, hml, hmv, hov2⟩ := rf_walk HRF.out.symm
  obtain ⟨⟨_, l20⟩, _, _, _, n1, n2⟩ := vsB_parts hv
  have hM20 : M.length ≤ 20 := by omega
  have HW := Lib.hid hw
  have HMV := Lib.hid hmv
  have HOC : Hid (∀ i, i < M.length → N < wt ss tier i → oc = 0) := Lib.hid (fun i hi hlt => by
    have := hov2 i hi hlt
    rw [← HOV.out] at this
    exact this)
  clear hv hw hmv hov2 hml l20 HOV HRF HX1
  go_wp2_with fail
  go_loopw [2, 32] (fun z i wr => ∃ (i1 : Nat), i1 ≤ M.length ∧ z = .bool false ∧ i = .int .i64 i1 ∧ Hid (Below wk.heap.size wk wr)) (fun _ i _ => M.length - (intOf i).toNat)
  case atStart => exact ⟨0, by omega, rfl, rfl, HB⟩
  case round =>
    clear HB
    obtain ⟨i1, hi1, rfl, rfl, HB⟩ := hrel
    obtain ⟨wu, rfl⟩ : ∃ q, q = wr := ⟨_, rfl⟩
    by_cases hlt1 : i1 < M.length
    rotate_left
    · have hii : (M.length : Int) ≤ i1 := by omega
      go_wp2_with fail
      go_ret
      exact ⟨by first | rfl | (simp; done), (HBW.out _ HB.out).1⟩
    have hii : (i1 : Int) < M.length := by omega
    go_wp2_with fail
    go_loopw [33, 34] (fun s j wr => ∃ (j1 : Nat), j1 ≤ ss.length ∧ s = .int .i64 (wt (ss.take j1) tier i1) ∧ j = .int .i64 j1 ∧ Hid (Below wk.heap.size wk wr)) (fun _ j _ => ss.length - (intOf j).toNat)
    case atStart => exact ⟨0, by omega, by simp [wt, sm], rfl, HB⟩
    case round =>
      clear HB
      obtain ⟨j1, hj1, rfl, rfl, HB⟩ := hrel
      obtain ⟨b0, b1⟩ := wt_bd HW.out hn tier (i1 : Int) j1
      by_cases hlt2 : j1 < ss.length
      · have hjj : (j1 : Int) < ss.length := by omega
        obtain ⟨ad, rfl, hab, hc0, hc1, hc2⟩ := rdStand (HX3.out wr HB.out) hlt2
        obtain ⟨hx0, hx1⟩ := HW.out _ (List.getElem_mem hlt2)
        have HS := Lib.hid (wt_succ ss tier (i1 : Int) hlt2)
        generalize wt (ss.take j1) tier (i1 : Int) = S at *
        cases h1 : (ss[j1].1 == (i1 : Int))
        · go_wp2_with fail
          go_roundw
          case rel => exact ⟨j1 + 1, by omega, by rw [HS.out, h1]; simp, by go_num, HB⟩
          case measure => simp [intOf]; omega
        · cases h2 : (ss[j1].2.1 == tier)
          · go_wp2_with fail
            go_roundw
            case rel => exact ⟨j1 + 1, by omega, by rw [HS.out, h2]; simp, by go_num, HB⟩
            case measure => simp [intOf]; omega
          · go_wp2_with fail
            go_roundw
            case rel => exact ⟨j1 + 1, by omega, by rw [HS.out, h1, h2]; simp, by go_num, HB⟩
            case measure => simp [intOf]; omega
      · have hjj : (ss.length : Int) ≤ j1 := by omega
        have hfull : ss.take j1 = ss := List.take_of_length_le (by omega)
        rw [hfull] at b0 b1 ⊢
        have hmv := HMV.out i1 hlt1
        have hoc := HOC.out i1 hlt1
        obtain ⟨am, rfl, _, hcm⟩ := (HM3.out wr HB.out).int hlt1
        obtain ⟨k0, k1, k2, kl⟩ := HBS.out wr HB.out
        generalize wt ss tier (i1 : Int) = S at *
        generalize M[i1] = mv at *
        have ew : IntKind.i64.wrap (N - S) = N - S := wrapS (by omega) (by omega)
        have hmx : max 0 (N - S) = mv := by omega
        clear hfull hmv
        by_cases hS : N < S
        · obtain rfl := hoc hS
          clear hoc
          go_upto_region 39 with fail
          go_quiet (fail)
          go_wp2_with fail
          go_roundw
          case rel => exact ⟨i1 + 1, by omega, rfl, by go_num, Lib.hid (below_drewN HB.out _)⟩
          case measure => simp [intOf]; omega
        · have hS2 : S ≤ N := by omega
          have hS3 : decide (N < S) = false := decide_eq_false hS
          clear hoc
          go_upto_region 39 with fail
          go_quiet (fail)
          go_wp2_with fail
          go_roundw
          case rel => exact ⟨i1 + 1, by omega, rfl, by go_num, Lib.hid (below_drewN HB.out _)⟩
          case measure => simp [intOf]; omega
end Go.Proofs.YtamhkiakplmlmaaDoor
