/-
  FnTestedBricks returns true for every argument: the walk.
-/
import Derived.Test.YtehmghlhljocbaaGreatDoorTsLaw
import Derived.Test.YtehmghlhljocbaaGreatDoorTsDrawC
import Derived.Test.YtehmghlhljocbaaGreatDoorMedianI
import Derived.Test.YtehmghlhljocbaaGreatDoorF6a
import Derived.Test.YtehmghlhljocbaaGreatDoorSched
import Derived.Deep.CutRange
namespace Go.Proofs.YtehmghlhljocbaaGreatDoor
open Go.ChangeShapes Go.WideShapes Go.RowKit

/-- a fraction that lies in a box -/
structure BoxF (w : World) (b : Nat) (N D : Int) : Prop where
  c0 : w.cell? ⟨b, 0, none⟩ = some (.int .i64 N)
  c1 : w.cell? ⟨b, 1, none⟩ = some (.int .i64 D)
  lt : b < w.heap.size
theorem BoxF.below {w w' : World} {b : Nat} {N D : Int} (h : BoxF w b N D) (hb : Below w.heap.size w w') : BoxF w' b N D :=
  ⟨(hb.cell (p := ⟨b, 0, none⟩) h.lt).trans h.c0, (hb.cell (p := ⟨b, 1, none⟩) h.lt).trans h.c1, by have := h.lt; have := hb.size; omega⟩
theorem BoxF.new {w : World} {N D : Int} : BoxF (w.alloc (.cells #[.int .i64 N, .int .i64 D] 31)) w.heap.size N D := ⟨by go_simp, by go_simp, by simp⟩
theorem allEq_self {α : Type} {p : α → α → Bool} (h : ∀ x, p x x = true) : ∀ xs : List α, allEq p xs xs = true
  | [] => rfl
  | x :: xs => by
    unfold allEq
    rw [h x, allEq_self h xs]
    rfl
theorem eqf_self (x : TestedD) : eqfTested x x = true := by simp [eqfTested]
theorem neqFr (a b : Int) (w : World) : Sem.run Tryz.prog (binOp .neq 31 (.agg #[.int .i64 a, .int .i64 b]) (.agg #[.int .i64 a, .int .i64 b])) w = .ok (.bool false) w := by
  rw [run_neq_struct, run_equalIn_struct _ _ _ _ _ (by kernel_rfl) (by kernel_rfl)]
  simp [go_sem, Tryz.underlying31, Tryz.underlying2]
theorem specValidTested_any (A : Option Addr) (c : Nat) (xs : List TestedD) (w : World) (hr : Rd LTested w w.heap.size A c xs) :
    Calls Tryz.prog 30 #[.slice A xs.length c] w fun e w' => e = .returned (.bool (vtB xs)) ∧ Below w.heap.size w w' := by
  have hc := l19Ok_any A c xs w.heap.size w hr
  generalize vtB xs = b at *
  go_enter Tryz.func30, Tryz.ntmps30
  go_wp2_with fail
  refine hc.mono ?_
  rintro e w1 ⟨rfl, rfl⟩
  go_wp2_with fail
  go_ret
  exact ⟨rfl, Below.refl _ _⟩
theorem cfCall_any (A : Option Addr) (c : Nat) (xs : List TestedD) (k : ClassD) (W : World) (h1 : Rd LTested W W.heap.size A c xs) (hok : OkClass k) (hv : vtB xs = true) (hl : 0 < xs.length) (hc : clOk k = true) :
    Calls Tryz.prog 13 #[.slice A xs.length c, .agg #[.string k.1, .int .i64 k.2.1, .int .i64 k.2.2.1, .int .i64 k.2.2.2]] W fun e w' => e = .returned (.tuple #[.string (cfT xs k), .int .i64 0]) ∧ Below W.heap.size W w' := by
  obtain ⟨a, b, d, e⟩ := k
  have h := implClassFault_any A c xs a b d e W h1 hok
  have e2 := cf_ok hv hl hc
  rw [e2.1, e2.2] at h
  exact h
theorem hne_of {s : ByteArray} (h : ¬ s = ⟨#[]⟩) : ¬ s.toList = [] := by
  intro h2
  apply h
  rw [ByteArray.toList_eq] at h2
  have : s.data = #[] := by simpa using h2
  cases s
  simp_all
theorem tts_size (ts : List TestedD) : (ttS ts).size ≤ 1048576 := by
  unfold ttS
  split
  · rename_i hv
    have := tt_size hv
    omega
  · show 0 ≤ _
    omega
set_option maxRecDepth 100000 in
set_option maxHeartbeats 12800000 in
theorem lawTested_any (A : Option Addr) (c : Nat) (cs : List Int) (w : World) (hr : Rd LU w w.heap.size A c cs) (hb : ∀ x ∈ cs, 0 ≤ x ∧ x ≤ 255) (hT : LibW w) :
    Calls Tryz.prog 3 #[.slice A cs.length c] w fun e w' => e = .returned (.bool true) ∧ Below w.heap.size w w' := by
  have hlen := hr.len63
  have h6 := f6big_any A c cs.length w (by omega)
  have HK0 := Lib.hid (fun (W : World) (h : Below w.heap.size w W) => And.intro ((hr.below h).more h.size) (And.intro h (lib_below hT h (Nat.le_refl _))))
  have HBY := Lib.hid hb
  have hc1 := drawBestClass_any A c cs w hr hb
  clear hr hb hT
  cases hbig : decide (4096 < cs.length)
  rotate_left
  · rw [hbig] at h6
    clear hc1
    go_enter Tryz.func3, Tryz.ntmps3
    go_wp2_with fail
    refine h6.mono ?_
    rintro e w1 ⟨rfl, rfl⟩
    go_wp2_with fail
    go_ret
    exact ⟨rfl, Below.refl _ _⟩
  rw [hbig] at h6
  go_enter Tryz.func3, Tryz.ntmps3
  go_wp2_with fail
  refine h6.mono ?_
  rintro e w0 ⟨rfl, rfl⟩
  go_wp2_with fail
  refine hc1.mono ?_
  rintro e w1 ⟨B1, d1, xs, B2, d2, ks, rfl, hxl, hkl, hok, hrx, hrk, hb1⟩
  have HK1 := Lib.hid (fun (W : World) (hW : Below w1.heap.size w1 W) => And.intro (And.intro (HK0.out W (bthen hb1 (Nat.le_refl _) hW)) ((hrx.below hW).more hW.size)) ((hrk.below hW).more hW.size))
  obtain ⟨bcp, hbc⟩ : ∃ r, r = bcP xs ks := ⟨_, rfl⟩
  have HI1 := Lib.hid (fun (W : World) (h1 : Rd LTested W W.heap.size B1 d1 xs) (h2 : Rd LClass W W.heap.size B2 d2 ks) => And.intro (implBestClass_any B1 d1 xs B2 d2 ks W h1 h2 hok) (specBestClass_any B1 d1 xs B2 d2 ks W h1 h2 hok))
  rw [← hbc] at HI1
  obtain ⟨name, bad⟩ := bcp
  dsimp only at HI1
  have HBC := Lib.hid hbc
  have HOK := Lib.hid hok
  obtain ⟨mn, hmn⟩ : ∃ m : Int, m = (msN xs : Int) := ⟨_, rfl⟩
  obtain ⟨md, hmd⟩ : ∃ m : Int, m = (msD xs : Int) := ⟨_, rfl⟩
  obtain ⟨one, hone⟩ : ∃ m : Int, m = tcP xs := ⟨_, rfl⟩
  have HI2 : Hid (∀ (W : World), Rd LTested W W.heap.size B1 d1 xs → (Calls Tryz.prog 8 #[.slice B1 xs.length d1] W fun e w' => e = .returned (.tuple #[.agg #[.int .i64 mn, .int .i64 md], .int .i64 one]) ∧ Below W.heap.size W w') ∧ (Calls Tryz.prog 9 #[.slice B1 xs.length d1] W fun e w' => e = .returned (.tuple #[.agg #[.int .i64 mn, .int .i64 md], .int .i64 one]) ∧ Below W.heap.size W w')) := Lib.hid (fun W h => by rw [hmn, hmd, hone]; exact ⟨implMeanStrength_any B1 d1 xs W h, specMeanStrength_any B1 d1 xs W h⟩)
  obtain ⟨wkp, hwk0⟩ : ∃ r, r = wkP xs := ⟨_, rfl⟩
  have HI3 := Lib.hid (fun (W : World) (h1 : Rd LTested W W.heap.size B1 d1 xs) => And.intro (implWeakestTested_any B1 d1 xs W h1) (specWeakestTested_any B1 d1 xs W h1))
  rw [← hwk0] at HI3
  obtain ⟨wi, three⟩ := wkp
  dsimp only at HI3
  have HWK := Lib.hid hwk0
  have HMN := Lib.hid hmn
  have HMD := Lib.hid hmd
  have HONE := Lib.hid hone
  have hc2 := (HI1.out w1 ((HK1.out w1 (Below.refl _ _)).1.2) ((HK1.out w1 (Below.refl _ _)).2)).1
  clear h6 hc1 hrx hrk hb1 hlen hbig hbc hok hmn hmd hone hwk0
  go_wp2_with fail
  refine hc2.mono ?_
  rintro e w2 ⟨rfl, hb2⟩
  have HK2 := Lib.hid (fun (W : World) (hW : Below w2.heap.size w2 W) => HK1.out W (bthen hb2 (Nat.le_refl _) hW))
  have hc3 := (HI1.out w2 ((HK2.out w2 (Below.refl _ _)).1.2) ((HK2.out w2 (Below.refl _ _)).2)).2
  clear hc2 hb2 HI1
  as_aux_lemma =>
  go_wp2_with fail
  refine hc3.mono ?_
  rintro e w3 ⟨rfl, hb3⟩
  have HK3 := Lib.hid (fun (W : World) (hW : Below w3.heap.size w3 W) => HK2.out W (bthen hb3 (Nat.le_refl _) hW))
  have hc4 := (HI2.out w3 ((HK3.out w3 (Below.refl _ _)).1.2)).1
  clear hc3 hb3
  go_wp2_with fail
  refine hc4.mono ?_
  rintro e w4 ⟨rfl, hb4⟩
  obtain ⟨W4, hW4⟩ : ∃ W, W = w4.alloc (.cells #[.int .i64 mn, .int .i64 md] 31) := ⟨_, rfl⟩
  have hal : Below w4.heap.size w4 (w4.alloc (.cells #[.int .i64 mn, .int .i64 md] 31)) := (Below.refl _ _).alloc (Nat.le_refl _) _
  have hbz := bthen hb4 (Nat.le_refl _) hal
  have hbx := BoxF.new (w := w4) (N := mn) (D := md)
  rw [← hW4] at hal hbz hbx
  have HK4 := Lib.hid (fun (W : World) (hW : Below W4.heap.size W4 W) => And.intro (HK3.out W (bthen hbz (Nat.le_refl _) hW)) (hbx.below hW))
  have hc5 := (HI2.out W4 ((HK4.out W4 (Below.refl _ _)).1.1.2)).2
  clear hc4 hb4 hal hbz hbx HI2
  as_aux_lemma =>
  go_upto_region 7 with fail
  rw [← hW4]
  clear hW4
  generalize w4.heap.size = bf_ at *
  go_wp2_with fail
  refine hc5.mono ?_
  rintro e w5 ⟨rfl, hb5⟩
  obtain ⟨W5, hW5⟩ : ∃ W, W = w5.alloc (.cells #[.int .i64 mn, .int .i64 md] 31) := ⟨_, rfl⟩
  have hal : Below w5.heap.size w5 (w5.alloc (.cells #[.int .i64 mn, .int .i64 md] 31)) := (Below.refl _ _).alloc (Nat.le_refl _) _
  have hbz := bthen hb5 (Nat.le_refl _) hal
  have hbx := BoxF.new (w := w5) (N := mn) (D := md)
  rw [← hW5] at hal hbz hbx
  have HK5 := Lib.hid (fun (W : World) (hW : Below W5.heap.size W5 W) => And.intro (HK4.out W (bthen hbz (Nat.le_refl _) hW)) (hbx.below hW))
  have hc6 := (HI3.out W5 ((HK5.out W5 (Below.refl _ _)).1.1.1.2)).1
  clear hc5 hb5 hal hbz hbx
  go_upto_region 8 with fail
  rw [← hW5]
  clear hW5
  generalize w5.heap.size = bg_ at *
  as_aux_lemma =>
  go_wp2_with fail
  refine hc6.mono ?_
  rintro e w6 ⟨rfl, hb6⟩
  have HK6 := Lib.hid (fun (W : World) (hW : Below w6.heap.size w6 W) => HK5.out W (bthen hb6 (Nat.le_refl _) hW))
  have hc7 := (HI3.out w6 ((HK6.out w6 (Below.refl _ _)).1.1.1.2)).2
  clear hc6 hb6 HI3
  go_wp2_with fail
  refine hc7.mono ?_
  rintro e w7 ⟨rfl, hb7⟩
  have HK7 := Lib.hid (fun (W : World) (hW : Below w7.heap.size w7 W) => HK6.out W (bthen hb7 (Nat.le_refl _) hW))
  have hc8 := drawClassFault_any A c cs w7 ((HK7.out w7 (Below.refl _ _)).1.1.1.1).1 HBY.out
  clear hc7 hb7
  as_aux_lemma =>
  go_wp2_with fail
  refine hc8.mono ?_
  rintro e w8 ⟨B3, d3, ys, nm, m1, e1, t1, rfl, hyl, hokc, hry, hb8⟩
  obtain ⟨W8, hW8⟩ : ∃ W, W = w8.alloc (.cells #[.string nm, .int .i64 m1, .int .i64 e1, .int .i64 t1] 37) := ⟨_, rfl⟩
  have hal : Below w8.heap.size w8 (w8.alloc (.cells #[.string nm, .int .i64 m1, .int .i64 e1, .int .i64 t1] 37)) := (Below.refl _ _).alloc (Nat.le_refl _) _
  have hbz := bthen hb8 (Nat.le_refl _) hal
  have hbx := CB.new (w := w8) (n := nm) (m := m1) (e := e1) (wt := t1) (T := 37)
  have hfx0 := (hry.below hal).more hal.size
  rw [← hW8] at hal hbz hbx hfx0
  have HK8 := Lib.hid (fun (W : World) (hW : Below W8.heap.size W8 W) => And.intro (And.intro (HK7.out W (bthen hbz (Nat.le_refl _) hW)) ((hfx0.below hW).more hW.size)) (hbx.below hW))
  obtain ⟨fau, hfau⟩ : ∃ r, r = cfS ys (nm, m1, e1, t1) := ⟨_, rfl⟩
  obtain ⟨five, hfive⟩ : ∃ r, r = cfC ys (nm, m1, e1, t1) := ⟨_, rfl⟩
  have HI4 := Lib.hid (fun (W : World) (h1 : Rd LTested W W.heap.size B3 d3 ys) => And.intro (implClassFault_any B3 d3 ys nm m1 e1 t1 W h1 hokc) (specClassFault_any B3 d3 ys nm m1 e1 t1 W h1 hokc))
  rw [← hfau, ← hfive] at HI4
  have hc9 := (HI4.out W8 ((HK8.out W8 (Below.refl _ _)).1.2)).1
  clear hc8 hb8 hal hbz hbx hfx0 hry hokc hyl hfau hfive
  obtain ⟨q0, q1, q2, q3, _, ql⟩ := (HK8.out W8 (Below.refl _ _)).2
  go_upto_region 11 with fail
  rw [← hW8]
  clear hW8
  generalize w8.heap.size = bc_ at *
  as_aux_lemma =>
  go_wp2_with fail
  refine hc9.mono ?_
  rintro e w9 ⟨rfl, hb9⟩
  have HK9 := Lib.hid (fun (W : World) (hW : Below w9.heap.size w9 W) => HK8.out W (bthen hb9 (Nat.le_refl _) hW))
  have hc10 := (HI4.out w9 ((HK9.out w9 (Below.refl _ _)).1.2)).2
  clear hc9 hb9 HI4 q0 q1 q2 q3 ql
  obtain ⟨q0, q1, q2, q3, _, ql⟩ := (HK9.out w9 (Below.refl _ _)).2
  go_wp2_with fail
  refine hc10.mono ?_
  rintro e w10 ⟨rfl, hb10⟩
  have HK10 := Lib.hid (fun (W : World) (hW : Below w10.heap.size w10 W) => HK9.out W (bthen hb10 (Nat.le_refl _) hW))
  have hc11 := drawCountWeak_any A c cs w10 ((HK10.out w10 (Below.refl _ _)).1.1.1.1.1.1).1 HBY.out
  clear hc10 hb10 q0 q1 q2 q3 ql
  as_aux_lemma =>
  go_wp2_with fail
  refine hc11.mono ?_
  rintro e w11 ⟨B4, d4, bs_, st, rfl, hbl, hrb, hb11⟩
  have HK11 := Lib.hid (fun (W : World) (hW : Below w11.heap.size w11 W) => And.intro (HK10.out W (bthen hb11 (Nat.le_refl _) hW)) ((hrb.below hW).more hW.size))
  obtain ⟨cwp, hcw⟩ : ∃ r, r = cwP bs_ st := ⟨_, rfl⟩
  have HI5 := Lib.hid (fun (W : World) (h1 : Rd LTested W W.heap.size B4 d4 bs_) => And.intro (implCountWeak_any B4 d4 bs_ st W h1) (specCountWeak_any B4 d4 bs_ st W h1))
  rw [← hcw] at HI5
  obtain ⟨cn, seven⟩ := cwp
  dsimp only at HI5
  obtain ⟨mwp, hmw⟩ : ∃ r, r = mwP bs_ := ⟨_, rfl⟩
  have HI6 := Lib.hid (fun (W : World) (h1 : Rd LTested W W.heap.size B4 d4 bs_) => And.intro (implMedianWater_any B4 d4 bs_ W h1) (specMedianWater_any B4 d4 bs_ W h1))
  rw [← hmw] at HI6
  obtain ⟨mid, nine⟩ := mwp
  dsimp only at HI6
  have HMW := Lib.hid hmw
  have HBL := Lib.hid hbl
  have hc12 := (HI5.out w11 ((HK11.out w11 (Below.refl _ _)).2)).1
  clear hc11 hb11 hrb hbl hcw hmw
  go_wp2_with fail
  refine hc12.mono ?_
  rintro e w12 ⟨rfl, hb12⟩
  have HK12 := Lib.hid (fun (W : World) (hW : Below w12.heap.size w12 W) => HK11.out W (bthen hb12 (Nat.le_refl _) hW))
  have hc13 := (HI5.out w12 ((HK12.out w12 (Below.refl _ _)).2)).2
  clear hc12 hb12 HI5
  as_aux_lemma =>
  go_wp2_with fail
  refine hc13.mono ?_
  rintro e w13 ⟨rfl, hb13⟩
  have HK13 := Lib.hid (fun (W : World) (hW : Below w13.heap.size w13 W) => HK12.out W (bthen hb13 (Nat.le_refl _) hW))
  have hc14 := (HI6.out w13 ((HK13.out w13 (Below.refl _ _)).2)).1
  clear hc13 hb13
  go_wp2_with fail
  refine hc14.mono ?_
  rintro e w14 ⟨rfl, hb14⟩
  have HK14 := Lib.hid (fun (W : World) (hW : Below w14.heap.size w14 W) => HK13.out W (bthen hb14 (Nat.le_refl _) hW))
  have hc15 := (HI6.out w14 ((HK14.out w14 (Below.refl _ _)).2)).2
  clear hc14 hb14 HI6
  as_aux_lemma =>
  go_wp2_with fail
  refine hc15.mono ?_
  rintro e w15 ⟨rfl, hb15⟩
  have HK15 := Lib.hid (fun (W : World) (hW : Below w15.heap.size w15 W) => HK14.out W (bthen hb15 (Nat.le_refl _) hW))
  have hc16 := drawTestedText_any A c cs w15 ((HK15.out w15 (Below.refl _ _)).1.1.1.1.1.1.1).1 HBY.out
  clear hc15 hb15
  go_wp2_with fail
  refine hc16.mono ?_
  rintro e w16 ⟨B5, d5, ts, rfl, htl, hrt, hb16⟩
  have HK16 := Lib.hid (fun (W : World) (hW : Below w16.heap.size w16 W) => And.intro (HK15.out W (bthen hb16 (Nat.le_refl _) hW)) ((hrt.below hW).more hW.size))
  obtain ⟨tx, htx⟩ : ∃ r, r = ttS ts := ⟨_, rfl⟩
  have hc17 := implTestedText_any B5 d5 ts w16 ((HK16.out w16 (Below.refl _ _)).2) ((HK16.out w16 (Below.refl _ _)).1.1.1.1.1.1.1.1).2.2.tab
  have htz := tts_size ts
  have hbk := rt_back ts
  rw [← htx] at hc17 htz hbk
  have HTX := Lib.hid htx
  obtain ⟨bk, hbk0⟩ : ∃ b, b = (if vtB ts = true then ts else []) := ⟨_, rfl⟩
  rw [← hbk0] at hbk
  have HBK := Lib.hid hbk0
  clear hc16 hb16 hrt htl htx hbk0
  as_aux_lemma =>
  go_wp2_with fail
  refine hc17.mono ?_
  rintro e w17 ⟨rfl, hb17⟩
  have HK17 := Lib.hid (fun (W : World) (hW : Below w17.heap.size w17 W) => HK16.out W (bthen hb17 (Nat.le_refl _) hW))
  have hc18 := implReadTested_any tx w17 htz ((HK17.out w17 (Below.refl _ _)).1.1.1.1.1.1.1.1).2.2
  rw [hbk] at hc18
  change Calls _ _ _ _ (fun e w' => ∃ A c, e = .returned (.tuple #[.slice A bk.length c, .bool true]) ∧ Own LTested 54 w' w17.heap.size A c bk ∧ Below w17.heap.size w17 w') at hc18
  clear hc17 hb17 htz hbk
  go_wp2_with fail
  refine hc18.mono ?_
  rintro e w18 ⟨B6, d6, rfl, ho18, hb18⟩
  have HK18 := Lib.hid (fun (W : World) (hW : Below w18.heap.size w18 W) => And.intro (HK17.out W (bthen hb18 (Nat.le_refl _) hW)) ((ho18.rd.below hW).more hW.size))
  have hc19 := drawReadTested_any A c cs w18 ((HK18.out w18 (Below.refl _ _)).1.1.1.1.1.1.1.1.1).1 HBY.out
  clear hc18 hb18 ho18
  as_aux_lemma =>
  go_wp2_with fail
  refine hc19.mono ?_
  rintro e w19 ⟨sx, rfl, hsz, hb19⟩
  have HK19 := Lib.hid (fun (W : World) (hW : Below w19.heap.size w19 W) => HK18.out W (bthen hb19 (Nat.le_refl _) hW))
  obtain ⟨uu, huu⟩ : ∃ r, r = (rtS sx.data.toList).getD [] := ⟨_, rfl⟩
  obtain ⟨ok2, hok2⟩ : ∃ r, r = (rtS sx.data.toList).isSome := ⟨_, rfl⟩
  have HI7 := Lib.hid (fun (W : World) (h : LibW W) => And.intro (implReadTested_any sx W (by omega) h) (specReadTested_any sx W (by omega) h))
  rw [← huu, ← hok2] at HI7
  have hc20 := (HI7.out w19 ((HK19.out w19 (Below.refl _ _)).1.1.1.1.1.1.1.1.1).2.2).1
  clear hc19 hb19 huu hok2
  go_wp2_with fail
  refine hc20.mono ?_
  rintro e w20 ⟨B7, d7, rfl, ho20, hb20⟩
  have HK20 := Lib.hid (fun (W : World) (hW : Below w20.heap.size w20 W) => And.intro (HK19.out W (bthen hb20 (Nat.le_refl _) hW)) ((ho20.rd.below hW).more hW.size))
  have hc21 := (HI7.out w20 ((HK20.out w20 (Below.refl _ _)).1.1.1.1.1.1.1.1.1.1).2.2).2
  clear hc20 hb20 ho20 HI7
  as_aux_lemma =>
  go_wp2_with fail
  refine hc21.mono ?_
  rintro e w21 ⟨B8, d8, rfl, ho21, hb21⟩
  have HK21 := Lib.hid (fun (W : World) (hW : Below w21.heap.size w21 W) => And.intro (HK20.out W (bthen hb21 (Nat.le_refl _) hW)) ((ho21.rd.below hW).more hW.size))
  have hc22 := drawSameTested_any A c cs w21 ((HK21.out w21 (Below.refl _ _)).1.1.1.1.1.1.1.1.1.1.1).1 HBY.out
  clear hc21 hb21 ho21
  go_wp2_with fail
  refine hc22.mono ?_
  rintro e wk ⟨B9, d9, xd, B10, d10, xe, rfl, hrd, hre, hb22⟩
  have HK22 := Lib.hid (fun (W : World) (hW : Below wk.heap.size wk W) => And.intro (And.intro (HK21.out W (bthen hb22 (Nat.le_refl _) hW)) ((hrd.below hW).more hW.size)) ((hre.below hW).more hW.size))
  clear hc22 hb22 hrd hre HBY HK0 hsz
  have HX1 : Hid (∀ W, Below wk.heap.size wk W → Rd LTested W W.heap.size B1 d1 xs) := Lib.hid (fun W hW => (HK22.out W hW).1.1.1.1.1.1.1.1.1.1.1.1.2)
  have HX2 : Hid (∀ W, Below wk.heap.size wk W → Rd LClass W W.heap.size B2 d2 ks) := Lib.hid (fun W hW => (HK22.out W hW).1.1.1.1.1.1.1.1.1.1.1.2)
  have HX4 : Hid (∀ W, Below wk.heap.size wk W → BoxF W bf_ mn md ∧ BoxF W bg_ mn md) := Lib.hid (fun W hW => ⟨(HK22.out W hW).1.1.1.1.1.1.1.1.1.1.2, (HK22.out W hW).1.1.1.1.1.1.1.1.1.2⟩)
  have HX7 : Hid (∀ W, Below wk.heap.size wk W → Rd LTested W W.heap.size B4 d4 bs_) := Lib.hid (fun W hW => (HK22.out W hW).1.1.1.1.1.1.2)
  have HX8 : Hid (∀ W, Below wk.heap.size wk W → Rd LTested W W.heap.size B5 d5 ts ∧ Rd LTested W W.heap.size B6 d6 bk) := Lib.hid (fun W hW => ⟨(HK22.out W hW).1.1.1.1.1.2, (HK22.out W hW).1.1.1.1.2⟩)
  have HX10 : Hid (∀ W, Below wk.heap.size wk W → Rd LTested W W.heap.size B7 d7 uu ∧ Rd LTested W W.heap.size B8 d8 uu) := Lib.hid (fun W hW => ⟨(HK22.out W hW).1.1.1.2, (HK22.out W hW).1.1.2⟩)
  have HX12 : Hid (∀ W, Below wk.heap.size wk W → Rd LTested W W.heap.size B9 d9 xd ∧ Rd LTested W W.heap.size B10 d10 xe) := Lib.hid (fun W hW => ⟨(HK22.out W hW).1.2, (HK22.out W hW).2⟩)
  have HBW : Hid (∀ W, Below wk.heap.size wk W → Below w.heap.size w W ∧ LibW W) := Lib.hid (fun W hW => (HK22.out W hW).1.1.1.1.1.1.1.1.1.1.1.1.1.2)
  clear HK22
  as_aux_lemma =>
  go_upto_region 25 with fail
  go_cut [263] from 159 to 263 (fun s wx => s = .bool false ∧ Below wk.heap.size wk wx)
  case first =>
    as_aux_lemma =>
    by_cases hemp : tx = ⟨#[]⟩
    · as_aux_lemma =>
      have hq := neqFr mn md
      have hts := fun (W : World) (hW : Below wk.heap.size wk W) => specTestedText_any B5 d5 ts W (HX8.out W hW).1 (HBW.out W hW).2.tab
      rw [← HTX.out, hemp] at hts
      subst hemp
      have hsu := fun (W : World) (hW : Below wk.heap.size wk W) => specSameTested_any B7 B8 d7 d8 uu uu W (HX10.out W hW).1 (HX10.out W hW).2
      rw [allEq_self eqf_self uu] at hsu
      have hid := fun (W : World) (hW : Below wk.heap.size wk W) => implSameTested_any B9 B10 d9 d10 xd xe W (HX12.out W hW).1 (HX12.out W hW).2
      have hsd := fun (W : World) (hW : Below wk.heap.size wk W) => specSameTested_any B9 B10 d9 d10 xd xe W (HX12.out W hW).1 (HX12.out W hW).2
      have hvi := fun (W : World) (hW : Below wk.heap.size wk W) => implValidTested_any B1 d1 xs W (HX1.out W hW)
      have hvs := fun (W : World) (hW : Below wk.heap.size wk W) => specValidTested_any B1 d1 xs W (HX1.out W hW)
      have HTS := Lib.hid hts
      have HSU := Lib.hid hsu
      have HID := Lib.hid hid
      have HSD := Lib.hid hsd
      have HVI := Lib.hid hvi
      have HVS := Lib.hid hvs
      clear hts  hsu hid hsd hvi hvs HX1 HX2 HX7 HX8 HX10 HX12 HBW HBC HOK HMN HMD HONE HWK HMW HBL HTX HBK
      generalize allEq eqfTested xd xe = sb at *
      generalize vtB xs = vb at *
      try simp only [List.cons_append, List.nil_append, List.append_eq]
      obtain ⟨⟨a0, a1, _⟩, ⟨b0, b1, _⟩⟩ := HX4.out wk (Below.refl _ _)
      go_wp2_with fail
      refine (HTS.out wk (Below.refl _ _)).mono ?_
      rintro e v1 ⟨rfl, hx1⟩
      have hb1 := bthen (Below.refl wk.heap.size wk) (Nat.le_refl _) (hx1)
      clear hx1
      go_wp2_with fail
      refine (HSU.out v1 hb1).mono ?_
      rintro e v2 ⟨rfl, hx2⟩
      have hb2 := bthen hb1 (Nat.le_refl _) (hx2.below)
      clear hx2
      go_wp2_with fail
      refine (HID.out v2 hb2).mono ?_
      rintro e v3 ⟨rfl, hx3⟩
      have hb3 := bthen hb2 (Nat.le_refl _) (hx3.below)
      clear hx3
      go_wp2_with fail
      refine (HSD.out v3 hb3).mono ?_
      rintro e v4 ⟨rfl, hx4⟩
      have hb4 := bthen hb3 (Nat.le_refl _) (hx4.below)
      clear hx4
      go_wp2_with fail
      refine (HVI.out v4 hb4).mono ?_
      rintro e v5 ⟨rfl, hx5⟩
      have hb5 := bthen hb4 (Nat.le_refl _) (hx5)
      clear hx5
      go_wp2_with fail
      refine (HVS.out v5 hb5).mono ?_
      rintro e v6 ⟨rfl, hx6⟩
      have hb6 := bthen hb5 (Nat.le_refl _) (hx6)
      clear hx6
      go_wp2_with fail
      go_meet
      case rel => exact ⟨by first | rfl | (simp; done), hb6⟩
    · as_aux_lemma =>
      have hq := neqFr mn md
      have hbt : bk = ts := by
        have h := HBK.out
        by_cases hv : vtB ts = true
        · rw [h, if_pos hv]
        · exact absurd (by rw [HTX.out]; unfold ttS; rw [if_neg hv]) hemp
      have hts := fun (W : World) (hW : Below wk.heap.size wk W) => specTestedText_any B5 d5 ts W (HX8.out W hW).1 (HBW.out W hW).2.tab
      rw [← HTX.out] at hts
      have hsb := fun (W : World) (hW : Below wk.heap.size wk W) => specSameTested_any B6 B5 d6 d5 bk ts W (HX8.out W hW).2 (HX8.out W hW).1
      rw [show allEq eqfTested bk ts = true by rw [hbt]; exact allEq_self eqf_self ts] at hsb
      have hnd := hne_of hemp
      have hsu := fun (W : World) (hW : Below wk.heap.size wk W) => specSameTested_any B7 B8 d7 d8 uu uu W (HX10.out W hW).1 (HX10.out W hW).2
      rw [allEq_self eqf_self uu] at hsu
      have hid := fun (W : World) (hW : Below wk.heap.size wk W) => implSameTested_any B9 B10 d9 d10 xd xe W (HX12.out W hW).1 (HX12.out W hW).2
      have hsd := fun (W : World) (hW : Below wk.heap.size wk W) => specSameTested_any B9 B10 d9 d10 xd xe W (HX12.out W hW).1 (HX12.out W hW).2
      have hvi := fun (W : World) (hW : Below wk.heap.size wk W) => implValidTested_any B1 d1 xs W (HX1.out W hW)
      have hvs := fun (W : World) (hW : Below wk.heap.size wk W) => specValidTested_any B1 d1 xs W (HX1.out W hW)
      have HTS := Lib.hid hts
      have HSB := Lib.hid hsb
      have HSU := Lib.hid hsu
      have HID := Lib.hid hid
      have HSD := Lib.hid hsd
      have HVI := Lib.hid hvi
      have HVS := Lib.hid hvs
      clear hts hsb hbt hsu hid hsd hvi hvs HX1 HX2 HX7 HX8 HX10 HX12 HBW HBC HOK HMN HMD HONE HWK HMW HBL HTX HBK
      generalize allEq eqfTested xd xe = sb at *
      generalize vtB xs = vb at *
      try simp only [List.cons_append, List.nil_append, List.append_eq]
      obtain ⟨⟨a0, a1, _⟩, ⟨b0, b1, _⟩⟩ := HX4.out wk (Below.refl _ _)
      go_wp2_with fail
      refine (HTS.out wk (Below.refl _ _)).mono ?_
      rintro e v1 ⟨rfl, hx1⟩
      have hb1 := bthen (Below.refl wk.heap.size wk) (Nat.le_refl _) (hx1)
      clear hx1
      go_wp2_with fail
      refine (HSB.out v1 hb1).mono ?_
      rintro e v2 ⟨rfl, hx2⟩
      have hb2 := bthen hb1 (Nat.le_refl _) (hx2.below)
      clear hx2
      go_wp2_with fail
      refine (HSU.out v2 hb2).mono ?_
      rintro e v3 ⟨rfl, hx3⟩
      have hb3 := bthen hb2 (Nat.le_refl _) (hx3.below)
      clear hx3
      go_wp2_with fail
      refine (HID.out v3 hb3).mono ?_
      rintro e v4 ⟨rfl, hx4⟩
      have hb4 := bthen hb3 (Nat.le_refl _) (hx4.below)
      clear hx4
      go_wp2_with fail
      refine (HSD.out v4 hb4).mono ?_
      rintro e v5 ⟨rfl, hx5⟩
      have hb5 := bthen hb4 (Nat.le_refl _) (hx5.below)
      clear hx5
      go_wp2_with fail
      refine (HVI.out v5 hb5).mono ?_
      rintro e v6 ⟨rfl, hx6⟩
      have hb6 := bthen hb5 (Nat.le_refl _) (hx6)
      clear hx6
      go_wp2_with fail
      refine (HVS.out v6 hb6).mono ?_
      rintro e v7 ⟨rfl, hx7⟩
      have hb7 := bthen hb6 (Nat.le_refl _) (hx7)
      clear hx7
      go_wp2_with fail
      go_meet
      case rel => exact ⟨by first | rfl | (simp; done), hb7⟩
  case rest =>
    as_aux_lemma =>
    obtain ⟨rfl, hK⟩ := hcut
    have HB := Lib.hid hK
    clear hK HX8 HX10 HX12 HTX HBK
    go_upto_region 27 with fail
    go_cut [278] from 264 to 278 (fun s wx => s = .bool false ∧ Below wk.heap.size wk wx)
    case first =>
      as_aux_lemma =>
      by_cases h1 : one = 0
      rotate_left
      · have h3 : (one == 0) = false := by rw [beq_eq_false_iff_ne]; exact h1
        clear HX1 HX2 HX4 HX7 HBC HOK HMN HMD HONE HWK HMW HBL h1
        go_quiet (fail)
        go_wp2_with fail
        go_meet
        case rel => exact ⟨by first | rfl | (simp; done), below_drewN HB.out _⟩
      · have hz : tcP xs = 0 := by rw [← HONE.out]; exact h1
        obtain ⟨hv, hl⟩ := tc_zero hz
        have hw : wi = ((wkB xs xs.length : Nat) : Int) := by
          have h := HWK.out
          unfold wkP at h
          rw [if_pos hz] at h
          exact congrArg Prod.fst h
        have hq := wkB_lt xs xs.length hl (Nat.le_refl _)
        have hge := mean_ge hz
        have hm20 : md ≤ 20 := by
          rw [HMD.out]
          unfold msD
          rw [if_pos hz]
          have h1 := Nat.div_le_self xs.length (msG xs)
          have h2 := (vt_parts hv).1
          omega
        have hm0 : 0 ≤ md := by rw [HMD.out]; omega
        rw [getD_lt xs _ hq, ← HMN.out, ← HMD.out] at hge
        obtain ⟨hx, _⟩ := (vt_parts hv).2 _ (List.getElem_mem hq)
        subst h1
        clear HMN HMD HONE HWK HX2 HX7 HBC HOK HMW HBL hv hz hl
        generalize wkB xs xs.length = q at *
        subst hw
        obtain ⟨ad, rfl, _, hc0, _⟩ := rdTested (HX1.out wc HB.out) hq
        obtain ⟨_, ⟨b0, b1, _⟩⟩ := HX4.out wc HB.out
        generalize xs[q].1 = x at *
        have hq2 : (q : Int) < xs.length := by omega
        have hb1 : 0 ≤ x * md := Int.mul_nonneg hx.1 hm0
        have hb2 : x * md ≤ 100000 * 20 := Int.mul_le_mul hx.2 hm20 hm0 (by omega)
        have ew : IntKind.i64.wrap (x * md) = x * md := wrapS (by omega) (by omega)
        have hd : decide (mn < x * md) = false := decide_eq_false (by omega)
        clear HX1 HX4 hb1 hb2 hx hm20 hm0
        go_quiet (fail)
        go_wp2_with fail
        go_meet
        case rel => exact ⟨by first | rfl | (simp; done), below_drewN HB.out _⟩
    case rest =>
    as_aux_lemma =>
    clear HB
    obtain ⟨rfl, hK⟩ := hcut
    have HB := Lib.hid hK
    clear hK HX4 HMN HMD HWK
    obtain ⟨b3, hb3⟩ : ∃ b, b = (nine == 0) := ⟨_, rfl⟩
    go_upto_if 280 with fail
    rw [← hb3]
    go_cut [2] from 279 to 316 (fun s wx => s = .bool false ∧ Below wk.heap.size wk wx)
    case first =>
      as_aux_lemma =>
      cases b3
      · go_wp2_with fail
        go_meet
        case rel => exact ⟨rfl, HB.out⟩
      obtain rfl : nine = 0 := by simpa using hb3.symm
      clear hb3
      have hz : tcP bs_ = 0 := by rw [← med_code, ← HMW.out]
      obtain ⟨_, hlo, hhi⟩ := med_walk hz
      rw [← HMW.out] at hlo hhi
      dsimp only at hlo hhi
      have HLO := Lib.hid hlo
      have HHI := Lib.hid hhi
      have hbl := (HX7.out wc HB.out).len63
      clear hlo hhi hz HMW HX1 HX2 HBC HOK HONE
      go_wp2_with fail
      go_loopw [44, 45, 46] (fun s t i wr => ∃ (k : Nat), k ≤ bs_.length ∧ s = .int .i64 (belC (wat (bs_.take k)) mid : Nat) ∧ t = .int .i64 (abvC (wat (bs_.take k)) mid : Nat) ∧ i = .int .i64 k ∧ Hid (Below wk.heap.size wk wr)) (fun _ _ i _ => bs_.length - (intOf i).toNat)
      case atStart => exact ⟨0, by omega, rfl, rfl, rfl, HB⟩
      case round =>
        clear HB
        obtain ⟨k, hk, rfl, rfl, rfl, HB⟩ := hrel
        have l1 := belT_le bs_ mid k
        have l2 := abvC_le bs_ mid k
        by_cases hlt : k < bs_.length
        · have hki : (k : Int) < bs_.length := by omega
          obtain ⟨ad, rfl, hab, _, hc1⟩ := rdTested (HX7.out wr HB.out) hlt
          have H1 := Lib.hid (belT_succ bs_ mid hlt)
          have H2 := Lib.hid (abvC_succ bs_ mid hlt)
          generalize belC (wat (bs_.take k)) mid = U at *
          generalize abvC (wat (bs_.take k)) mid = V at *
          generalize bs_[k].2 = x at *
          have e1 : IntKind.i64.wrap ((U : Int) + 1) = U + 1 := wrapS (by omega) (by omega)
          have e2 : IntKind.i64.wrap ((V : Int) + 1) = V + 1 := wrapS (by omega) (by omega)
          clear l1 l2
          rcases Int.lt_trichotomy x mid with h | h | h
          · have h4 : x ≤ mid := by omega
            have H3 : Hid (belC (wat (bs_.take (k + 1))) mid = U + 1) := Lib.hid (by rw [H1.out, if_pos h])
            have H4 : Hid (abvC (wat (bs_.take (k + 1))) mid = V) := Lib.hid (by rw [H2.out, if_neg (by omega), Nat.add_zero])
            go_wp2_with fail
            go_roundw
            case rel => exact ⟨k + 1, by omega, by rw [H3.out]; go_num, by rw [H4.out], by go_num, HB⟩
            case measure => simp [intOf]; omega
          · have h4 : mid ≤ x := by omega
            have h5 : x ≤ mid := by omega
            have H3 : Hid (belC (wat (bs_.take (k + 1))) mid = U) := Lib.hid (by rw [H1.out, if_neg (by omega), Nat.add_zero])
            have H4 : Hid (abvC (wat (bs_.take (k + 1))) mid = V) := Lib.hid (by rw [H2.out, if_neg (by omega), Nat.add_zero])
            clear h
            go_wp2_with fail
            go_roundw
            case rel => exact ⟨k + 1, by omega, by rw [H3.out], by rw [H4.out], by go_num, HB⟩
            case measure => simp [intOf]; omega
          · have h4 : mid ≤ x := by omega
            have H3 : Hid (belC (wat (bs_.take (k + 1))) mid = U) := Lib.hid (by rw [H1.out, if_neg (by omega), Nat.add_zero])
            have H4 : Hid (abvC (wat (bs_.take (k + 1))) mid = V + 1) := Lib.hid (by rw [H2.out, if_pos h])
            go_wp2_with fail
            go_roundw
            case rel => exact ⟨k + 1, by omega, by rw [H3.out], by rw [H4.out]; go_num, by go_num, HB⟩
            case measure => simp [intOf]; omega
        · have hki : (bs_.length : Int) ≤ k := by omega
          have hfull : bs_.take k = bs_ := List.take_of_length_le (by omega)
          rw [hfull] at l1 l2 ⊢
          have hlo := HLO.out
          have hhi := HHI.out
          clear hfull
          generalize belC (wat bs_) mid = U at *
          generalize abvC (wat bs_) mid = V at *
          have e1 : IntKind.i64.wrap (2 * (U : Int)) = 2 * U := wrapS (by omega) (by omega)
          have e2 : IntKind.i64.wrap (2 * (V : Int)) = 2 * V := wrapS (by omega) (by omega)
          have h1 : 2 * (U : Int) < bs_.length := by omega
          have h2 : 2 * (V : Int) ≤ bs_.length := by omega
          clear hlo hhi
          go_wp2_with fail
          go_meet
          case rel => exact ⟨by first | rfl | (simp; done), HB.out⟩
    case rest =>
    as_aux_lemma =>
    clear HB hb3 b3
    obtain ⟨rfl, hK⟩ := hcut
    have HB := Lib.hid hK
    clear hK HX7 HMW HBL
    have hcode := bc_code xs ks
    rw [← HBC.out] at hcode
    dsimp only at hcode
    have hklen := (HX2.out wc HB.out).len63
    by_cases hgo : bad = 0 ∨ (bad = 3 ∧ one = 0)
    rotate_left
    · have hb1 : (bad != 0) = true := by rw [bne_iff_ne]; exact fun h => hgo (.inl h)
      have hb2 : (bad == 0) = false := by rw [beq_eq_false_iff_ne]; exact fun h => hgo (.inl h)
      clear HX1 HX2 HBC HOK HONE
      by_cases h3 : bad = 3
      · have hb3 : (one == 0) = false := by rw [beq_eq_false_iff_ne]; exact fun h => hgo (.inr ⟨h3, h⟩)
        subst h3
        clear hgo hcode hb1 hb2
        go_wp2_with fail
        go_loopw [47] (fun i wr => i = .int .i64 0 ∧ Hid (Below wk.heap.size wk wr)) (fun i _ => 0)
        case atStart => exact ⟨rfl, HB⟩
        case round =>
          clear HB
          obtain ⟨rfl, HB⟩ := hrel
          go_wp2_with fail
          all_goals
            go_ret
            exact ⟨by first | rfl | (simp; done), (HBW.out _ HB.out).1⟩
      · obtain rfl : bad = 1 := by
          rcases hcode with h | h | h
          · exact absurd (.inl h) hgo
          · exact absurd h h3
          · exact h
        clear hgo hcode hb1 hb2 h3
        go_wp2_with fail
        go_loopw [47] (fun i wr => i = .int .i64 0 ∧ Hid (Below wk.heap.size wk wr)) (fun i _ => 0)
        case atStart => exact ⟨rfl, HB⟩
        case round =>
          clear HB
          obtain ⟨rfl, HB⟩ := hrel
          go_wp2_with fail
          all_goals
            go_ret
            exact ⟨by first | rfl | (simp; done), (HBW.out _ HB.out).1⟩
    obtain ⟨hv, hl, hall, hbf⟩ := bc_walk (xs := xs) (ks := ks) (by
      rw [← HBC.out, ← HONE.out]
      exact hgo)
    rw [← HBC.out] at hbf
    have HV := Lib.hid hv
    have HL := Lib.hid hl
    have HALL := Lib.hid hall
    have HBF : Hid ((name, bad) = bcF xs (ks.drop 0)) := Lib.hid (by rw [hbf]; rfl)
    clear hv hl hall hbf hcode HBC HONE
    have HCF := Lib.hid (fun (W : World) (hW : Below wk.heap.size wk W) (k : Nat) (hk : k < ks.length) => cfCall_any B1 d1 xs ks[k] W (HX1.out W hW) (HOK.out _ (List.getElem_mem hk)) HV.out HL.out (HALL.out _ (List.getElem_mem hk)))
    clear HX1 HOK HALL
    rcases hgo with hgo | hgo
    · as_aux_lemma =>
      subst hgo
      go_wp2_with fail
      go_loopw [47] (fun i wr => ∃ k : Nat, k ≤ ks.length ∧ i = .int .i64 k ∧ Hid ((name, (0 : Int)) = bcF xs (ks.drop k)) ∧ Hid (Below wk.heap.size wk wr)) (fun i _ => ks.length - (intOf i).toNat)
      case atStart => exact ⟨0, by omega, rfl, HBF, HB⟩
      case round =>
        clear HB HBF
        obtain ⟨k, hk, rfl, HE, HB⟩ := hrel
        by_cases hlt : k < ks.length
        rotate_left
        · exfalso
          have h := HE.out
          rw [List.drop_of_length_le (by omega)] at h
          simp [bcF] at h
        have hki : (k : Int) < ks.length := by omega
        obtain ⟨ad, rfl, hab, hd0, hd1, hd2, hd3⟩ := rdClass (HX2.out wr HB.out) hlt
        have HS := Lib.hid (bcF_step xs hlt)
        have hct := HCF.out wr HB.out k hlt
        rcases cfT_cases xs ks[k] with h | h
        · have HN : Hid ((name, (0 : Int)) = bcF xs (ks.drop (k + 1))) := Lib.hid (by
            rw [HE.out, HS.out, if_neg]
            have h' : cfT xs ks[k] ≠ { data := #[110, 111, 110, 101] } := by
              rcases h with h | h | h <;> rw [h] <;> decide
            simp [noF, h'])
          rcases h with h | h | h
          all_goals
            rw [h] at hct
            clear h HS HE
            go_wp2_with fail
            refine hct.mono ?_
            rintro e w3 ⟨rfl, hc3⟩
            have HB3 := Lib.hid (bthen HB.out (Nat.le_refl _) hc3)
            clear hct hc3
            go_wp2_with fail
            go_roundw
            case rel => exact ⟨k + 1, by omega, by go_num, HN, HB3⟩
            case measure => simp [intOf]; omega
        · have HN : Hid (ks[k].1 = name) := Lib.hid (by
            have h2 := HE.out
            rw [HS.out, if_pos] at h2
            · exact (congrArg Prod.fst h2).symm
            · have hp := HL.out
              simp [noF, h, hp])
          rw [h] at hct
          clear h HS HE
          go_wp2_with fail
          refine hct.mono ?_
          rintro e w3 ⟨rfl, hc3⟩
          have HB3 := Lib.hid (bthen HB.out (Nat.le_refl _) hc3)
          clear hct hc3
          obtain ⟨ad3, had3, _, kd0, _⟩ := rdClass (HX2.out w3 HB3.out) hlt
          cases had3
          rw [HN.out] at kd0
          go_wp2_with fail
          go_ret
          exact ⟨by first | rfl | (simp; done), (HBW.out _ HB3.out).1⟩
    · as_aux_lemma =>
      obtain ⟨rfl, rfl⟩ := hgo
      go_wp2_with fail
      go_loopw [47] (fun i wr => ∃ k : Nat, k ≤ ks.length ∧ i = .int .i64 k ∧ Hid ((name, (3 : Int)) = bcF xs (ks.drop k)) ∧ Hid (Below wk.heap.size wk wr)) (fun i _ => ks.length - (intOf i).toNat)
      case atStart => exact ⟨0, by omega, rfl, HBF, HB⟩
      case round =>
        clear HB HBF
        obtain ⟨k, hk, rfl, HE, HB⟩ := hrel
        by_cases hlt : k < ks.length
        rotate_left
        · have hki : (ks.length : Int) ≤ k := by omega
          go_wp2_with fail
          go_ret
          exact ⟨by first | rfl | (simp; done), (HBW.out _ HB.out).1⟩
        have hki : (k : Int) < ks.length := by omega
        obtain ⟨ad, rfl, hab, hd0, hd1, hd2, hd3⟩ := rdClass (HX2.out wr HB.out) hlt
        have HS := Lib.hid (bcF_step xs hlt)
        have hct := HCF.out wr HB.out k hlt
        rcases cfT_cases xs ks[k] with h | h
        · have HN : Hid ((name, (3 : Int)) = bcF xs (ks.drop (k + 1))) := Lib.hid (by
            rw [HE.out, HS.out, if_neg]
            have h' : cfT xs ks[k] ≠ { data := #[110, 111, 110, 101] } := by
              rcases h with h | h | h <;> rw [h] <;> decide
            simp [noF, h'])
          rcases h with h | h | h
          all_goals
            rw [h] at hct
            clear h HS HE
            go_wp2_with fail
            refine hct.mono ?_
            rintro e w3 ⟨rfl, hc3⟩
            have HB3 := Lib.hid (bthen HB.out (Nat.le_refl _) hc3)
            clear hct hc3
            go_wp2_with fail
            go_roundw
            case rel => exact ⟨k + 1, by omega, by go_num, HN, HB3⟩
            case measure => simp [intOf]; omega
        · exfalso
          have h2 := HE.out
          rw [HS.out, if_pos] at h2
          · simp at h2
          · have hp := HL.out
            simp [noF, h, hp]
end Go.Proofs.YtehmghlhljocbaaGreatDoor
