/-
  FnBays returns true for every argument: the walk.
-/
import Derived.Test.YtamhkiakplmlmaaBaysI
import Derived.Test.YtamhkiakplmlmaaBaysLaw
import Derived.Test.YtamhkiakplmlmaaBaysDraw
import Derived.Test.YtamhkiakplmlmaaScDrawB
import Derived.Test.YtamhkiakplmlmaaF6
import Derived.Deep.CutRange
namespace Go.Proofs.Ytamhkiakplmlmaa
open Go.ChangeShapes Go.WideShapes Go.RowKit

/-- a scaffold that lies in a box -/
structure BoxS (w : World) (b : Nat) (Ab : Option Addr) (cb : Nat) (xb : List Int) (At : Option Addr) (ct : Nat) (xt : List Int) (N : Int) : Prop where
  c0 : w.cell? ⟨b, 0, none⟩ = some (.slice Ab xb.length cb)
  c1 : w.cell? ⟨b, 1, none⟩ = some (.slice At xt.length ct)
  c2 : w.cell? ⟨b, 2, none⟩ = some (.int .i64 N)
  lt : b < w.heap.size
  rb : Rd LI w w.heap.size Ab cb xb
  rt : Rd LI w w.heap.size At ct xt
theorem BoxS.below {w w' : World} {b cb ct : Nat} {Ab At : Option Addr} {xb xt : List Int} {N : Int} (h : BoxS w b Ab cb xb At ct xt N) (hb : Below w.heap.size w w') : BoxS w' b Ab cb xb At ct xt N :=
  ⟨(hb.cell (p := ⟨b, 0, none⟩) h.lt).trans h.c0, (hb.cell (p := ⟨b, 1, none⟩) h.lt).trans h.c1, (hb.cell (p := ⟨b, 2, none⟩) h.lt).trans h.c2, by have := h.lt; have := hb.size; omega, (h.rb.below hb).more hb.size, (h.rt.below hb).more hb.size⟩
theorem BoxS.new {w : World} {cb ct : Nat} {Ab At : Option Addr} {xb xt : List Int} {N : Int} (hb : Rd LI w w.heap.size Ab cb xb) (ht : Rd LI w w.heap.size At ct xt) : BoxS (w.alloc (.cells #[.slice Ab xb.length cb, .slice At xt.length ct, .int .i64 N] 30)) w.heap.size Ab cb xb At ct xt N :=
  ⟨by go_simp, by go_simp, by go_simp, by simp, hb.al _, ht.al _⟩
set_option maxRecDepth 100000 in
set_option maxHeartbeats 12800000 in
theorem lawBays_any (A : Option Addr) (c : Nat) (cs : List Int) (w : World) (hr : Rd LU w w.heap.size A c cs) (hb : ∀ x ∈ cs, 0 ≤ x ∧ x ≤ 255) :
    Calls Try.prog 3 #[.slice A cs.length c] w fun e w' => e = .returned (.bool true) ∧ Below w.heap.size w w' := by
  have hlen := hr.len63
  have h6 := f6big_any A c cs.length w (by omega)
  have HK0 := Lib.hid (fun (W : World) (h : Below w.heap.size w W) => And.intro ((hr.below h).more h.size) h)
  have HBY := Lib.hid hb
  have hc1 := drawBays_any A c cs w hr hb
  clear hr hb
  cases hbig : decide (4096 < cs.length)
  rotate_left
  · rw [hbig] at h6
    clear hc1
    go_enter Try.func3, Try.ntmps3
    go_wp2_with fail
    refine h6.mono ?_
    rintro e w1 ⟨rfl, rfl⟩
    go_wp2_with fail
    go_ret
    exact ⟨rfl, Below.refl _ _⟩
  rw [hbig] at h6
  go_enter Try.func3, Try.ntmps3
  go_wp2_with fail
  refine h6.mono ?_
  rintro e w0 ⟨rfl, rfl⟩
  go_wp2_with fail
  refine hc1.mono ?_
  rintro e w1 ⟨len, B1, d1, xs, rfl, _, hr1, hb1⟩
  have HK1 := Lib.hid (fun (W : World) (hW : Below w1.heap.size w1 W) => And.intro (HK0.out W (bthen hb1 (Nat.le_refl _) hW)) ((hr1.below hW).more hW.size))
  obtain ⟨M, hM⟩ : ∃ M, M = bfP len xs := ⟨_, rfl⟩
  have hc2 := implBaysFor_any len B1 d1 xs w1 hr1
  have HC3 := Lib.hid (fun (W : World) (hW : Below w1.heap.size w1 W) => specBaysFor_any len B1 d1 xs W ((hr1.below hW).more hW.size))
  rw [← hM] at hc2 HC3
  obtain ⟨M, pc⟩ := M
  dsimp only at hc2 HC3
  have HM := Lib.hid hM
  clear h6 hc1 hr1 hb1 hM hlen hbig
  as_aux_lemma =>
  go_wp2_with fail
  refine hc2.mono ?_
  rintro e w2 ⟨B2, d2, rfl, ho2, hb2⟩
  have HK2 := Lib.hid (fun (W : World) (hW : Below w2.heap.size w2 W) => And.intro (HK1.out W (bthen hb2 (Nat.le_refl _) hW)) ((ho2.rd.below hW).more hW.size))
  have hc3 := HC3.out w2 hb2
  clear hc2 ho2 hb2 HC3
  go_wp2_with fail
  refine hc3.mono ?_
  rintro e w3 ⟨B3, d3, rfl, ho3, hb3⟩
  have HK3 := Lib.hid (fun (W : World) (hW : Below w3.heap.size w3 W) => And.intro (HK2.out W (bthen hb3 (Nat.le_refl _) hW)) ((ho3.rd.below hW).more hW.size))
  obtain ⟨⟨⟨⟨hx1, _⟩, _⟩, _⟩, _⟩ := HK3.out w3 (Below.refl _ _)
  have hc4 := drawPoles_any A c cs w3 hx1 HBY.out
  clear hc3 hx1 ho3 hb3 HK1 HK2
  as_aux_lemma =>
  go_wp2_with fail
  refine hc4.mono ?_
  rintro e w4 ⟨Ab, cb, xb, At, ct, xt, N, rfl, _, _, hRb, hRt, hb4⟩
  have hs4 := hb4.size
  have hbx := BoxS.new (N := N) hRb hRt
  have hb4b := hb4.alloc hs4 (.cells #[.slice Ab xb.length cb, .slice At xt.length ct, .int .i64 N] 30)
  obtain ⟨P, hP⟩ : ∃ P, P = poP xb xt N := ⟨_, rfl⟩
  have hc5 := implPolesOf_any Ab cb xb At ct xt N _ hbx.rb hbx.rt
  have HC6 := Lib.hid (fun (W : World) (hW : BoxS W w4.heap.size Ab cb xb At ct xt N) => specPolesOf_any Ab cb xb At ct xt N W hW.rb hW.rt)
  rw [← hP] at hc5 HC6
  clear hP
  obtain ⟨P, P2, P3⟩ := P
  dsimp only at hc5 HC6
  obtain ⟨T, hT⟩ : ∃ T, T = tyP xb xt N := ⟨_, rfl⟩
  have HC7 := Lib.hid (fun (W : World) (hW : BoxS W w4.heap.size Ab cb xb At ct xt N) => implTiesOf_any Ab cb xb At ct xt N W hW.rb hW.rt)
  have HC8 := Lib.hid (fun (W : World) (hW : BoxS W w4.heap.size Ab cb xb At ct xt N) => specTiesOf_any Ab cb xb At ct xt N W hW.rb hW.rt)
  rw [← hT] at HC7 HC8
  obtain ⟨T, tc⟩ := T
  dsimp only at HC7 HC8
  have HT := Lib.hid hT
  obtain ⟨Q, hQ⟩ : ∃ Q, Q = lbP xb xt N := ⟨_, rfl⟩
  have HC9 := Lib.hid (fun (W : World) (hW : BoxS W w4.heap.size Ab cb xb At ct xt N) => implLengthOfBays_any Ab cb xb At ct xt N W hW.rb hW.rt)
  have HC10 := Lib.hid (fun (W : World) (hW : BoxS W w4.heap.size Ab cb xb At ct xt N) => specLengthOfBays_any Ab cb xb At ct xt N W hW.rb hW.rt)
  rw [← hQ] at HC9 HC10
  clear hQ hT
  obtain ⟨ll, lc⟩ := Q
  dsimp only at HC9 HC10
  have HK4 := Lib.hid (fun (W : World) (hW : Below (w4.alloc (.cells #[.slice Ab xb.length cb, .slice At xt.length ct, .int .i64 N] 30)).heap.size (w4.alloc (.cells #[.slice Ab xb.length cb, .slice At xt.length ct, .int .i64 N] 30)) W) => And.intro (HK3.out W (bthen hb4b (Nat.le_refl _) hW)) (hbx.below hW))
  clear hc4 hRb hRt hb4 hb4b hbx HK3
  go_wp2_with fail
  refine hc5.mono ?_
  rintro e w5 ⟨rfl, hb5⟩
  have hbox := (HK4.out w5 hb5).2
  have HK5 := Lib.hid (fun (W : World) (hW : Below w5.heap.size w5 W) => HK4.out W (bthen hb5 (Nat.le_refl _) hW))
  clear hc5 hb5 HK4 hs4
  generalize w4.heap.size = bs at *
  obtain ⟨q0, q1, q2, ql, _, _⟩ := hbox
  have hc6 := HC6.out w5 (HK5.out w5 (Below.refl _ _)).2
  clear HC6
  as_aux_lemma =>
  go_wp2_with fail
  refine hc6.mono ?_
  rintro e w6 ⟨rfl, hb6⟩
  have HK6 := Lib.hid (fun (W : World) (hW : Below w6.heap.size w6 W) => HK5.out W (bthen hb6 (Nat.le_refl _) hW))
  clear hc6 hb6 HK5 q0 q1 q2 ql
  obtain ⟨q0, q1, q2, ql, _, _⟩ := (HK6.out w6 (Below.refl _ _)).2
  have hc7 := HC7.out w6 (HK6.out w6 (Below.refl _ _)).2
  clear HC7
  go_wp2_with fail
  refine hc7.mono ?_
  rintro e w7 ⟨A7, c7, rs7, rfl, ho7, hd7, hb7⟩
  have HD7 := Lib.hid hd7
  have HK7 := Lib.hid (fun (W : World) (hW : Below w7.heap.size w7 W) => And.intro (HK6.out W (bthen hb7 (Nat.le_refl _) hW)) ((ho7.rd.below hW).more hW.size))
  clear hc7 hb7 HK6 q0 q1 q2 ql ho7 hd7
  obtain ⟨q0, q1, q2, ql, _, _⟩ := (HK7.out w7 (Below.refl _ _)).1.2
  have hc8 := HC8.out w7 (HK7.out w7 (Below.refl _ _)).1.2
  clear HC8
  go_wp2_with fail
  refine hc8.mono ?_
  rintro e w8 ⟨A8, c8, rs8, rfl, ho8, hd8, hb8⟩
  have HD8 := Lib.hid hd8
  have HK8 := Lib.hid (fun (W : World) (hW : Below w8.heap.size w8 W) => And.intro (HK7.out W (bthen hb8 (Nat.le_refl _) hW)) ((ho8.rd.below hW).more hW.size))
  clear hc8 hb8 HK7 q0 q1 q2 ql ho8 hd8
  obtain ⟨q0, q1, q2, ql, _, _⟩ := (HK8.out w8 (Below.refl _ _)).1.1.2
  have hc9 := HC9.out w8 (HK8.out w8 (Below.refl _ _)).1.1.2
  clear HC9
  as_aux_lemma =>
  go_wp2_with fail
  refine hc9.mono ?_
  rintro e w9 ⟨rfl, hb9⟩
  have HK9 := Lib.hid (fun (W : World) (hW : Below w9.heap.size w9 W) => HK8.out W (bthen hb9 (Nat.le_refl _) hW))
  clear hc9 hb9 HK8 q0 q1 q2 ql
  obtain ⟨q0, q1, q2, ql, _, _⟩ := (HK9.out w9 (Below.refl _ _)).1.1.2
  have hc10 := HC10.out w9 (HK9.out w9 (Below.refl _ _)).1.1.2
  clear HC10
  go_wp2_with fail
  refine hc10.mono ?_
  rintro e w10 ⟨rfl, hb10⟩
  have HK10 := Lib.hid (fun (W : World) (hW : Below w10.heap.size w10 W) => HK9.out W (bthen hb10 (Nat.le_refl _) hW))
  clear hc10 hb10 HK9 q0 q1 q2 ql
  obtain ⟨⟨⟨⟨⟨⟨⟨hx1, _⟩, _⟩, _⟩, _⟩, _⟩, _⟩, _⟩ := HK10.out w10 (Below.refl _ _)
  have hc11 := drawBoards_any A c cs w10 hx1 HBY.out
  clear hx1 HBY
  as_aux_lemma =>
  go_wp2_with fail
  refine hc11.mono ?_
  rintro e w11 ⟨Ac, cc, xc, Ad, cd, xd, N2, board, wide, rfl, _, _, hRb, hRt, hb11⟩
  have hs11 := hb11.size
  have hbx := BoxS.new (N := N2) hRb hRt
  have hb11b := hb11.alloc hs11 (.cells #[.slice Ac xc.length cc, .slice Ad xd.length cd, .int .i64 N2] 30)
  obtain ⟨Q, hQ⟩ : ∃ Q, Q = boP xc xd N2 board wide := ⟨_, rfl⟩
  have hc12 := implBoardsFor_any Ac cc xc Ad cd xd N2 board wide _ hbx.rb hbx.rt
  have HC13 := Lib.hid (fun (W : World) (hW : BoxS W w11.heap.size Ac cc xc Ad cd xd N2) => specBoardsFor_any Ac cc xc Ad cd xd N2 board wide W hW.rb hW.rt)
  have HC14 := Lib.hid (fun (W : World) (hW : BoxS W w11.heap.size Ac cc xc Ad cd xd N2) => implLengthOfBays_any Ac cc xc Ad cd xd N2 W hW.rb hW.rt)
  rw [← hQ] at hc12 HC13
  obtain ⟨nb, bc⟩ := Q
  dsimp only at hc12 HC13
  have HQ := Lib.hid hQ
  have HK11 := Lib.hid (fun (W : World) (hW : Below (w11.alloc (.cells #[.slice Ac xc.length cc, .slice Ad xd.length cd, .int .i64 N2] 30)).heap.size (w11.alloc (.cells #[.slice Ac xc.length cc, .slice Ad xd.length cd, .int .i64 N2] 30)) W) => And.intro (HK10.out W (bthen hb11b (Nat.le_refl _) hW)) (hbx.below hW))
  clear hc11 hRb hRt hb11 hb11b hbx HK10 hQ
  go_wp2_with fail
  refine hc12.mono ?_
  rintro e w12 ⟨rfl, hb12⟩
  have hbox := (HK11.out w12 hb12).2
  have HK12 := Lib.hid (fun (W : World) (hW : Below w12.heap.size w12 W) => HK11.out W (bthen hb12 (Nat.le_refl _) hW))
  clear hc12 hb12 HK11 hs11
  generalize w11.heap.size = bt at *
  obtain ⟨q0, q1, q2, ql, _, _⟩ := hbox
  have hc13 := HC13.out w12 (HK12.out w12 (Below.refl _ _)).2
  clear HC13
  go_wp2_with fail
  refine hc13.mono ?_
  rintro e w13 ⟨rfl, hb13⟩
  have HZ := Lib.hid (fun (W : World) (hW : Below w13.heap.size w13 W) => HK12.out W (bthen hb13 (Nat.le_refl _) hW))
  clear hc13 hb13 HK12 q0 q1 q2 ql
  have HXS : Hid (∀ W, Below w13.heap.size w13 W → Rd LI W W.heap.size B1 d1 xs) := Lib.hid (fun W hW => (HZ.out W hW).1.1.1.1.1.1.2)
  have HM2 : Hid (∀ W, Below w13.heap.size w13 W → Rd LI W W.heap.size B2 d2 M) := Lib.hid (fun W hW => (HZ.out W hW).1.1.1.1.1.2)
  have HM3 : Hid (∀ W, Below w13.heap.size w13 W → Rd LI W W.heap.size B3 d3 M) := Lib.hid (fun W hW => (HZ.out W hW).1.1.1.1.2)
  have HR7 : Hid (∀ W, Below w13.heap.size w13 W → RdR LI W W.heap.size A7 c7 rs7) := Lib.hid (fun W hW => (HZ.out W hW).1.1.2)
  have HR8 : Hid (∀ W, Below w13.heap.size w13 W → RdR LI W W.heap.size A8 c8 rs8) := Lib.hid (fun W hW => (HZ.out W hW).1.2)
  have HBT : Hid (∀ W, Below w13.heap.size w13 W → BoxS W bt Ac cc xc Ad cd xd N2) := Lib.hid (fun W hW => (HZ.out W hW).2)
  have HBW : Hid (∀ W, Below w13.heap.size w13 W → Below w.heap.size w W) := Lib.hid (fun W hW => (HZ.out W hW).1.1.1.1.1.1.1.2)
  have hf1 := f6ints_any B2 B3 d2 d3 M _ w13 (HM2.out w13 (Below.refl _ _)) (HM3.out w13 (Below.refl _ _))
  clear HZ
  as_aux_lemma =>
  go_wp2_with fail
  refine hf1.mono ?_
  rintro e w14 ⟨rfl, hd14⟩
  have hb14 : Below w13.heap.size w13 w14 := hd14.below
  have hf2 := f6lists_any A7 A8 c7 c8 rs7 rs8 _ w14 (HR7.out w14 hb14) (HR8.out w14 hb14) (by rw [HD7.out, HD8.out])
  clear hf1 hd14
  go_wp2_with fail
  refine hf2.mono ?_
  rintro e w15 ⟨rfl, hd15⟩
  have HB15 := Lib.hid (bthen hb14 (Nat.le_refl _) hd15.below)
  clear hf2 hd15 hb14
  as_aux_lemma =>
  go_upto_if 168 with fail
  obtain ⟨b3, hb3⟩ : ∃ b, b = (bc == 0) := ⟨_, rfl⟩
  rw [← hb3]
  go_cut [2] from 167 to 199 (fun s wx => s = .bool false ∧ Below w13.heap.size w13 wx)
  case first =>
    as_aux_lemma =>
    cases b3
    · go_wp2_with fail
      go_meet
      case rel => exact ⟨rfl, HB15.out⟩
    obtain rfl : bc = 0 := by simpa using hb3.symm
    clear hb3
    obtain ⟨k, k0, k1, hnk, w0, w1', b0, b1, hsm, p0, p1, hl20, hlb, hrem, hquo, n0, n1⟩ := bo_walk HQ.out.symm
    have hbox := HBT.out w15 HB15.out
    obtain ⟨q0, q1, q2, ql, _, _⟩ := hbox
    have hc14 := HC14.out w15 (HBT.out w15 HB15.out)
    rw [hlb] at hc14
    dsimp only at hc14
    obtain ⟨S, hS⟩ : ∃ S, S = sm xc := ⟨_, rfl⟩
    rw [← hS] at hc14 hsm
    have d1 : nb.tmod wide = 0 := by rw [Int.tmod_eq_emod_of_nonneg n0]; exact hrem
    have d2 : nb.tdiv wide = k := by rw [Int.tdiv_eq_ediv_of_nonneg n0]; exact hquo
    clear hlb hS hnk hrem hquo HC14
    go_wp2_with fail
    refine hc14.mono ?_
    rintro e wa ⟨rfl, hba⟩
    have HBa := Lib.hid (bthen HB15.out (Nat.le_refl _) hba)
    clear hc14 hba q0 q1 q2 ql
    obtain ⟨q0, q1, q2, ql, _, _⟩ := HBT.out wa HBa.out
    obtain ⟨p, hp⟩ : ∃ p, p = k * board := ⟨_, rfl⟩
    rw [← hp] at hsm p0 p1
    have z1 : ¬ wide = 0 := by omega
    have z2 : wide ≠ 0 := by omega
    have z3 : (wide == 0) = false := by rw [beq_eq_false_iff_ne]; omega
    have z4 : (wide != 0) = true := by rw [bne_iff_ne]; omega
    have e1 : IntKind.i64.wrap k = k := wrapS (by omega) (by omega)
    have e2 : IntKind.i64.wrap (k * board) = p := by rw [← hp]; exact wrapS (by omega) (by omega)
    have e3 : IntKind.i64.wrap 0 = 0 := by decide
    have c1' : decide (p < S) = false := decide_eq_false (by omega)
    have c2' : decide ((xc.length : Int) < k) = false := decide_eq_false (by omega)
    clear hp
    go_wp2_with fail
    go_quiet (fail)
    go_wp2_with fail
    go_meet
    case rel => exact ⟨rfl, below_drewN HBa.out _⟩
  case rest =>
  as_aux_lemma =>
  clear HB15 hb3 b3
  obtain ⟨rfl, hK⟩ := hcut
  have HB := Lib.hid hK
  clear hK HBT HC14 HQ
  go_upto_if 201 with fail
  obtain ⟨b3, hb3⟩ : ∃ b, b = (tc == 0) := ⟨_, rfl⟩
  rw [← hb3]
  go_cut [2] from 200 to 230 (fun s wx => s = .bool false ∧ Below w13.heap.size w13 wx)
  case first =>
    as_aux_lemma =>
    cases b3
    · go_wp2_with fail
      go_meet
      case rel => exact ⟨rfl, HB.out⟩
    obtain rfl : tc = 0 := by simpa using hb3.symm
    clear hb3
    have HTY := Lib.hid (ty_walk HT.out.symm)
    rw [← HD8.out] at HTY
    have hrlen := (HR8.out wc HB.out).len63
    -- ties
    go_wp2_with fail
    go_loopw [2, 33] (fun z i wr => ∃ (m : Nat), m ≤ rs8.length ∧ z = .bool false ∧ i = .int .i64 m ∧ Hid (Below w13.heap.size w13 wr)) (fun _ i _ => rs8.length - (intOf i).toNat)
    case atStart => exact ⟨0, by omega, rfl, rfl, HB⟩
    case round =>
      clear HB
      obtain ⟨m, hm, rfl, rfl, HB⟩ := hrel
      by_cases hlt : m < rs8.length
      · have hmi : (m : Int) < rs8.length := by omega
        obtain ⟨ad, rfl, hab, hc1, hrk⟩ := (HR8.out wr HB.out).at_ hlt
        obtain ⟨x, y, hxy, x0, x1, y0, y1, hs⟩ := HTY.out _ (List.mem_map.2 ⟨_, List.getElem_mem hlt, rfl⟩)
        rw [hxy] at hc1 hrk
        obtain ⟨ak, hA, _, hcx⟩ := hrk.int (k := 0) (by simp)
        obtain ⟨ak2, hA2, _, hcy⟩ := hrk.int (k := 1) (by simp)
        rw [hA] at hA2 hc1
        cases hA2
        simp only [List.getElem_cons_zero, List.getElem_cons_succ] at hcx hcy
        have hcy2 : wr.cell? ⟨ak.block, ak.off + 1, none⟩ = some (.int .i64 y) := by simpa [Addr.add] using hcy
        have hcx2 : wr.cell? ak = some (.int .i64 x) := by rw [← hcx]; congr 1
        obtain ⟨n2, hn2⟩ : ∃ n : Nat, n = 2 := ⟨2, rfl⟩
        rw [show ([x, y] : List Int).length = n2 from hn2.symm] at hc1
        have g1 : ((n2 : Int) != 2) = false := by rw [bne_eq_false_iff_eq]; omega
        have g2 : (0 : Int) < n2 := by omega
        have g3 : (1 : Int) < n2 := by omega
        have g4 : (n2 != 2) = false := by rw [bne_eq_false_iff_eq]; omega
        have g5 : 0 < n2 := by omega
        have g6 : 1 < n2 := by omega
        have g7 : (n2 == 2) = true := by rw [beq_iff_eq]; omega
        have g8 : ((n2 : Int) == 2) = true := by rw [beq_iff_eq]; omega
        clear hn2
        obtain ⟨u, hu⟩ : ∃ u, u = x + y := ⟨_, rfl⟩
        have e1 : IntKind.i64.wrap (x + y) = u := by rw [hu]; exact wrapS (by omega) (by omega)
        have e2 : u.tmod 2 = 0 := by rw [hu, Int.tmod_eq_emod_of_nonneg (by omega)]; exact hs
        have e3 : IntKind.i64.wrap 0 = 0 := by decide
        clear hs hu hxy hrk hA x0 x1 y0 y1 hab
        go_wp2_with fail
        go_quiet (fail)
        go_wp2_with fail
        go_roundw
        case rel => exact ⟨m + 1, by omega, rfl, by go_num, Lib.hid (below_drewN HB.out _)⟩
        case measure => simp [intOf]; omega
      · have hmi : (rs8.length : Int) ≤ m := by omega
        go_wp2_with fail
        go_meet
        case rel => exact ⟨rfl, HB.out⟩
  case rest =>
  as_aux_lemma =>
  clear HB hb3 b3
  obtain ⟨rfl, hK⟩ := hcut
  have HB := Lib.hid hK
  clear hK HR7 HR8 HD7 HD8 HT HM2
  by_cases h1 : pc = 0
  rotate_left
  · have h3 : (pc != 0) = true := by rw [bne_iff_ne]; exact h1
    go_wp2_with fail
    go_ret
    exact ⟨rfl, HBW.out _ HB.out⟩
  subst h1
  obtain ⟨hM20, hx1, hx5, hxb, hin, l0, l1, hge, hpre, top, htop, t0, t1, hfin, f0, f1⟩ := bf_walk HM.out.symm
  have HIN := Lib.hid hin
  have HXB := Lib.hid hxb
  have HGE := Lib.hid hge
  have HPRE := Lib.hid hpre
  have HTOP := Lib.hid htop
  have HFIN := Lib.hid (And.intro hfin (And.intro f0 f1))
  clear hin hxb hge hpre htop hfin f0 f1
  go_wp2_with fail
  go_loopw [2, 34, 35] (fun z s i wr => ∃ (j : Nat) (S : Int), j ≤ M.length ∧ z = .bool false ∧ s = .int .i64 S ∧ i = .int .i64 j ∧ Hid (S = sm ((M.map fun x => x / 50).take j)) ∧ Hid (Below w13.heap.size w13 wr)) (fun _ _ i _ => M.length - (intOf i).toNat)
  case atStart => exact ⟨0, 0, by omega, rfl, rfl, rfl, Lib.hid rfl, HB⟩
  case round =>
    clear HB
    obtain ⟨j, S, hj, rfl, rfl, rfl, HS, HB⟩ := hrel
    obtain ⟨wu, rfl⟩ : ∃ wu : World, wu = wr := ⟨_, rfl⟩
    by_cases hlt : j < M.length
    · have hji : (j : Int) < M.length := by omega
      go_wp2_with fail
      go_loopw [36, 37] (fun b i wr => ∃ (k : Nat), k ≤ xs.length ∧ i = .int .i64 k ∧ b = .bool ((xs.take k).any fun x => x == M[j]) ∧ Hid (Below w13.heap.size w13 wr)) (fun _ i _ => xs.length - (intOf i).toNat)
      case atStart => exact ⟨0, by omega, rfl, rfl, HB⟩
      case round =>
        clear HB
        obtain ⟨k, hk, rfl, rfl, HB⟩ := hrel
        by_cases hlt2 : k < xs.length
        · have hki : (k : Int) < xs.length := by omega
          obtain ⟨ax, rfl, _, hcx⟩ := (HXS.out wr HB.out).int hlt2
          obtain ⟨am, rfl, _, hcm⟩ := (HM3.out wr HB.out).int hlt
          have HST : Hid (((xs.take (k + 1)).any fun x => x == M[j]) = (((xs.take k).any fun x => x == M[j]) || (xs[k] == M[j]))) := Lib.hid (by rw [List.take_succ_eq_append_getElem hlt2, List.any_append]; simp)
          generalize ((xs.take k).any fun x => x == M[j]) = bk at *
          obtain ⟨b2, hb2⟩ : ∃ b, b = (xs[k] == M[j]) := ⟨_, rfl⟩
          rw [← hb2] at HST
          generalize xs[k] = xk at *
          obtain ⟨mj, hmj⟩ : ∃ m, m = M[j] := ⟨_, rfl⟩
          rw [← hmj] at hcm hb2
          have hb3 : (xk == mj) = b2 := hb2.symm
          clear hb2 hmj
          cases bk
          · go_wp2_with fail
            go_quiet (fail)
            go_wp2_with fail
            go_roundw
            case rel => exact ⟨k + 1, by omega, by go_num, by rw [HST.out]; simp [hb3], Lib.hid (below_drewN HB.out _)⟩
            case measure => simp [intOf]; omega
          · go_wp2_with fail
            go_quiet (fail)
            go_wp2_with fail
            go_roundw
            case rel => exact ⟨k + 1, by omega, by go_num, by rw [HST.out]; simp, Lib.hid (below_drewN HB.out _)⟩
            case measure => simp [intOf]; omega
        · have hki : (xs.length : Int) ≤ k := by omega
          have hkn : ((xs.take k).any fun x => x == M[j]) = true := by
            rw [List.take_of_length_le (by omega), List.any_eq_true]
            exact ⟨M[j], HIN.out _ (List.getElem_mem hlt), by simp⟩
          rw [hkn]
          obtain ⟨am, rfl, _, hcm⟩ := (HM3.out wr HB.out).int hlt
          have hmb := HXB.out _ (HIN.out _ (List.getElem_mem hlt))
          have hpr := HPRE.out (j + 1)
          rw [sm_succ _ (by simpa using hlt), ← HS.out, List.getElem_map] at hpr
          have hp0 := HPRE.out j
          rw [← HS.out] at hp0
          have HS2 : Hid (S + M[j] / 50 = sm ((M.map fun x => x / 50).take (j + 1))) := Lib.hid (by rw [sm_succ _ (by simpa using hlt), ← HS.out, List.getElem_map])
          clear hkn
          generalize M[j] = mj at *
          have e1 : mj.tdiv 50 = mj / 50 := Int.tdiv_eq_ediv_of_nonneg (by omega)
          obtain ⟨v, hv⟩ : ∃ v, v = mj / 50 := ⟨_, rfl⟩
          rw [← hv] at e1 hpr HS2
          have v0 : 0 ≤ v ∧ v ≤ 60 := by omega
          clear hv hmb
          go_wp2_with fail
          go_roundw
          case rel => exact ⟨j + 1, S + v, by omega, rfl, rfl, by go_num, HS2, HB⟩
          case measure => simp [intOf]; omega
    · have hji : (M.length : Int) ≤ j := by omega
      have hSE : S = sm (M.map fun x => x / 50) := by rw [HS.out, List.take_of_length_le (by simpa using (by omega))]
      have hge := HGE.out
      have hp0 := HPRE.out j
      rw [← HS.out] at hp0
      rw [← hSE] at hge
      obtain ⟨hfin, f0, f1⟩ := HFIN.out
      have hl1 : xs.length - 1 < xs.length := by omega
      obtain ⟨ax, rfl, _, hcx⟩ := (HXS.out wu HB.out).int hl1
      have hlast : xs.getD (xs.length - 1) 0 = xs[xs.length - 1] := getD_lt _ _ hl1
      have htp := HTOP.out
      rw [hlast] at htp
      have hxl := HXB.out _ (List.getElem_mem hl1)
      generalize xs[xs.length - 1] = xl at *
      have e1 : xl.tdiv 50 = top := by rw [Int.tdiv_eq_ediv_of_nonneg (by omega)]; exact htp.symm
      have e2 : ((xs.length : Int) - 1).toNat = xs.length - 1 := by omega
      have e3 : (0 : Int) ≤ (xs.length : Int) - 1 := by omega
      have e4 : (xs.length : Int) - 1 < xs.length := by omega
      obtain ⟨p, hp⟩ : ∃ p, p = ((M.length : Int) - 1) * top := ⟨_, rfl⟩
      rw [← hp] at hfin f0 f1
      have e5 : IntKind.i64.wrap (((M.length : Int) - 1) * top) = p := by rw [← hp]; exact wrapS (by omega) (by omega)
      have hge2 : len ≤ 50 * S := hge
      clear hSE hge htp hlast hxl hp
      go_wp2_with fail
      go_ret
      exact ⟨by first | rfl | (simp; done) | (simp; omega), HBW.out _ HB.out⟩
end Go.Proofs.Ytamhkiakplmlmaa
