/-
  Scaffolds: BoardsFor.
-/
import Derived.Test.YtamhkiakplmlmaaScaf
import Derived.Test.YtamhkiakplmlmaaSteps
namespace Go.Proofs.Ytamhkiakplmlmaa
open Go.ChangeShapes Go.WideShapes Go.RowKit

/-- the greatest of some numbers, of which there is one -/
def mxL (xs : List Int) (k : Nat) : Int := (xs.take k).foldl max (xs.getD 0 0)
theorem mxL_succ (xs : List Int) {k : Nat} (h : k < xs.length) : mxL xs (k + 1) = max (mxL xs k) xs[k] := by
  unfold mxL
  rw [List.take_succ_eq_append_getElem h, List.foldl_append]
  rfl
theorem foldl_max_le {l : List Int} {a M : Int} : l.foldl max a ≤ M ↔ a ≤ M ∧ ∀ x ∈ l, x ≤ M := by
  induction l generalizing a with
  | nil => simp
  | cons b l ih =>
    rw [List.foldl_cons, ih]
    constructor
    · rintro ⟨h1, h2⟩
      refine ⟨by omega, fun x hx => ?_⟩
      rcases List.mem_cons.1 hx with rfl | hx
      · omega
      · exact h2 x hx
    · rintro ⟨h1, h2⟩
      refine ⟨?_, fun x hx => h2 x (List.mem_cons_of_mem _ hx)⟩
      have := h2 b (List.mem_cons_self ..)
      omega
theorem mxL_le {xs : List Int} (h : 0 < xs.length) (M : Int) : mxL xs xs.length ≤ M ↔ ∀ x ∈ xs, x ≤ M := by
  unfold mxL
  rw [List.take_of_length_le (Nat.le_refl _), foldl_max_le]
  constructor
  · exact fun h => h.2
  · intro h2
    refine ⟨?_, h2⟩
    rw [getD_lt xs 0 h]
    exact h2 _ (List.getElem_mem h)
theorem mxL_one {xs : List Int} (h : 0 < xs.length) : mxL xs 1 = xs[0] := by
  rw [mxL_succ xs h]
  unfold mxL
  rw [getD_lt xs 0 h]
  simp
theorem slicesMax_any (A : Option Addr) (c : Nat) (xs : List Int) (B : Nat) (w : World) (hr : Rd LI w B A c xs) (hn : 0 < xs.length) :
    Calls Try.prog 35 #[.slice A xs.length c] w fun e w' => e = .returned (.int .i64 (mxL xs xs.length)) ∧ Dr w w' := by
  have hlen := hr.len63
  obtain ⟨ad, rfl, _, h0⟩ := hr.int hn
  have H1 := Lib.hid (mxL_one hn)
  have hn1 : (1 : Int) ≤ xs.length := by omega
  have hz : (0 : Int) < xs.length := by omega
  have h0' : w.cell? ad = some (.int .i64 xs[0]) := by
    have : ad.add 0 = ad := by unfold Addr.add; simp
    rw [this] at h0
    exact h0
  clear h0
  rw [← H1.out] at h0'
  go_enter Try.func35, Try.ntmps35
  go_wp2_with fail
  go_loopw [3, 4] (fun m i wr => ∃ k : Nat, 1 ≤ k ∧ k ≤ xs.length ∧ i = .int .i64 k ∧ m = .int .i64 (mxL xs k) ∧ Dr w wr) (fun _ i _ => xs.length - (intOf i).toNat)
  case atStart => exact ⟨1, by omega, by omega, rfl, rfl, Dr.refl _⟩
  case round =>
    obtain ⟨k, hk1, hk, rfl, rfl, hdr⟩ := hrel
    by_cases hlt : k < xs.length
    · obtain ⟨ad', e, _, hc⟩ := (hr.below hdr.below).int hlt
      cases e
      have hk0 : (k : Int) < xs.length := by omega
      have HS : Hid (mxL xs (k + 1) = if mxL xs k < xs[k] then xs[k] else mxL xs k) := Lib.hid (by rw [mxL_succ xs hlt]; split <;> omega)
      generalize xs[k] = x at *
      generalize mxL xs k = m at *
      by_cases hmx : m < x
      · have HE : Hid (mxL xs (k + 1) = x) := Lib.hid (by rw [HS.out, if_pos hmx])
        go_wp2_with fail
        go_roundw
        case rel => exact ⟨k + 1, by omega, by omega, by go_num, by rw [HE.out], hdr⟩
        case measure => simp [intOf]; omega
      · have HE : Hid (mxL xs (k + 1) = m) := Lib.hid (by rw [HS.out, if_neg hmx])
        have hmx' : x ≤ m := by omega
        go_wp2_with fail
        go_roundw
        case rel => exact ⟨k + 1, by omega, by omega, by go_num, by rw [HE.out], hdr⟩
        case measure => simp [intOf]; omega
    · have hkk : k = xs.length := by omega
      subst hkk
      go_wp2_with fail
      go_ret
      exact ⟨rfl, hdr⟩
def boS (board : Int) (st : Int × Int) (x : Int) : Int × Int := if st.2 < x then (st.1 + 1, board - x) else (st.1, st.2 - x)
def boF (board : Int) (xs : List Int) (k : Nat) : Int × Int := (xs.take k).foldl (boS board) (0, 0)
theorem boF_succ (board : Int) (xs : List Int) {k : Nat} (h : k < xs.length) : boF board xs (k + 1) = boS board (boF board xs k) xs[k] := by
  unfold boF
  rw [List.take_succ_eq_append_getElem h, List.foldl_append]
  rfl
theorem boF_bd (board : Int) (xs : List Int) (h0 : 500 ≤ board ∧ board ≤ 6000) (h : ∀ x ∈ xs, 500 ≤ x ∧ x ≤ 3000) (k : Nat) (hk : k ≤ xs.length) : 0 ≤ (boF board xs k).1 ∧ (boF board xs k).1 ≤ k ∧ -3000 ≤ (boF board xs k).2 ∧ (boF board xs k).2 ≤ 6000 := by
  induction k with
  | zero => simp [boF]
  | succ k ih =>
    have ih' := ih (by omega)
    have hx := h _ (List.getElem_mem (show k < xs.length by omega))
    rw [boF_succ board xs (by omega)]
    unfold boS
    split <;> simp only <;> omega
def boP (b t : List Int) (n board wide : Int) : Int × Int := if vsB b t n = true then (if inB board 500 6000 = true ∧ inB wide 1 8 = true then (if mxL b b.length ≤ board then ((boF board b b.length).1 * wide, 0) else (0, 6)) else (0, 2)) else (0, 1)

set_option maxHeartbeats 1600000 in
theorem implBoardsFor_any (A0b : Option Addr) (c0b : Nat) (x0b : List Int) (A0t : Option Addr) (c0t : Nat) (x0t : List Int) (n0 : Int) (board wide : Int) (w : World) (hb : Rd LI w w.heap.size A0b c0b x0b) (ht : Rd LI w w.heap.size A0t c0t x0t) :
    Calls Try.prog 16 #[.agg #[.slice A0b x0b.length c0b, .slice A0t x0t.length c0t, .int .i64 n0], .int .i64 board, .int .i64 wide] w fun e w' => e = .returned (.tuple #[.int .i64 (boP x0b x0t n0 board wide).1, .int .i64 (boP x0b x0t n0 board wide).2]) ∧ Below w.heap.size w w' := by
  cases hv : vsB x0b x0t n0
  · have HP : Hid (boP x0b x0t n0 board wide = (0, 1)) := Lib.hid (by unfold boP; rw [hv]; rfl)
    rw [HP.out]
    have hc := implValidScaffold_any A0b c0b x0b A0t c0t x0t n0 (w.alloc (.cells #[.slice A0b x0b.length c0b, .slice A0t x0t.length c0t, .int .i64 n0] 30)) (hb.al _) (ht.al _)
    rw [hv] at hc
    have hl1 := hb.len63
    have hl2 := ht.len63
    go_enter Try.func16, Try.ntmps16
    go_wp2_with fail
    refine hc.mono ?_
    rintro e w1 ⟨rfl, hb1⟩
    have hbw : Below w.heap.size w w1 := ((Below.refl _ w).alloc (Nat.le_refl _) _).trans (hb1.mono (by simp))
    have hs1 := hb1.size
    simp at hs1
    have kl : w.heap.size < w1.heap.size := by omega
    have q0 : w1.cell? ⟨w.heap.size, 0, none⟩ = some (.slice A0b x0b.length c0b) := by rw [hb1.cell (by simp)]; go_simp
    have q1 : w1.cell? ⟨w.heap.size, 1, none⟩ = some (.slice A0t x0t.length c0t) := by rw [hb1.cell (by simp)]; go_simp
    have q2 : w1.cell? ⟨w.heap.size, 2, none⟩ = some (.int .i64 n0) := by rw [hb1.cell (by simp)]; go_simp
    have hbr := (hb.below hbw).more hbw.size
    have htr := (ht.below hbw).more hbw.size
    clear hc
    go_wp2_with fail
    go_ret2
    exact ⟨rfl, hbw⟩
  · obtain ⟨⟨hm0, hm1⟩, hel, _⟩ := vsB_parts hv
    cases hi : inB board 500 6000
    · have HP : Hid (boP x0b x0t n0 board wide = (0, 2)) := Lib.hid (by unfold boP; rw [hv, hi]; rfl)
      rw [HP.out]
      have hc := implValidScaffold_any A0b c0b x0b A0t c0t x0t n0 (w.alloc (.cells #[.slice A0b x0b.length c0b, .slice A0t x0t.length c0t, .int .i64 n0] 30)) (hb.al _) (ht.al _)
      rw [hv] at hc
      have hl1 := hb.len63
      have hl2 := ht.len63
      go_enter Try.func16, Try.ntmps16
      go_wp2_with fail
      refine hc.mono ?_
      rintro e w1 ⟨rfl, hb1⟩
      have hbw : Below w.heap.size w w1 := ((Below.refl _ w).alloc (Nat.le_refl _) _).trans (hb1.mono (by simp))
      have hs1 := hb1.size
      simp at hs1
      have kl : w.heap.size < w1.heap.size := by omega
      have q0 : w1.cell? ⟨w.heap.size, 0, none⟩ = some (.slice A0b x0b.length c0b) := by rw [hb1.cell (by simp)]; go_simp
      have q1 : w1.cell? ⟨w.heap.size, 1, none⟩ = some (.slice A0t x0t.length c0t) := by rw [hb1.cell (by simp)]; go_simp
      have q2 : w1.cell? ⟨w.heap.size, 2, none⟩ = some (.int .i64 n0) := by rw [hb1.cell (by simp)]; go_simp
      have hbr := (hb.below hbw).more hbw.size
      have htr := (ht.below hbw).more hbw.size
      clear hc
      go_wp2_with fail
      refine (within_any _ _ _ _).mono ?_
      rintro e w' ⟨rfl, rfl⟩
      go_wp2_with (go_at_call 24; refine (within_any _ _ _ _).mono ?_; rintro e w' ⟨rfl, rfl⟩)
      go_ret2
      exact ⟨rfl, hbw⟩
    · obtain ⟨b0, b1⟩ := inB_yes hi
      cases hj : inB wide 1 8
      · have HP : Hid (boP x0b x0t n0 board wide = (0, 2)) := Lib.hid (by unfold boP; rw [hv, hi, hj]; rfl)
        rw [HP.out]
        have hc := implValidScaffold_any A0b c0b x0b A0t c0t x0t n0 (w.alloc (.cells #[.slice A0b x0b.length c0b, .slice A0t x0t.length c0t, .int .i64 n0] 30)) (hb.al _) (ht.al _)
        rw [hv] at hc
        have hl1 := hb.len63
        have hl2 := ht.len63
        go_enter Try.func16, Try.ntmps16
        go_wp2_with fail
        refine hc.mono ?_
        rintro e w1 ⟨rfl, hb1⟩
        have hbw : Below w.heap.size w w1 := ((Below.refl _ w).alloc (Nat.le_refl _) _).trans (hb1.mono (by simp))
        have hs1 := hb1.size
        simp at hs1
        have kl : w.heap.size < w1.heap.size := by omega
        have q0 : w1.cell? ⟨w.heap.size, 0, none⟩ = some (.slice A0b x0b.length c0b) := by rw [hb1.cell (by simp)]; go_simp
        have q1 : w1.cell? ⟨w.heap.size, 1, none⟩ = some (.slice A0t x0t.length c0t) := by rw [hb1.cell (by simp)]; go_simp
        have q2 : w1.cell? ⟨w.heap.size, 2, none⟩ = some (.int .i64 n0) := by rw [hb1.cell (by simp)]; go_simp
        have hbr := (hb.below hbw).more hbw.size
        have htr := (ht.below hbw).more hbw.size
        clear hc
        go_wp2_with fail
        refine (within_any _ _ _ _).mono ?_
        rintro e w' ⟨rfl, rfl⟩
        go_wp2_with (go_at_call 24; refine (within_any _ _ _ _).mono ?_; rintro e w' ⟨rfl, rfl⟩)
        go_ret2
        exact ⟨rfl, hbw⟩
      · obtain ⟨wd0, wd1⟩ := inB_yes hj
        by_cases hmx : mxL x0b x0b.length ≤ board
        · have HP : Hid (boP x0b x0t n0 board wide = ((boF board x0b x0b.length).1 * wide, 0)) := Lib.hid (by unfold boP; rw [hv, hi, hj, if_pos rfl, if_pos ⟨rfl, rfl⟩, if_pos hmx])
          rw [HP.out]
          have HEL := Lib.hid hel
          have HQ := Lib.hid fun k hk => boF_bd board x0b ⟨b0, b1⟩ hel k hk
          clear hel
          have hc := implValidScaffold_any A0b c0b x0b A0t c0t x0t n0 (w.alloc (.cells #[.slice A0b x0b.length c0b, .slice A0t x0t.length c0t, .int .i64 n0] 30)) (hb.al _) (ht.al _)
          rw [hv] at hc
          have hl1 := hb.len63
          have hl2 := ht.len63
          go_enter Try.func16, Try.ntmps16
          go_wp2_with fail
          refine hc.mono ?_
          rintro e w1 ⟨rfl, hb1⟩
          have hbw : Below w.heap.size w w1 := ((Below.refl _ w).alloc (Nat.le_refl _) _).trans (hb1.mono (by simp))
          have hs1 := hb1.size
          simp at hs1
          have kl : w.heap.size < w1.heap.size := by omega
          have q0 : w1.cell? ⟨w.heap.size, 0, none⟩ = some (.slice A0b x0b.length c0b) := by rw [hb1.cell (by simp)]; go_simp
          have q1 : w1.cell? ⟨w.heap.size, 1, none⟩ = some (.slice A0t x0t.length c0t) := by rw [hb1.cell (by simp)]; go_simp
          have q2 : w1.cell? ⟨w.heap.size, 2, none⟩ = some (.int .i64 n0) := by rw [hb1.cell (by simp)]; go_simp
          have hbr := (hb.below hbw).more hbw.size
          have htr := (ht.below hbw).more hbw.size
          clear hc
          go_wp2_with fail
          refine (within_any _ _ _ _).mono ?_
          rintro e w' ⟨rfl, rfl⟩
          go_wp2_with (go_at_call 24; refine (within_any _ _ _ _).mono ?_; rintro e w' ⟨rfl, rfl⟩)
          refine (slicesMax_any A0b c0b x0b _ _ hbr (by omega)).mono ?_
          rintro e w2 ⟨rfl, hdr⟩
          have f0 : w2.cell? ⟨w.heap.size, 0, none⟩ = some (.slice A0b x0b.length c0b) := by obtain ⟨m, rfl⟩ := hdr; simpa using q0
          have hbz := hbw.trans (hdr.below (B := w.heap.size))
          have hbr2 : Rd LI w2 w.heap.size A0b c0b x0b := hb.below hbz
          generalize mxL x0b x0b.length = mx at *
          clear hdr q0 q1 q2 hs1 kl hbr htr hbw
          go_wp2_with fail
          go_loop [8, 9, 11, 34] (fun n l _ i => ∃ k : Nat, k ≤ x0b.length ∧ i = .int .i64 k ∧ n = .int .i64 (boF board x0b k).1 ∧ l = .int .i64 (boF board x0b k).2) (fun _ _ _ i => x0b.length - (intOf i).toNat)
          case atStart => exact ⟨0, by omega, rfl, rfl, rfl⟩
          case round =>
            obtain ⟨k, hk, rfl, rfl, rfl⟩ := hrel
            obtain ⟨q1, q2, q3, q4⟩ := HQ.out k hk
            by_cases hlt : k < x0b.length
            · obtain ⟨ad, rfl, _, hc⟩ := hbr2.int hlt
              obtain ⟨x1, x2⟩ := HEL.out _ (List.getElem_mem hlt)
              have HS : Hid (boF board x0b (k + 1) = if (boF board x0b k).2 < x0b[k] then ((boF board x0b k).1 + 1, board - x0b[k]) else ((boF board x0b k).1, (boF board x0b k).2 - x0b[k])) := Lib.hid (boF_succ board x0b hlt)
              generalize x0b[k] = x at *
              generalize boF board x0b k = st at *
              obtain ⟨n, l⟩ := st
              simp only at q1 q2 q3 q4
              by_cases hx : l < x
              · have HE : Hid (boF board x0b (k + 1) = (n + 1, board - x)) := Lib.hid (by rw [HS.out, if_pos hx])
                go_wp2_with fail
                go_round
                case rel => exact ⟨k + 1, by omega, by go_num, by rw [HE.out], by rw [HE.out]⟩
                case measure => simp [intOf]; omega
              · have HE : Hid (boF board x0b (k + 1) = (n, l - x)) := Lib.hid (by rw [HS.out, if_neg hx])
                have hx' : x ≤ l := by omega
                go_wp2_with fail
                go_round
                case rel => exact ⟨k + 1, by omega, by go_num, by rw [HE.out], by rw [HE.out]⟩
                case measure => simp [intOf]; omega
            · have hkk : k = x0b.length := by omega
              subst hkk
              have hpr : 0 ≤ (boF board x0b x0b.length).1 * wide ∧ (boF board x0b x0b.length).1 * wide ≤ 160 := ⟨Int.mul_nonneg q1 (by omega), by have := Int.mul_le_mul (show (boF board x0b x0b.length).1 ≤ 20 by omega) wd1 (by omega) (by omega : (0 : Int) ≤ 20); omega⟩
              have hwr : IntKind.i64.wrap ((boF board x0b x0b.length).1 * wide) = (boF board x0b x0b.length).1 * wide := wrapS (by omega) (by omega)
              go_wp2_with fail
              go_ret2
              exact ⟨rfl, hbz⟩
        · have HP : Hid (boP x0b x0t n0 board wide = (0, 6)) := Lib.hid (by unfold boP; rw [hv, hi, hj, if_pos rfl, if_pos ⟨rfl, rfl⟩, if_neg hmx])
          rw [HP.out]
          have hmx' : board < mxL x0b x0b.length := by omega
          clear hmx
          have hc := implValidScaffold_any A0b c0b x0b A0t c0t x0t n0 (w.alloc (.cells #[.slice A0b x0b.length c0b, .slice A0t x0t.length c0t, .int .i64 n0] 30)) (hb.al _) (ht.al _)
          rw [hv] at hc
          have hl1 := hb.len63
          have hl2 := ht.len63
          go_enter Try.func16, Try.ntmps16
          go_wp2_with fail
          refine hc.mono ?_
          rintro e w1 ⟨rfl, hb1⟩
          have hbw : Below w.heap.size w w1 := ((Below.refl _ w).alloc (Nat.le_refl _) _).trans (hb1.mono (by simp))
          have hs1 := hb1.size
          simp at hs1
          have kl : w.heap.size < w1.heap.size := by omega
          have q0 : w1.cell? ⟨w.heap.size, 0, none⟩ = some (.slice A0b x0b.length c0b) := by rw [hb1.cell (by simp)]; go_simp
          have q1 : w1.cell? ⟨w.heap.size, 1, none⟩ = some (.slice A0t x0t.length c0t) := by rw [hb1.cell (by simp)]; go_simp
          have q2 : w1.cell? ⟨w.heap.size, 2, none⟩ = some (.int .i64 n0) := by rw [hb1.cell (by simp)]; go_simp
          have hbr := (hb.below hbw).more hbw.size
          have htr := (ht.below hbw).more hbw.size
          clear hc
          go_wp2_with fail
          refine (within_any _ _ _ _).mono ?_
          rintro e w' ⟨rfl, rfl⟩
          go_wp2_with (go_at_call 24; refine (within_any _ _ _ _).mono ?_; rintro e w' ⟨rfl, rfl⟩)
          refine (slicesMax_any A0b c0b x0b _ _ hbr (by omega)).mono ?_
          rintro e w2 ⟨rfl, hdr⟩
          have hbz := hbw.trans (hdr.below (B := w.heap.size))
          generalize mxL x0b x0b.length = mx at *
          go_wp2_with fail
          go_ret2
          exact ⟨rfl, hbz⟩

theorem mx_hit {xs : List Int} {k : Nat} {M : Int} (h : k < xs.length) (hx : M < xs[k]) : M < mxL xs xs.length := by
  have := (mxL_le (xs := xs) (by omega) (mxL xs xs.length)).1 (Int.le_refl _) _ (List.getElem_mem h)
  omega
theorem mx_all {xs : List Int} {M : Int} (h0 : 0 < xs.length) (h : ∀ j (hj : j < xs.length), xs[j] ≤ M) : mxL xs xs.length ≤ M := (mxL_le h0 M).2 fun x hx => by
  obtain ⟨j, hj, rfl⟩ := List.getElem_of_mem hx
  exact h j hj
set_option maxHeartbeats 1600000 in
theorem specBoardsFor_any (A0b : Option Addr) (c0b : Nat) (x0b : List Int) (A0t : Option Addr) (c0t : Nat) (x0t : List Int) (n0 : Int) (board wide : Int) (w : World) (hb : Rd LI w w.heap.size A0b c0b x0b) (ht : Rd LI w w.heap.size A0t c0t x0t) :
    Calls Try.prog 17 #[.agg #[.slice A0b x0b.length c0b, .slice A0t x0t.length c0t, .int .i64 n0], .int .i64 board, .int .i64 wide] w fun e w' => e = .returned (.tuple #[.int .i64 (boP x0b x0t n0 board wide).1, .int .i64 (boP x0b x0t n0 board wide).2]) ∧ Below w.heap.size w w' := by
  cases hv : vsB x0b x0t n0
  · have HP : Hid (boP x0b x0t n0 board wide = (0, 1)) := Lib.hid (by unfold boP; rw [hv]; rfl)
    rw [HP.out]
    have hc := l22Ok_any A0b c0b x0b A0t c0t x0t n0 w.heap.size (w.alloc (.cells #[.slice A0b x0b.length c0b, .slice A0t x0t.length c0t, .int .i64 n0] 30)) (hb.al _) (ht.al _) (by go_simp) (by go_simp) (by go_simp)
    rw [hv] at hc
    have hl1 := hb.len63
    have hl2 := ht.len63
    have hbw : Below w.heap.size w (w.alloc (.cells #[.slice A0b x0b.length c0b, .slice A0t x0t.length c0t, .int .i64 n0] 30)) := (Below.refl _ w).alloc (Nat.le_refl _) _
    have hbr : Rd LI (w.alloc (.cells #[.slice A0b x0b.length c0b, .slice A0t x0t.length c0t, .int .i64 n0] 30)) (w.alloc (.cells #[.slice A0b x0b.length c0b, .slice A0t x0t.length c0t, .int .i64 n0] 30)).heap.size A0b c0b x0b := hb.al _
    have htr : Rd LI (w.alloc (.cells #[.slice A0b x0b.length c0b, .slice A0t x0t.length c0t, .int .i64 n0] 30)) (w.alloc (.cells #[.slice A0b x0b.length c0b, .slice A0t x0t.length c0t, .int .i64 n0] 30)).heap.size A0t c0t x0t := ht.al _
    go_enter Try.func17, Try.ntmps17
    go_wp2_with fail
    refine hc.mono ?_
    rintro e w1 ⟨rfl, rfl⟩
    clear hc
    go_wp2_with fail
    go_ret2
    exact ⟨rfl, hbw⟩
  · obtain ⟨⟨hm0, hm1⟩, hel, _⟩ := vsB_parts hv
    cases hi : inB board 500 6000
    · have HP : Hid (boP x0b x0t n0 board wide = (0, 2)) := Lib.hid (by unfold boP; rw [hv, hi]; rfl)
      rw [HP.out]
      have hc := l22Ok_any A0b c0b x0b A0t c0t x0t n0 w.heap.size (w.alloc (.cells #[.slice A0b x0b.length c0b, .slice A0t x0t.length c0t, .int .i64 n0] 30)) (hb.al _) (ht.al _) (by go_simp) (by go_simp) (by go_simp)
      rw [hv] at hc
      have hl1 := hb.len63
      have hl2 := ht.len63
      have hbw : Below w.heap.size w (w.alloc (.cells #[.slice A0b x0b.length c0b, .slice A0t x0t.length c0t, .int .i64 n0] 30)) := (Below.refl _ w).alloc (Nat.le_refl _) _
      have hbr : Rd LI (w.alloc (.cells #[.slice A0b x0b.length c0b, .slice A0t x0t.length c0t, .int .i64 n0] 30)) (w.alloc (.cells #[.slice A0b x0b.length c0b, .slice A0t x0t.length c0t, .int .i64 n0] 30)).heap.size A0b c0b x0b := hb.al _
      have htr : Rd LI (w.alloc (.cells #[.slice A0b x0b.length c0b, .slice A0t x0t.length c0t, .int .i64 n0] 30)) (w.alloc (.cells #[.slice A0b x0b.length c0b, .slice A0t x0t.length c0t, .int .i64 n0] 30)).heap.size A0t c0t x0t := ht.al _
      go_enter Try.func17, Try.ntmps17
      go_wp2_with fail
      refine hc.mono ?_
      rintro e w1 ⟨rfl, rfl⟩
      clear hc
      go_wp2_with fail
      refine (l00In_any _ _ _ _).mono ?_
      rintro e w' ⟨rfl, rfl⟩
      go_wp2_with (go_at_call 27; refine (l00In_any _ _ _ _).mono ?_; rintro e w' ⟨rfl, rfl⟩)
      go_ret2
      exact ⟨rfl, hbw⟩
    · obtain ⟨b0, b1⟩ := inB_yes hi
      cases hj : inB wide 1 8
      · have HP : Hid (boP x0b x0t n0 board wide = (0, 2)) := Lib.hid (by unfold boP; rw [hv, hi, hj]; rfl)
        rw [HP.out]
        have hc := l22Ok_any A0b c0b x0b A0t c0t x0t n0 w.heap.size (w.alloc (.cells #[.slice A0b x0b.length c0b, .slice A0t x0t.length c0t, .int .i64 n0] 30)) (hb.al _) (ht.al _) (by go_simp) (by go_simp) (by go_simp)
        rw [hv] at hc
        have hl1 := hb.len63
        have hl2 := ht.len63
        have hbw : Below w.heap.size w (w.alloc (.cells #[.slice A0b x0b.length c0b, .slice A0t x0t.length c0t, .int .i64 n0] 30)) := (Below.refl _ w).alloc (Nat.le_refl _) _
        have hbr : Rd LI (w.alloc (.cells #[.slice A0b x0b.length c0b, .slice A0t x0t.length c0t, .int .i64 n0] 30)) (w.alloc (.cells #[.slice A0b x0b.length c0b, .slice A0t x0t.length c0t, .int .i64 n0] 30)).heap.size A0b c0b x0b := hb.al _
        have htr : Rd LI (w.alloc (.cells #[.slice A0b x0b.length c0b, .slice A0t x0t.length c0t, .int .i64 n0] 30)) (w.alloc (.cells #[.slice A0b x0b.length c0b, .slice A0t x0t.length c0t, .int .i64 n0] 30)).heap.size A0t c0t x0t := ht.al _
        go_enter Try.func17, Try.ntmps17
        go_wp2_with fail
        refine hc.mono ?_
        rintro e w1 ⟨rfl, rfl⟩
        clear hc
        go_wp2_with fail
        refine (l00In_any _ _ _ _).mono ?_
        rintro e w' ⟨rfl, rfl⟩
        go_wp2_with (go_at_call 27; refine (l00In_any _ _ _ _).mono ?_; rintro e w' ⟨rfl, rfl⟩)
        go_ret2
        exact ⟨rfl, hbw⟩
      · obtain ⟨wd0, wd1⟩ := inB_yes hj
        have HY : Hid (mxL x0b x0b.length ≤ board → boP x0b x0t n0 board wide = ((boF board x0b x0b.length).1 * wide, 0)) := Lib.hid (fun hmx => by unfold boP; rw [hv, hi, hj, if_pos rfl, if_pos ⟨rfl, rfl⟩, if_pos hmx])
        have HN : Hid (board < mxL x0b x0b.length → boP x0b x0t n0 board wide = (0, 6)) := Lib.hid (fun hmx => by unfold boP; rw [hv, hi, hj, if_pos rfl, if_pos ⟨rfl, rfl⟩, if_neg (by omega)])
        have HEL := Lib.hid hel
        have HQ := Lib.hid fun k hk => boF_bd board x0b ⟨b0, b1⟩ hel k hk
        clear hel
        have hc := l22Ok_any A0b c0b x0b A0t c0t x0t n0 w.heap.size (w.alloc (.cells #[.slice A0b x0b.length c0b, .slice A0t x0t.length c0t, .int .i64 n0] 30)) (hb.al _) (ht.al _) (by go_simp) (by go_simp) (by go_simp)
        rw [hv] at hc
        have hl1 := hb.len63
        have hl2 := ht.len63
        have hbw : Below w.heap.size w (w.alloc (.cells #[.slice A0b x0b.length c0b, .slice A0t x0t.length c0t, .int .i64 n0] 30)) := (Below.refl _ w).alloc (Nat.le_refl _) _
        have hbr : Rd LI (w.alloc (.cells #[.slice A0b x0b.length c0b, .slice A0t x0t.length c0t, .int .i64 n0] 30)) (w.alloc (.cells #[.slice A0b x0b.length c0b, .slice A0t x0t.length c0t, .int .i64 n0] 30)).heap.size A0b c0b x0b := hb.al _
        have htr : Rd LI (w.alloc (.cells #[.slice A0b x0b.length c0b, .slice A0t x0t.length c0t, .int .i64 n0] 30)) (w.alloc (.cells #[.slice A0b x0b.length c0b, .slice A0t x0t.length c0t, .int .i64 n0] 30)).heap.size A0t c0t x0t := ht.al _
        go_enter Try.func17, Try.ntmps17
        go_wp2_with fail
        refine hc.mono ?_
        rintro e w1 ⟨rfl, rfl⟩
        clear hc
        go_wp2_with fail
        refine (l00In_any _ _ _ _).mono ?_
        rintro e w' ⟨rfl, rfl⟩
        go_wp2_with (go_at_call 27; refine (l00In_any _ _ _ _).mono ?_; rintro e w' ⟨rfl, rfl⟩)
        have q0 : (w.alloc (.cells #[.slice A0b x0b.length c0b, .slice A0t x0t.length c0t, .int .i64 n0] 30)).cell? ⟨w.heap.size, 0, none⟩ = some (.slice A0b x0b.length c0b) := by go_simp
        generalize w.alloc (.cells #[.slice A0b x0b.length c0b, .slice A0t x0t.length c0t, .int .i64 n0] 30) = w1 at *
        go_loop [8, 9, 10] (fun n l i => ∃ k : Nat, k ≤ x0b.length ∧ i = .int .i64 k ∧ n = .int .i64 (boF board x0b k).1 ∧ l = .int .i64 (boF board x0b k).2 ∧ Hid (∀ j (hj : j < x0b.length), j < k → x0b[j] ≤ board)) (fun _ _ i => x0b.length - (intOf i).toNat)
        case atStart => exact ⟨0, by omega, rfl, rfl, rfl, Lib.hid fun j _ h => by omega⟩
        case round =>
          obtain ⟨k, hk, rfl, rfl, rfl, Hno⟩ := hrel
          obtain ⟨q1, q2, q3, q4⟩ := HQ.out k hk
          by_cases hlt : k < x0b.length
          · obtain ⟨ad, rfl, _, hc⟩ := hbr.int hlt
            have hk0 : (k : Int) < x0b.length := by omega
            obtain ⟨x1, x2⟩ := HEL.out _ (List.getElem_mem hlt)
            have HS : Hid (boF board x0b (k + 1) = if (boF board x0b k).2 < x0b[k] then ((boF board x0b k).1 + 1, board - x0b[k]) else ((boF board x0b k).1, (boF board x0b k).2 - x0b[k])) := Lib.hid (boF_succ board x0b hlt)
            have HH := Lib.hid fun h => HN.out (mx_hit (M := board) hlt h)
            have HK : Hid (x0b[k] ≤ board → ∀ j (hj : j < x0b.length), j < k + 1 → x0b[j] ≤ board) := Lib.hid (fun h j hj hjk => by
              by_cases e : j = k
              · subst e; exact h
              · exact Hno.out j hj (by omega))
            generalize x0b[k] = x at *
            generalize boF board x0b k = st at *
            obtain ⟨n, l⟩ := st
            simp only at q1 q2 q3 q4
            by_cases hxb : board < x
            · have HE := Lib.hid (HH.out hxb)
              go_wp2_with fail
              go_ret2
              exact ⟨ret_ii (by rw [HE.out]) (by rw [HE.out]), hbw⟩
            · have hxb' : x ≤ board := by omega
              have HM := Lib.hid (HK.out hxb')
              by_cases hx : l < x
              · have HE : Hid (boF board x0b (k + 1) = (n + 1, board - x)) := Lib.hid (by rw [HS.out, if_pos hx])
                go_wp2_with fail
                go_round
                case rel => exact ⟨k + 1, by omega, by go_num, by rw [HE.out], by rw [HE.out], HM⟩
                case measure => simp [intOf]; omega
              · have HE : Hid (boF board x0b (k + 1) = (n, l - x)) := Lib.hid (by rw [HS.out, if_neg hx])
                have hx' : x ≤ l := by omega
                go_wp2_with fail
                go_round
                case rel => exact ⟨k + 1, by omega, by go_num, by rw [HE.out], by rw [HE.out], HM⟩
                case measure => simp [intOf]; omega
          · have hkk : k = x0b.length := by omega
            subst hkk
            have HE := Lib.hid (HY.out (mx_all (by omega) fun j hj => Hno.out j hj hj))
            have hpr : 0 ≤ (boF board x0b x0b.length).1 * wide ∧ (boF board x0b x0b.length).1 * wide ≤ 160 := ⟨Int.mul_nonneg q1 (by omega), by have := Int.mul_le_mul (show (boF board x0b x0b.length).1 ≤ 20 by omega) wd1 (by omega) (by omega : (0 : Int) ≤ 20); omega⟩
            have hwr : IntKind.i64.wrap ((boF board x0b x0b.length).1 * wide) = (boF board x0b x0b.length).1 * wide := wrapS (by omega) (by omega)
            go_wp2_with fail
            go_ret2
            exact ⟨ret_ii (by rw [HE.out]) (by rw [HE.out]), hbw⟩
end Go.Proofs.Ytamhkiakplmlmaa
