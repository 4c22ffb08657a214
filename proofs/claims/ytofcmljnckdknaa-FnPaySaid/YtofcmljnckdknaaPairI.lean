/-
  PairHands of the program: slices of int, the closures, the recursion over pairings.
-/
import Derived.Test.YtofcmljnckdknaaPairS
namespace Go.Proofs.Ytofcmljnckdknaa
open Go.ChangeShapes Go.WideShapes Go.RowKit

theorem rowN : TyRow Try.prog 88 3 (.int .i64 0) LI.sz 8 := ⟨Try.underlying88, by kernel_rfl⟩
theorem cloneN_any (A : Option Addr) (c : Nat) (xs : List Int) (B : Nat) (w : World) (hr : Rd LI w B A c xs) (hB : B ≤ w.heap.size) (hn : xs.length * 8 ≤ 140737488355328) :
    Calls Try.prog 86 #[.slice A xs.length c] w fun e w' => ∃ A' c', e = .returned (.slice A' xs.length c') ∧ Own LI 3 w' w.heap.size A' c' xs ∧ Below w.heap.size w w' := by
  have hlen := hr.len63
  cases A with
  | none =>
    obtain rfl := hr.none_len
    have hq := fun W : World => Lib.run_eql_slice_nil (P := Try.prog) W 88 3 none 0 c 0 0 Try.underlying88
    go_enter Try.func86, Try.ntmps86
    go_wp2_with fail
    go_ret
    exact ⟨none, 0, rfl, Own.none_, Below.refl _ _⟩
  | some ad =>
    have hfl := Lib.hid ((hr.alloc hB (.cells #[] 3)).flat ad rfl)
    have hq := fun W : World => Lib.run_eql_slice_nil (P := Try.prog) W 88 3 (some ad) xs.length c 0 0 Try.underlying88
    go_enter Try.func86, Try.ntmps86
    go_wp2_with (at_builtin; go_loud (refine wpL_app (L := LI) rowN rfl rfl _ _ rfl rfl (Own.lit0 w (Nat.le_refl _) rfl) (some ad) xs.length c xs rfl rfl (fun h => by cases h) (fun ad' e => by cases e; exact hfl.out) (by unfold maxLen; simp; omega) (by simp; omega) (by simp) ?_); intro A4 c4 w4 ho4 hg4)
    go_ret
    refine ⟨A4, c4, by simp, by simpa using ho4, Grew.below ((Below.refl _ w).alloc (Nat.le_refl _) _) hg4 (by simp) fun g hg => ?_⟩
    simp [blk] at hg
    omega
theorem any_contains (xs : List Int) (p : Int) : xs.any (fun x => x == p) = xs.contains p := by
  rw [Bool.eq_iff_iff]; simp
theorem take_noN {p : Int → Bool} {xs : List Int} {k : Nat} (hk : k < xs.length) (h : ∀ y ∈ xs.take k, p y = false) (hp : p xs[k] = false) : ∀ y ∈ xs.take (k + 1), p y = false := by
  rw [List.take_succ_eq_append_getElem hk]
  intro y hy
  rcases List.mem_append.1 hy with h2 | h2
  · exact h y h2
  · simp at h2; rw [h2]; exact hp
theorem indexN_any (A : Option Addr) (c : Nat) (xs : List Int) (p : Int) (B : Nat) (w : World) (hr : Rd LI w B A c xs) :
    Calls Try.prog 98 #[.slice A xs.length c, .int .i64 p] w fun e w' => e = .returned (.int .i64 (fIdx (fun x => x == p) xs)) ∧ Dr w w' := by
  have hlen := hr.len63
  go_enter Try.func98, Try.ntmps98
  go_wp2_with fail
  go_loopw [5, 8] (fun i j wr => ∃ k : Nat, k ≤ xs.length ∧ j = .int .i64 k ∧ Hid (∀ y ∈ xs.take k, (y == p) = false) ∧ Hid (Dr w wr)) (fun _ j _ => xs.length - (intOf j).toNat)
  case atStart => exact ⟨0, by omega, rfl, Lib.hid (by simp), Lib.hid (Dr.refl _)⟩
  case round =>
    obtain ⟨k, hk, rfl, HN, HD⟩ := hrel
    by_cases hlt : k < xs.length
    · obtain ⟨ad, rfl, _, hc⟩ := (hr.below HD.out.below).int hlt
      have hki : (k : Int) < xs.length := by omega
      cases hb : (xs[k] == p)
      · have hb2 : (p == xs[k]) = false := by rw [beq_eq_false_iff_ne] at hb ⊢; exact fun e => hb e.symm
        have HN2 := Lib.hid (take_noN (p := fun y => y == p) hlt HN.out hb)
        go_wp2_with fail
        try go_quiet (fail)
        try go_wp2_with fail
        go_roundw
        case rel => exact ⟨k + 1, by omega, by go_num, HN2, by first | exact HD | exact Lib.hid (HD.out.step _)⟩
        case measure => simp [intOf]; omega
      · have hb2 : (p == xs[k]) = true := by rw [beq_iff_eq] at hb ⊢; exact hb.symm
        have HR : Hid (fIdx (fun x => x == p) xs = k) := Lib.hid (fIdx_hit hlt HN.out hb)
        go_wp2_with fail
        try go_quiet (fail)
        try go_wp2_with fail
        go_ret
        exact ⟨ret_int HR.out.symm, by first | exact HD.out | exact HD.out.step _⟩
    · obtain rfl : k = xs.length := by omega
      have HR : Hid (fIdx (fun x => x == p) xs = -1) := Lib.hid (fIdx_none (by
        have := HN.out
        rw [List.take_of_length_le (Nat.le_refl _)] at this
        exact this))
      go_wp2_with fail
      go_ret
      exact ⟨ret_int HR.out.symm, HD.out⟩
theorem containsN_any (A : Option Addr) (c : Nat) (xs : List Int) (p : Int) (B : Nat) (w : World) (hr : Rd LI w B A c xs) :
    Calls Try.prog 85 #[.slice A xs.length c, .int .i64 p] w fun e w' => e = .returned (.bool (xs.contains p)) ∧ Dr w w' := by
  have hc := indexN_any A c xs p B w hr
  have HE := Lib.hid ((fIdx_any (fun x => x == p) xs).trans (any_contains xs p))
  generalize fIdx (fun x => x == p) xs = f at *
  go_enter Try.func85, Try.ntmps85
  go_wp2_with fail
  refine hc.mono ?_
  rintro e w1 ⟨rfl, hd⟩
  go_wp2_with fail
  go_ret
  exact ⟨ret_bool HE.out, hd⟩

/-- a function value that asks p of rows -/
def AskR (P : Program) (k : FuncId) (caps : Array Value) (B : Nat) (w : World) (rs : List (Row Int)) (p : List Int → Bool) : Prop :=
  (∀ args w, (callFunc k args).run P w = .ok (.enter k args) w) ∧
  ∀ r ∈ rs, ∀ w', Below B w w' → Calls P k (#[.slice r.1 r.2.2.length r.2.1] ++ caps) w' fun e w'' => e = .returned (.bool (p r.2.2)) ∧ Below w'.heap.size w' w''
theorem indexR_any (A : Option Addr) (c : Nat) (rs : List (Row Int)) (k : FuncId) (caps : Array Value) (p : List Int → Bool) (B : Nat) (w : World) (hB : B ≤ w.heap.size)
    (hr : RdR LI w B A c rs) (hp : AskR Try.prog k caps B w rs p) :
    Calls Try.prog 82 #[.slice A rs.length c, .func (.func k) #[] caps] w fun e w' => e = .returned (.int .i64 (fIdx (fun r => p r.2.2) rs)) ∧ Below B w w' := by
  have hlen := hr.len63
  obtain ⟨eg, hp⟩ := hp
  go_enter Try.func82, Try.ntmps82
  go_wp2_with fail
  go_loopw [5,8] (fun i j wr => ∃ k : Nat, k ≤ rs.length ∧ j = .int .i64 k ∧ Hid (∀ y ∈ rs.take k, p y.2.2 = false) ∧ Below B w wr) (fun _ j _ => rs.length - (intOf j).toNat)
  case atStart => exact ⟨0, by omega, rfl, Lib.hid (by simp), Below.refl _ _⟩
  case round =>
    obtain ⟨m, hk, rfl, Hno, hbel⟩ := hrel
    by_cases hlt : m < rs.length
    · obtain ⟨ad, rfl, hab, hcell, _⟩ := (hr.below hbel).at_ hlt
      have hpx := hp rs[m] (List.getElem_mem _) wr hbel
      have HP := Lib.hid hp
      have hmi : (m : Int) < rs.length := by omega
      have HNX := Lib.hid (fun (h : p rs[m].2.2 = false) y (hy : y ∈ rs.take (m + 1)) => (show p y.2.2 = false by
        rw [List.take_succ_eq_append_getElem hlt] at hy
        rcases List.mem_append.1 hy with h2 | h2
        · exact Hno.out y h2
        · simp at h2; rw [h2]; exact h))
      have HHIT := Lib.hid (fun (h : p rs[m].2.2 = true) => fIdx_hit (p := fun r : Row Int => p r.2.2) hlt Hno.out h)
      clear hp
      generalize rs[m].1 = Ar at *
      generalize rs[m].2.1 = cr at *
      generalize rs[m].2.2 = xr at *
      go_wp2_with fail
      refine hpx.mono ?_
      rintro e w1 ⟨rfl, hb1⟩
      cases hpt : p xr
      · go_wp2_with fail
        go_roundw
        case rel => exact ⟨m + 1, by omega, by go_num, Lib.hid (HNX.out hpt), bthen hbel hB hb1⟩
        case measure => simp [intOf]; omega
      · have HR := Lib.hid (HHIT.out hpt)
        go_wp2_with fail
        go_ret
        exact ⟨ret_int HR.out.symm, bthen hbel hB hb1⟩
    · obtain rfl : m = rs.length := by omega
      have HR : Hid (fIdx (fun r : Row Int => p r.2.2) rs = -1) := Lib.hid (fIdx_none (by
        have := Hno.out
        rw [List.take_of_length_le (by omega)] at this
        exact this))
      go_wp2_with fail
      go_ret
      exact ⟨ret_int HR.out.symm, hbel⟩
theorem containsR_any (A : Option Addr) (c : Nat) (rs : List (Row Int)) (k : FuncId) (caps : Array Value) (p : List Int → Bool) (B : Nat) (w : World) (hB : B ≤ w.heap.size)
    (hr : RdR LI w B A c rs) (hp : AskR Try.prog k caps B w rs p) :
    Calls Try.prog 57 #[.slice A rs.length c, .func (.func k) #[] caps] w fun e w' => e = .returned (.bool (rs.any fun r => p r.2.2)) ∧ Below B w w' := by
  have hc := indexR_any A c rs k caps p B w hB hr hp
  obtain ⟨eg, hp⟩ := hp
  clear hp
  have HE := Lib.hid (fIdx_any (fun r : Row Int => p r.2.2) rs)
  generalize fIdx (fun r : Row Int => p r.2.2) rs = f at *
  go_enter Try.func57, Try.ntmps57
  go_wp2_with fail
  refine hc.mono ?_
  rintro e w1 ⟨rfl, hb1⟩
  go_wp2_with fail
  go_ret
  exact ⟨ret_bool HE.out, hb1⟩

/-- a row that does not fit -/
def rwB (n : Nat) (xs : List Int) : Bool := !(decide (xs.length = n)) || outB xs 0 1000
theorem PH1_any (A : Option Addr) (c : Nat) (xs : List Int) (b2 : Nat) (Ac : Option Addr) (n cc : Nat) (w : World) (hr : Rd LI w w.heap.size A c xs) (hn : n ≤ 9223372036854775807) (hc : w.cell? ⟨b2, 0, none⟩ = some (.slice Ac n cc)) :
    Calls Try.prog 58 #[.slice A xs.length c, .pointer (some ⟨b2, 0, none⟩)] w fun e w' => e = .returned (.bool (rwB n xs)) ∧ Below w.heap.size w w' := by
  have hlen := hr.len63
  have hco := outside_any A c xs 0 1000 w hr
  by_cases hl : xs.length = n
  · have HR : Hid (rwB n xs = outB xs 0 1000) := Lib.hid (by simp [rwB, hl])
    have h1 : ((xs.length : Int) != (n : Int)) = false := by rw [bne_eq_false_iff_eq]; omega
    have h2 : (xs.length != n) = false := by rw [bne_eq_false_iff_eq]; exact hl
    rw [HR.out]
    clear hl
    go_enter Try.func58, Try.ntmps58
    go_wp2_with fail
    refine hco.mono ?_
    rintro e w1 ⟨rfl, hb1⟩
    go_wp2_with fail
    go_ret
    exact ⟨rfl, hb1⟩
  · have HR : Hid (rwB n xs = true) := Lib.hid (by simp [rwB, hl])
    have h1 : ((xs.length : Int) != (n : Int)) = true := by rw [bne_iff_ne]; omega
    have h2 : (xs.length != n) = true := by rw [bne_iff_ne]; exact hl
    rw [HR.out]
    clear hl
    go_enter Try.func58, Try.ntmps58
    go_wp2_with fail
    go_ret
    exact ⟨rfl, Below.refl _ _⟩
theorem eg_PH1 : ∀ args w, (callFunc 58 args).run Try.prog w = .ok (.enter 58 args) w := by
  intro args w
  kernel_rfl
theorem eg_PH2 : ∀ args w, (callFunc 61 args).run Try.prog w = .ok (.enter 61 args) w := by
  intro args w
  kernel_rfl

/-- nothing but two blocks has turned -/
structure Fr (b3 b4 : Nat) (w w' : World) : Prop where
  os : w'.os = w.os
  tape : w'.tape = w.tape
  output : w'.output = w.output
  size : w.heap.size ≤ w'.heap.size
  block : ∀ k, k < w.heap.size → k ≠ b3 → k ≠ b4 → w'.heap[k]? = w.heap[k]?
section
variable {b3 b4 : Nat} {w w1 w' : World}
theorem Fr.refl (b3 b4 : Nat) (w : World) : Fr b3 b4 w w := ⟨rfl, rfl, rfl, Nat.le_refl _, fun _ _ _ _ => rfl⟩
theorem Fr.trans (h : Fr b3 b4 w w1) (h2 : Fr b3 b4 w1 w') : Fr b3 b4 w w' :=
  ⟨h2.os.trans h.os, h2.tape.trans h.tape, h2.output.trans h.output, Nat.le_trans h.size h2.size, fun k hk n3 n4 => (h2.block k (by have := h.size; omega) n3 n4).trans (h.block k hk n3 n4)⟩
theorem Fr.of_below (h : Below w.heap.size w w') : Fr b3 b4 w w' := ⟨h.os, h.tape, h.output, h.size, fun k hk _ _ => h.block k hk⟩
theorem Fr.set3 (h : Fr b3 b4 w w') (v : Value) : Fr b3 b4 w (w'.setCell ⟨b3, 0, none⟩ v) :=
  ⟨h.os, h.tape, h.output, by have := h.size; simpa using this, fun k hk n3 n4 => (Below.heap_setCell w' ⟨b3, 0, none⟩ v k (fun e => n3 (by simpa using e))).trans (h.block k hk n3 n4)⟩
theorem Fr.set4 (h : Fr b3 b4 w w') (v : Value) : Fr b3 b4 w (w'.setCell ⟨b4, 0, none⟩ v) :=
  ⟨h.os, h.tape, h.output, by have := h.size; simpa using this, fun k hk n3 n4 => (Below.heap_setCell w' ⟨b4, 0, none⟩ v k (fun e => n4 (by simpa using e))).trans (h.block k hk n3 n4)⟩
theorem Fr.below (h : Fr b3 b4 w w') {B : Nat} (hB : B ≤ w.heap.size) (h3 : B ≤ b3) (h4 : B ≤ b4) : Below B w w' := ⟨h.os, h.tape, h.output, h.size, fun k hk => h.block k (by omega) (by omega) (by omega)⟩
theorem Fr.rd (h : Fr b3 b4 w w') {A : Option Addr} {c : Nat} {xs : List Int} (hr : Rd LI w w.heap.size A c xs) (hn : ∀ ad, A = some ad → ad.block ≠ b3 ∧ ad.block ≠ b4) : Rd LI w' w'.heap.size A c xs :=
  ⟨hr.le, hr.cap, fun i hi => by
    obtain ⟨ad, e, hb, hc⟩ := hr.at_ i hi
    obtain ⟨n3, n4⟩ := hn ad e
    refine ⟨ad, e, by have := h.size; omega, fun j u hu => ?_⟩
    have h1 : w'.heap[(ad.add (i * LI.sz + j)).block]? = w.heap[(ad.add (i * LI.sz + j)).block]? := by
      rw [block_of_add]
      exact h.block _ hb n3 n4
    rw [← hc j u hu]
    unfold World.cell?
    rw [h1]⟩
end
/-- the state of the search in memory -/
structure PI (w : World) (b1 b2 b3 b4 : Nat) (A : Option Addr) (c : Nat) (rs : List (Row Int)) (Ac : Option Addr) (cc : Nat) (cs : List Int) (Ab : Option Addr) (cb : Nat) (best : List Int) (most : Int) : Prop where
  k1 : w.cell? ⟨b1, 0, none⟩ = some (.slice A rs.length c)
  k2 : w.cell? ⟨b2, 0, none⟩ = some (.slice Ac cs.length cc)
  k3 : w.cell? ⟨b3, 0, none⟩ = some (.int .i64 most)
  k4 : w.cell? ⟨b4, 0, none⟩ = some (.slice Ab best.length cb)
  f3 : w.frozen? ⟨b3, 0, none⟩ = false
  f4 : w.frozen? ⟨b4, 0, none⟩ = false
  rm : RdR LI w b2 A c rs
  rc : Rd LI w b2 Ac cc cs
  ob : Own LI 2 w b2 Ab cb best
  n3 : blk Ab ≠ some b3
  n4 : blk Ab ≠ some b4
  h12 : b1 < b2
  h23 : b2 < b3
  h24 : b2 < b4
  h34 : b3 ≠ b4
  l3 : b3 < w.heap.size
  l4 : b4 < w.heap.size
section
variable {w w' : World} {b1 b2 b3 b4 c cc cb : Nat} {A Ac Ab : Option Addr} {rs : List (Row Int)} {cs best : List Int} {most : Int}
theorem PI.below (h : PI w b1 b2 b3 b4 A c rs Ac cc cs Ab cb best most) (hb : Below w.heap.size w w') : PI w' b1 b2 b3 b4 A c rs Ac cc cs Ab cb best most := by
  have hs := hb.size
  have q1 := h.h12; have q2 := h.h23; have q3 := h.l3; have q4 := h.l4
  exact ⟨(hb.cell (p := ⟨b1, 0, none⟩) (by show b1 < _; omega)).trans h.k1, (hb.cell (p := ⟨b2, 0, none⟩) (by show b2 < _; omega)).trans h.k2, (hb.cell (p := ⟨b3, 0, none⟩) q3).trans h.k3, (hb.cell (p := ⟨b4, 0, none⟩) q4).trans h.k4,
    (hb.frozen (p := ⟨b3, 0, none⟩) q3).trans h.f3, (hb.frozen (p := ⟨b4, 0, none⟩) q4).trans h.f4, h.rm.below (hb.mono (by omega)), h.rc.below (hb.mono (by omega)), h.ob.below hb, h.n3, h.n4, h.h12, h.h23, h.h24, h.h34, by omega, by omega⟩
theorem cell_setD {w : World} {g g' : Nat} (v : Value) (hij : g ≠ g') : (w.setCell ⟨g', 0, none⟩ v).cell? ⟨g, 0, none⟩ = w.cell? ⟨g, 0, none⟩ := World.cell?_setCell_other w _ _ v (fun e => hij (by injection e with h _ _; exact h.symm))
/-- a better list -/
theorem PI.better (h : PI w b1 b2 b3 b4 A c rs Ac cc cs Ab cb best most) (hb : Below w.heap.size w w') {Ab' : Option Addr} {cb' : Nat} {b' : List Int} (ho : Own LI 2 w' w.heap.size Ab' cb' b') (m' : Int) :
    PI ((w'.setCell ⟨b4, 0, none⟩ (.slice Ab' b'.length cb')).setCell ⟨b3, 0, none⟩ (.int .i64 m')) b1 b2 b3 b4 A c rs Ac cc cs Ab' cb' b' m' := by
  have h' := h.below hb
  have q1 := h.h12; have q2 := h.h23; have q5 := h.h24; have q6 := h.h34; have q3 := h.l3; have q4 := h.l4
  have m3 : blk Ab' ≠ some b3 := fun e => by have := (ho.blk_lt _ e).1; omega
  have m4 : blk Ab' ≠ some b4 := fun e => by have := (ho.blk_lt _ e).1; omega
  refine ⟨by rw [cell_setD _ (by omega), cell_setD _ (by omega)]; exact h'.k1, by rw [cell_setD _ (by omega), cell_setD _ (by omega)]; exact h'.k2, ?_, ?_, by simpa using h'.f3, by simpa using h'.f4,
    (h'.rm.below ((Below.refl b2 w').setCell (p := ⟨b4, 0, none⟩) (by show b2 ≤ b4; omega) _)).below ((Below.refl b2 _).setCell (p := ⟨b3, 0, none⟩) (by show b2 ≤ b3; omega) _),
    (h'.rc.setCell (p := ⟨b4, 0, none⟩) (by show b2 ≤ b4; omega) _).setCell (p := ⟨b3, 0, none⟩) (by show b2 ≤ b3; omega) _, ((ho.lower (by omega)).setFar m4 _).setFar m3 _, m3, m4, h.h12, h.h23, h.h24, h.h34, by simpa using h'.l3, by simpa using h'.l4⟩
  · have := h'.k3
    have e : (w'.setCell ⟨b4, 0, none⟩ (.slice Ab' b'.length cb')).cell? ⟨b3, 0, none⟩ = some (.int .i64 most) := by rw [cell_setD _ h.h34]; exact this
    exact World.cell?_setCell_same' _ _ _ (by rw [e]; rfl)
  · rw [cell_setD _ (Ne.symm h.h34)]
    have := h'.k4
    exact World.cell?_setCell_same' _ _ _ (by rw [this]; rfl)
end

set_option maxRecDepth 100000 in
set_option maxHeartbeats 6400000 in
theorem PH2_any (X : List (List Int)) (hX : WkX X) (b1 b2 b3 b4 : Nat) (A : Option Addr) (c : Nat) (rs : List (Row Int)) (hd : dat rs = X) (Ac : Option Addr) (cc : Nat) (cs : List Int) (hrow : ∀ r ∈ X, r.length = cs.length) (hX6 : X.length ≤ 6)
    (w : World) (A5 : Option Addr) (c5 : Nat) (own : List Int) (hr : Rd LI w w.heap.size A5 c5 own) (hol : own.length ≤ X.length) (hLt : LtL cs.length own) (Ab : Option Addr) (cb : Nat) (st : List Int × Int) (hT : PI w b1 b2 b3 b4 A c rs Ac cc cs Ab cb (hnd cs st.1) st.2) :
    Calls Try.prog 61 #[.slice A5 own.length c5, .pointer (some ⟨b1, 0, none⟩), .pointer (some ⟨b2, 0, none⟩), .pointer (some ⟨b3, 0, none⟩), .pointer (some ⟨b4, 0, none⟩)] w fun e w' => e = .returned (.tuple #[]) ∧ ∃ Ab' cb', PI w' b1 b2 b3 b4 A c rs Ac cc cs Ab' cb' (hnd cs (stp X st own).1) (stp X st own).2 ∧ Fr b3 b4 w w' := by
  have hlen := hr.len63
  have HX := Lib.hid hX
  have HD := Lib.hid hd
  have HRW := Lib.hid hrow
  have HLT := Lib.hid hLt
  have HT := Lib.hid hT
  have hrs : rs.length = X.length := by rw [← dat_len, hd]
  have hr1 : X.length ≤ rs.length := by omega
  obtain ⟨st2, hst2⟩ : ∃ s, s = stp X st own := ⟨_, rfl⟩
  rw [← hst2]
  have HST := Lib.hid hst2
  clear hX hd hrow hLt hT hrs hst2
  go_enter Try.func61, Try.ntmps61
  go_wp2_with fail
  go_loopw [6, 7, 13] (fun s h i wr => ∃ (k : Nat) (A1 : Option Addr) (c1 : Nat), k ≤ own.length ∧ i = .int .i64 k ∧ s = .int .i64 (wS X (own.take k)) ∧ h = .slice A1 (hnd cs (own.take k)).length c1 ∧ Hid (Own LI 2 wr w.heap.size A1 c1 (hnd cs (own.take k))) ∧ Hid (Below w.heap.size w wr)) (fun _ _ i _ => own.length - (intOf i).toNat)
  case atStart => exact ⟨0, _, _, by omega, rfl, rfl, rfl, Lib.hid (Own.lit0 w (Nat.le_refl _) rfl), Lib.hid ((Below.refl _ _).alloc (Nat.le_refl _) _)⟩
  case round =>
    obtain ⟨k, A1, c1, hk, rfl, rfl, rfl, HO, HB⟩ := hrel
    have hsz := HB.out.size
    by_cases hlt : k < own.length
    · obtain ⟨a5, rfl, ha5, hc5⟩ := (hr.below HB.out).int hlt
      obtain ⟨q0, q1⟩ := HLT.out _ (List.getElem_mem hlt)
      obtain ⟨q, hq⟩ : ∃ q : Nat, own[k] = (q : Int) := ⟨own[k].toNat, by omega⟩
      have hql : q < cs.length := by omega
      have hqi : (q : Int) < cs.length := by omega
      have hki : (k : Int) < own.length := by omega
      rw [hq] at hc5
      have HW : Hid (wS X (own.take (k + 1)) = wS X (own.take k) + wAt X k (q : Int)) := Lib.hid (by
        rw [List.take_succ_eq_append_getElem hlt, wS_snoc, hq]
        simp [Nat.min_eq_left (Nat.le_of_lt hlt)])
      have HH : Hid (hnd cs (own.take (k + 1)) = hnd cs (own.take k) ++ [cs[q]]) := Lib.hid (by
        rw [List.take_succ_eq_append_getElem hlt, hnd_snoc, hq, Int.toNat_natCast, getD_lt cs 0 hql])
      have hT2 := HT.out.below HB.out
      have k1 := hT2.k1
      have k2 := hT2.k2
      have g3 := hT2.l3
      have g4 := hT2.h23
      have g5 := hT2.h12
      have hkX : k < X.length := by omega
      obtain ⟨ad, Ak, ck, rfl, hab, ha1, hakb, ha2⟩ := hT2.rm.worth HD.out HRW.out (i := k) hkX hql
      obtain ⟨ac, rfl, hac, hc2⟩ := hT2.rc.int hql
      have hkr : k < rs.length := by omega
      have hkri : (k : Int) < rs.length := by omega
      obtain ⟨w0, w1⟩ := wAt_bd HX.out k (q : Int)
      obtain ⟨s0, s1⟩ := wS_bd HX.out (own.take k)
      have hl6 : (own.take k).length ≤ 6 := by rw [List.length_take]; omega
      have hl7 : (hnd cs (own.take k)).length ≤ 6 := by rw [hnd_len]; exact hl6
      have g6 : w.heap.size ≤ wr.heap.size := hsz
      clear hq q0 q1 hT2
      generalize wAt X k (q : Int) = x at *
      generalize cs[q] = cq at *
      generalize hS : wS X (own.take k) = S at *
      have hS6 : S ≤ 6000 := by omega
      clear hS s1
      generalize hnd cs (own.take k) = L1 at *
      have hwr : IntKind.i64.wrap (S + x) = S + x := wrapS (by omega) (by omega)
      go_wp2_with (at_builtin; go_loud (refine wpL_app1 (L := LI) rowI rfl rfl _ _ rfl rfl HO.out cq _ rfl rfl (by simp) (by unfold maxLen; omega) (by omega) (by omega) ?_); intro A4 c4 w4 ho4 hg4)
      go_roundw
      case rel => exact ⟨k + 1, A4, c4, by omega, by go_num, by rw [HW.out], by rw [HH.out]; simp, Lib.hid (by rw [HH.out]; exact ho4), Lib.hid (Grew.below HB.out hg4 hsz fun g' hg' => (HO.out.blk_lt g' hg').1)⟩
      case measure => simp [intOf]; omega
    · obtain rfl : k = own.length := by omega
      rw [List.take_of_length_le (Nat.le_refl _)]
      have ho := HO.out
      rw [List.take_of_length_le (Nat.le_refl _)] at ho
      have HO2 := Lib.hid ho
      have hT2 := HT.out.below HB.out
      have k3 := hT2.k3
      have f3 := hT2.f3
      have f4 := hT2.f4
      have k4 := hT2.k4
      have n34 := hT2.h34
      have g3 := hT2.l3
      have g4 := hT2.l4
      obtain ⟨s0, s1⟩ := wS_bd HX.out own
      clear ho HO hT2
      by_cases hgt : st.2 < wS X own
      · have HE : Hid (st2 = (own, wS X own)) := Lib.hid (by rw [HST.out, stp_yes hgt])
        have HT3 := Lib.hid (HT.out.better HB.out HO2.out (wS X own))
        have HF : Hid (Fr b3 b4 w ((wr.setCell ⟨b4, 0, none⟩ (.slice A1 (hnd cs own).length c1)).setCell ⟨b3, 0, none⟩ (.int .i64 (wS X own)))) := Lib.hid (((Fr.of_below HB.out).set4 _).set3 _)
        generalize wS X own = S at *
        go_wp2_with fail
        refine bodyPost_end (v := .tuple #[]) (by simp [results, Try.results61, go_sem]) rfl ⟨rfl, A1, c1, by rw [HE.out]; exact HT3.out, HF.out⟩
      · have hle : wS X own ≤ st.2 := by omega
        have HE : Hid (st2 = st) := Lib.hid (by rw [HST.out, stp_no hle])
        have HT3 := Lib.hid (HT.out.below HB.out)
        have HF : Hid (Fr b3 b4 w wr) := Lib.hid (Fr.of_below HB.out)
        generalize wS X own = S at *
        go_wp2_with fail
        refine bodyPost_end (v := .tuple #[]) (by simp [results, Try.results61, go_sem]) rfl ⟨rfl, ⟨Ab, cb, by rw [HE.out]; exact HT3.out⟩, HF.out⟩
end Go.Proofs.Ytofcmljnckdknaa
