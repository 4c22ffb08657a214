/-
  Slices of slices: rows with their places (Row), read (RdR) or the call's own (OwnR), over any program.
-/
import Derived.WalkKit
import Derived.WalkLawsBesides
import Derived.WalkSpells
import Derived.Lib.Hide
import Derived.Outline
import Derived.Laws.OwnMore
import Derived.Laws.MakeOwn
import Derived.Laws.AppendOwnNone
import Derived.Deep.AppendLies
import Derived.Deep.Draws
import Derived.Deep.LoopGhost
import Derived.OwnWalk
import Derived.ArgAppend
/-
  Words for memory, over any program: a slice that reads as a list (Rd), a slice of the call's own (Own), append and make as laws on these.
-/
namespace Go.Proofs.YtiefiikheaiekaaDoor
open Go.ChangeShapes Go.WideShapes Go.RowKit

theorem ret_int {k : IntKind} {a b : Int} (h : a = b) : Ending.returned (.int k a) = .returned (.int k b) := by rw [h]
theorem ret_ii {k k' : IntKind} {a b a' b' : Int} (h : a = a') (h' : b = b') : Ending.returned (.tuple #[.int k a, .int k' b]) = .returned (.tuple #[.int k a', .int k' b']) := by rw [h, h']
theorem ret_bool {a b : Bool} (h : a = b) : Ending.returned (.bool a) = .returned (.bool b) := by rw [h]

theorem block_of_add (a : Addr) (n : Nat) : (a.add n).block = a.block := by unfold Addr.add; split <;> rfl
theorem add_of_add (a : Addr) (i j : Nat) : (a.add i).add j = a.add (i + j) := by
  unfold Addr.add
  by_cases hi : i = 0 <;> by_cases hj : j = 0 <;> simp [hi, hj, Nat.add_assoc]
theorem add_lit (g k : Nat) : (⟨g, 0, none⟩ : Addr).add k = ⟨g, k, none⟩ := by unfold Addr.add; split <;> simp_all

/-- two steps: the second from the heap as the first left it -/
theorem bthen {B : Nat} {w w1 w2 : World} (h : Below B w w1) (hB : B ≤ w.heap.size) (h1 : Below w1.heap.size w1 w2) : Below B w w2 :=
  h.trans (h1.mono (by have := h.size; omega))
theorem bcell {W w1 : World} (hb : Below W.heap.size W w1) : (∀ b o, b < W.heap.size → w1.cell? ⟨b, o, none⟩ = W.cell? ⟨b, o, none⟩) ∧ (∀ b o, b < W.heap.size → w1.frozen? ⟨b, o, none⟩ = W.frozen? ⟨b, o, none⟩) :=
  ⟨fun b o h => hb.cell (p := ⟨b, o, none⟩) h, fun b o h => hb.frozen (p := ⟨b, o, none⟩) h⟩
theorem below_drewN {B : Nat} {a w : World} (h : Below B a w) (n : Nat) : Below B a (w.drewN n) := ⟨h.os, h.tape, h.output, h.size, h.block⟩
theorem below_heap {B : Nat} {w w' : World} (hb : Below B w w') {g : Nat} (hg : g < B) : w'.heap[g]? = w.heap[g]? := hb.block g hg

/-- nothing but draws -/
def Dr (w w' : World) : Prop := ∃ n, w' = w.drewN n
theorem Dr.refl (w : World) : Dr w w := ⟨0, rfl⟩
theorem Dr.step {w w' : World} (h : Dr w w') (n : Nat) : Dr w (w'.drewN n) := by
  obtain ⟨m, rfl⟩ := h
  exact ⟨m + n, by rw [World.drewN_drewN]⟩
theorem Dr.below {w w' : World} (h : Dr w w') {B : Nat} : Below B w w' := by
  obtain ⟨m, rfl⟩ := h
  exact below_drewN (Below.refl _ _) m
theorem Dr.trans {w w1 w2 : World} (h : Dr w w1) (h2 : Dr w1 w2) : Dr w w2 := by
  obtain ⟨n, rfl⟩ := h2
  exact h.step n

theorem quiet_left {P : Program} {f : FuncId} {args : Array Value} {w : World} {n : Nat} {v : Value}
    (h : Calls P f args (w.drewN n) fun e w' => e = .returned v ∧ w.drewN n = w') : Calls P f args (w.drewN n) fun e w'' => e = .returned v ∧ ∃ m, w'' = w.drewN m :=
  h.mono fun _ _ ⟨he, hm⟩ => ⟨he, n, hm.symm⟩
theorem quiet_dr {P : Program} {f : FuncId} {args : Array Value} {w : World} {n : Nat} {v : Value}
    (h : Calls P f args (w.drewN n) fun e w' => e = .returned v ∧ Dr (w.drewN n) w') : Calls P f args (w.drewN n) fun e w'' => e = .returned v ∧ ∃ m, w'' = w.drewN m :=
  h.mono fun _ _ ⟨he, m, hm⟩ => ⟨he, n + m, by rw [hm, World.drewN_drewN]⟩

/-- how an element lies in memory -/
structure Lay (α : Type) where
  sz : Nat
  f : α → List Value
  len : ∀ x, (f x).length = sz
  pos : 0 < sz
  one : ∀ x, ∀ u ∈ f x, u.oneCell' = true

def LI : Lay Int := ⟨1, fun x => [.int .i64 x], fun _ => rfl, by decide, fun x u hu => by simp at hu; subst hu; rfl⟩
def LB : Lay Bool := ⟨1, fun x => [.bool x], fun _ => rfl, by decide, fun x u hu => by simp at hu; subst hu; rfl⟩
def LS : Lay ByteArray := ⟨1, fun x => [.string x], fun _ => rfl, by decide, fun x u hu => by simp at hu; subst hu; rfl⟩
/-- slices as elements: address, length, capacity -/
def LV : Lay (Option Addr × Nat × Nat) := ⟨1, fun x => [.slice x.1 x.2.1 x.2.2], fun _ => rfl, by decide, fun x u hu => by simp at hu; subst hu; rfl⟩

theorem flat_len {α : Type} (L : Lay α) (xs : List α) : (xs.flatMap L.f).length = xs.length * L.sz := by
  induction xs with
  | nil => simp
  | cons x xs ih => simp [ih, L.len, Nat.add_mul]; omega
theorem flat_get {α : Type} (L : Lay α) (xs : List α) (i : Nat) (h : i < xs.length) (j : Nat) (u : Value) (hu : (L.f xs[i])[j]? = some u) : (xs.flatMap L.f)[i * L.sz + j]? = some u := by
  induction xs generalizing i with
  | nil => simp at h
  | cons x xs ih =>
    have hjl : j < L.sz := by
      have := (List.getElem?_eq_some_iff.1 hu).1
      rwa [L.len] at this
    cases i with
    | zero =>
      simp only [List.getElem_cons_zero] at hu
      simp only [List.flatMap_cons, Nat.zero_mul, Nat.zero_add]
      rw [List.getElem?_append_left (by rw [L.len]; exact hjl)]
      exact hu
    | succ i =>
      simp only [List.getElem_cons_succ] at hu
      have := ih i (by simpa using h) hu
      simp only [List.flatMap_cons]
      rw [List.getElem?_append_right (by rw [L.len, Nat.add_mul]; omega), L.len]
      rw [← this]
      congr 1
      rw [Nat.add_mul]; omega
theorem flat_take {α : Type} (L : Lay α) (xs : List α) (k : Nat) : (xs.take k).flatMap L.f = (xs.flatMap L.f).take (k * L.sz) := by
  induction xs generalizing k with
  | nil => simp
  | cons x xs ih =>
    cases k with
    | zero => simp
    | succ k =>
      simp only [List.take_succ_cons, List.flatMap_cons, ih]
      rw [List.take_append, L.len, List.take_of_length_le (i := (k + 1) * L.sz) (by rw [L.len, Nat.add_mul]; omega)]
      congr 2
      rw [Nat.add_mul]; omega

/-- the slice (A, xs.length, c) reads as xs, and lies below block B -/
structure Rd {α : Type} (L : Lay α) (w : World) (B : Nat) (A : Option Addr) (c : Nat) (xs : List α) : Prop where
  le : xs.length ≤ c
  cap : c ≤ maxLen
  at_ : ∀ i (h : i < xs.length), ∃ ad, A = some ad ∧ ad.block < B ∧ ∀ j u, (L.f xs[i])[j]? = some u → w.cell? (ad.add (i * L.sz + j)) = some u

section
variable {α : Type} {L : Lay α} {w w' : World} {B B' c : Nat} {A : Option Addr} {xs : List α}
theorem Rd.len63 (h : Rd L w B A c xs) : xs.length ≤ 9223372036854775807 := by have := h.le; have := h.cap; unfold maxLen at this; omega
theorem Rd.keep (h : Rd L w B A c xs) (hk : ∀ p : Addr, p.block < B → w'.cell? p = w.cell? p) : Rd L w' B A c xs :=
  ⟨h.le, h.cap, fun i hi => by
    obtain ⟨ad, e, hb, hc⟩ := h.at_ i hi
    exact ⟨ad, e, hb, fun j u hu => (hk _ (by rw [block_of_add]; exact hb)).trans (hc j u hu)⟩⟩
theorem Rd.more (h : Rd L w B A c xs) (hB : B ≤ B') : Rd L w B' A c xs :=
  ⟨h.le, h.cap, fun i hi => by
    obtain ⟨ad, e, hb, hc⟩ := h.at_ i hi
    exact ⟨ad, e, by omega, hc⟩⟩
theorem Rd.below (h : Rd L w B A c xs) (hb : Below B w w') : Rd L w' B A c xs := h.keep fun _ hp => hb.cell hp
theorem Rd.drew (h : Rd L w B A c xs) : Rd L w.drew B A c xs := ⟨h.le, h.cap, h.at_⟩
theorem Rd.drewN (h : Rd L w B A c xs) (k : Nat) : Rd L (w.drewN k) B A c xs := ⟨h.le, h.cap, h.at_⟩
theorem Rd.alloc (h : Rd L w B A c xs) (hB : B ≤ w.heap.size) (o : Obj) : Rd L (w.alloc o) B A c xs := h.keep fun p hp => World.cell?_alloc_lt w o p (by omega)
theorem Rd.al (h : Rd L w w.heap.size A c xs) (o : Obj) : Rd L (w.alloc o) (w.alloc o).heap.size A c xs := (h.alloc (Nat.le_refl _) o).more (by simp)
theorem Rd.setCell (h : Rd L w B A c xs) {p : Addr} (hB : B ≤ p.block) (u : Value) : Rd L (w.setCell p u) B A c xs :=
  h.keep fun q hq => World.cell?_setCell_other w p q u (fun e => by subst e; omega)
theorem Rd.take (h : Rd L w B A c xs) (k : Nat) : Rd L w B A c (xs.take k) :=
  ⟨by have := h.le; simp; omega, h.cap, fun i hi => by
    have hi' : i < xs.length := by simp at hi; omega
    obtain ⟨ad, e, hb, hc⟩ := h.at_ i hi'
    exact ⟨ad, e, hb, fun j u hu => hc j u (by simpa using hu)⟩⟩
theorem Rd.nil (hc : c ≤ maxLen) : Rd L w B A c ([] : List α) := ⟨by simp, hc, fun i hi => by simp at hi⟩
end
section
variable {w : World} {B c : Nat} {A : Option Addr}
theorem Rd.int {xs : List Int} (h : Rd LI w B A c xs) {k : Nat} (hk : k < xs.length) : ∃ ad, A = some ad ∧ ad.block < B ∧ w.cell? (ad.add k) = some (.int .i64 xs[k]) := by
  obtain ⟨ad, e, hb, hc⟩ := h.at_ k hk
  have := hc 0 (.int .i64 xs[k]) rfl
  simp only [LI, Nat.mul_one, Nat.add_zero] at this
  exact ⟨ad, e, hb, this⟩
theorem Rd.bool {xs : List Bool} (h : Rd LB w B A c xs) {k : Nat} (hk : k < xs.length) : ∃ ad, A = some ad ∧ ad.block < B ∧ w.cell? (ad.add k) = some (.bool xs[k]) := by
  obtain ⟨ad, e, hb, hc⟩ := h.at_ k hk
  have := hc 0 (.bool xs[k]) rfl
  simp only [LB, Nat.mul_one, Nat.add_zero] at this
  exact ⟨ad, e, hb, this⟩
theorem Rd.str {xs : List ByteArray} (h : Rd LS w B A c xs) {k : Nat} (hk : k < xs.length) : ∃ ad, A = some ad ∧ ad.block < B ∧ w.cell? (ad.add k) = some (.string xs[k]) := by
  obtain ⟨ad, e, hb, hc⟩ := h.at_ k hk
  have := hc 0 (.string xs[k]) rfl
  simp only [LS, Nat.mul_one, Nat.add_zero] at this
  exact ⟨ad, e, hb, this⟩
theorem Rd.val {xs : List (Option Addr × Nat × Nat)} (h : Rd LV w B A c xs) {k : Nat} (hk : k < xs.length) : ∃ ad, A = some ad ∧ ad.block < B ∧ w.cell? (ad.add k) = some (.slice xs[k].1 xs[k].2.1 xs[k].2.2) := by
  obtain ⟨ad, e, hb, hc⟩ := h.at_ k hk
  have := hc 0 (.slice xs[k].1 xs[k].2.1 xs[k].2.2) rfl
  simp only [LV, Nat.mul_one, Nat.add_zero] at this
  exact ⟨ad, e, hb, this⟩
end

/-- the slice (A, xs.length, c) is the call's own: nil, or a row in a block from base on, not frozen -/
def Own {α : Type} (L : Lay α) (T : TypeId) (w : World) (base : Nat) (A : Option Addr) (c : Nat) (xs : List α) : Prop :=
  w.ownsRow base T L.sz (.slice A xs.length c) xs.length (xs.flatMap L.f)
/-- its block -/
def blk (A : Option Addr) : Option Nat := A.map (·.block)
theorem blk_own (A : Option Addr) (n c : Nat) : (Value.slice A n c).ownBlock = blk A := by cases A <;> rfl

section
variable {α : Type} {L : Lay α} {T : TypeId} {w w' : World} {base B c : Nat} {A : Option Addr} {xs : List α}
theorem Own.parts (h : Own L T w base A c xs) : (A = none ∧ xs = [] ∧ c = 0) ∨
    ∃ g cur, A = some ⟨g, 0, none⟩ ∧ base ≤ g ∧ g < w.heap.size ∧ w.heap[g]? = some (.cells cur T (0, 0)) ∧ xs.length ≤ c ∧ c ≤ maxLen ∧ cur.size = c * L.sz ∧ cur.toList.take (xs.length * L.sz) = xs.flatMap L.f := by
  rcases h.2 with ⟨h1, h2⟩ | ⟨g, cap, cur, hv, hb, hh, h3, h4, h5, h6⟩
  · simp only [Value.slice.injEq] at h1
    exact .inl ⟨h1.1, List.length_eq_zero_iff.1 h2, h1.2.2⟩
  · simp only [Value.slice.injEq] at hv
    obtain ⟨rfl, _, rfl⟩ := hv
    exact .inr ⟨g, cur, rfl, hb, (Array.getElem?_eq_some_iff.1 hh).1, hh, h3, h4, h5, h6⟩
theorem Own.le (h : Own L T w base A c xs) : xs.length ≤ c := by
  rcases h.parts with ⟨_, rfl, _⟩ | ⟨_, _, _, _, _, _, h, _⟩
  · simp
  · exact h
theorem Own.cap (h : Own L T w base A c xs) : c ≤ maxLen := by
  rcases h.parts with ⟨_, _, rfl⟩ | ⟨_, _, _, _, _, _, _, h, _⟩
  · exact Nat.zero_le _
  · exact h
theorem Own.len63 (h : Own L T w base A c xs) : xs.length ≤ 9223372036854775807 := by have := h.le; have := h.cap; unfold maxLen at this; omega
theorem Own.none_ : Own L T w base none 0 ([] : List α) := World.ownsRow_nil _ _ _ _
theorem Own.ptr (h : Own L T w base A c xs) (hn : 0 < xs.length) : ∃ g, A = some ⟨g, 0, none⟩ ∧ base ≤ g ∧ g < w.heap.size := by
  rcases h.parts with ⟨_, rfl, _⟩ | ⟨g, _, hA, hb, hlt, _⟩
  · simp at hn
  · exact ⟨g, hA, hb, hlt⟩
theorem Own.rd (h : Own L T w base A c xs) : Rd L w w.heap.size A c xs :=
  ⟨h.le, h.cap, fun i hi => by
    obtain ⟨g, rfl, hb, hlt⟩ := h.ptr (by omega)
    refine ⟨_, rfl, hlt, fun j u hu => ?_⟩
    exact World.ownsRow.cells h (g := g) rfl _ u (flat_get L xs i hi j u hu)⟩
theorem Own.blk_lt (h : Own L T w base A c xs) : ∀ g, blk A = some g → base ≤ g ∧ g < w.heap.size := by
  intro g hg
  rcases h.parts with ⟨rfl, _⟩ | ⟨g', _, rfl, hb, hlt, _⟩
  · cases hg
  · simp [blk] at hg; subst hg; exact ⟨hb, hlt⟩
theorem Own.rdB (h : Own L T w base A c xs) (hB : ∀ g, blk A = some g → g < B) : Rd L w B A c xs :=
  ⟨h.le, h.cap, fun i hi => by
    obtain ⟨ad, e, hb, hc⟩ := h.rd.at_ i hi
    exact ⟨ad, e, hB ad.block (by rw [e]; rfl), hc⟩⟩
/-- kept where its block is as it was -/
theorem Own.keepBlk (h : Own L T w base A c xs) (hb : ∀ g, blk A = some g → w'.heap[g]? = w.heap[g]?) : Own L T w' base A c xs := by
  refine ⟨h.1, ?_⟩
  rcases h.2 with h1 | ⟨g, cap, cur, hv, hbg, hh, r⟩
  · exact .inl h1
  · refine .inr ⟨g, cap, cur, hv, hbg, ?_, r⟩
    simp only [Value.slice.injEq] at hv
    rw [hb g (by rw [hv.1]; rfl)]
    exact hh
theorem Own.keep (h : Own L T w base A c xs) (hb : Below B w w') (hlt : ∀ g, blk A = some g → g < B) : Own L T w' base A c xs :=
  h.keepBlk fun g hg => hb.block g (hlt g hg)
/-- over a call -/
theorem Own.below (h : Own L T w base A c xs) (hb : Below w.heap.size w w') : Own L T w' base A c xs :=
  h.keep hb fun g hg => (h.blk_lt g hg).2
theorem Own.drew (h : Own L T w base A c xs) : Own L T w.drew base A c xs := h
theorem Own.drewN (h : Own L T w base A c xs) (k : Nat) : Own L T (w.drewN k) base A c xs := h
theorem Own.alloc (h : Own L T w base A c xs) (o : Obj) : Own L T (w.alloc o) base A c xs := World.ownsRow.alloc h o
theorem Own.setFar (h : Own L T w base A c xs) {p : Addr} (hp : blk A ≠ some p.block) (u : Value) : Own L T (w.setCell p u) base A c xs :=
  h.keepBlk fun g hg => Below.heap_setCell w p u g (fun e => hp (by rw [hg, e]))
theorem Own.lower (h : Own L T w base A c xs) {b : Nat} (hb : b ≤ base) : Own L T w b A c xs := by
  refine ⟨h.1, ?_⟩
  rcases h.2 with h1 | ⟨g, cap, cur, hv, hbg, hh, r⟩
  · exact .inl h1
  · exact .inr ⟨g, cap, cur, hv, by omega, hh, r⟩
theorem Own.raise (h : Own L T w base A c xs) {b : Nat} (hb : ∀ g, blk A = some g → b ≤ g) : Own L T w b A c xs := by
  refine ⟨h.1, ?_⟩
  rcases h.2 with h1 | ⟨g, cap, cur, hv, hbg, hh, r⟩
  · exact .inl h1
  · simp only [Value.slice.injEq] at hv
    exact .inr ⟨g, cap, cur, by simp [hv], hb g (by rw [hv.1]; rfl), hh, r⟩
/-- a prefix -/
theorem Own.take (h : Own L T w base A c xs) (k : Nat) : Own L T w base A c (xs.take k) := by
  rcases h.parts with ⟨rfl, rfl, rfl⟩ | ⟨g, cur, rfl, hb, hlt, hh, h3, h4, h5, h6⟩
  · simpa using Own.none_
  · refine ⟨flat_len _ _, .inr ⟨g, c, cur, rfl, hb, hh, by simp; omega, h4, h5, ?_⟩⟩
    rw [flat_take, ← h6, List.take_take]
    congr 1
    rw [List.length_take]
    rcases Nat.le_total k xs.length with hk | hk
    · rw [Nat.min_eq_left hk, Nat.min_eq_left (Nat.mul_le_mul_right _ hk)]
    · rw [Nat.min_eq_right hk, Nat.min_eq_right (Nat.mul_le_mul_right _ hk)]
end

theorem flat_int (xs : List Int) : xs.flatMap LI.f = xs.map (Value.int .i64) := by induction xs <;> simp_all [LI]
theorem flat_bool (xs : List Bool) : xs.flatMap LB.f = xs.map Value.bool := by induction xs <;> simp_all [LB]
theorem flat_str (xs : List ByteArray) : xs.flatMap LS.f = xs.map Value.string := by induction xs <;> simp_all [LS]
theorem flat_val (xs : List (Option Addr × Nat × Nat)) : xs.flatMap LV.f = xs.map (fun x => Value.slice x.1 x.2.1 x.2.2) := by induction xs <;> simp_all [LV]
section
variable {T : TypeId} {w : World} {base c : Nat} {A : Option Addr}
/-- an element of the call's own row: its cell, open to be written -/
theorem Own.int {xs : List Int} (h : Own LI T w base A c xs) {k : Nat} (hk : k < xs.length) :
    ∃ g, A = some ⟨g, 0, none⟩ ∧ base ≤ g ∧ g < w.heap.size ∧ w.cell? ⟨g, k, none⟩ = some (.int .i64 xs[k]) ∧ w.frozen? ⟨g, k, none⟩ = false := by
  obtain ⟨g, rfl, hb, hlt⟩ := h.ptr (by omega)
  refine ⟨g, rfl, hb, hlt, ?_, World.ownsRow.frozenAt h k⟩
  rw [World.ownsRow.cellAt h k (by simp [LI]; omega), flat_int]
  simp [hk]
theorem Own.bool {xs : List Bool} (h : Own LB T w base A c xs) {k : Nat} (hk : k < xs.length) :
    ∃ g, A = some ⟨g, 0, none⟩ ∧ base ≤ g ∧ g < w.heap.size ∧ w.cell? ⟨g, k, none⟩ = some (.bool xs[k]) ∧ w.frozen? ⟨g, k, none⟩ = false := by
  obtain ⟨g, rfl, hb, hlt⟩ := h.ptr (by omega)
  refine ⟨g, rfl, hb, hlt, ?_, World.ownsRow.frozenAt h k⟩
  rw [World.ownsRow.cellAt h k (by simp [LB]; omega), flat_bool]
  simp [hk]
theorem Own.val {xs : List (Option Addr × Nat × Nat)} (h : Own LV T w base A c xs) {k : Nat} (hk : k < xs.length) :
    ∃ g, A = some ⟨g, 0, none⟩ ∧ base ≤ g ∧ g < w.heap.size ∧ w.cell? ⟨g, k, none⟩ = some (.slice xs[k].1 xs[k].2.1 xs[k].2.2) ∧ w.frozen? ⟨g, k, none⟩ = false := by
  obtain ⟨g, rfl, hb, hlt⟩ := h.ptr (by omega)
  refine ⟨g, rfl, hb, hlt, ?_, World.ownsRow.frozenAt h k⟩
  rw [World.ownsRow.cellAt h k (by simp [LV]; omega), flat_val]
  simp [hk]
theorem Own.setInt {g : Nat} {xs : List Int} (h : Own LI T w base (some ⟨g, 0, none⟩) c xs) (k : Nat) (x : Int) :
    Own LI T (w.setCell ⟨g, k, none⟩ (.int .i64 x)) base (some ⟨g, 0, none⟩) c (xs.set k x) := by
  have := (World.ownsRow.stored h k (.int .i64 x)).1
  unfold Own
  rw [flat_int] at this ⊢
  rw [List.length_set, List.map_set]
  exact this
theorem Own.setBool {g : Nat} {xs : List Bool} (h : Own LB T w base (some ⟨g, 0, none⟩) c xs) (k : Nat) (x : Bool) :
    Own LB T (w.setCell ⟨g, k, none⟩ (.bool x)) base (some ⟨g, 0, none⟩) c (xs.set k x) := by
  have := (World.ownsRow.stored h k (.bool x)).1
  unfold Own
  rw [flat_bool] at this ⊢
  rw [List.length_set, List.map_set]
  exact this
theorem Own.setVal {g : Nat} {xs : List (Option Addr × Nat × Nat)} (h : Own LV T w base (some ⟨g, 0, none⟩) c xs) (k : Nat) (x : Option Addr × Nat × Nat) :
    Own LV T (w.setCell ⟨g, k, none⟩ (.slice x.1 x.2.1 x.2.2)) base (some ⟨g, 0, none⟩) c (xs.set k x) := by
  have := (World.ownsRow.stored h k (.slice x.1 x.2.1 x.2.2)).1
  unfold Own
  rw [flat_val] at this ⊢
  rw [List.length_set, List.map_set]
  exact this
end

/-! elements of several cells -/
theorem add_field (a : Addr) (n j : Nat) (hj : j ≠ 0) : (⟨(a.add n).block, (a.add n).off + j, none⟩ : Addr) = a.add (n + j) := by
  rw [← add_of_add]
  rw [show (a.add n).add j = if j = 0 then a.add n else ⟨(a.add n).block, (a.add n).off + j, none⟩ from by unfold Addr.add; split <;> rfl]
  rw [if_neg hj]
theorem flat_set {α : Type} (L : Lay α) (xs : List α) (k : Nat) (hk : k < xs.length) (j : Nat) (hj : j < L.sz) (u : Value) (x' : α) (hx : L.f x' = (L.f xs[k]).set j u) : (xs.flatMap L.f).set (k * L.sz + j) u = (xs.set k x').flatMap L.f := by
  induction xs generalizing k with
  | nil => simp at hk
  | cons x xs ih =>
    cases k with
    | zero =>
      simp only [List.getElem_cons_zero] at hx
      simp only [List.flatMap_cons, Nat.zero_mul, Nat.zero_add, List.set_cons_zero]
      rw [List.set_append_left _ _ (by rw [L.len]; exact hj), hx]
    | succ k =>
      simp only [List.getElem_cons_succ] at hx
      have := ih k (by simpa using hk) hx
      simp only [List.flatMap_cons, List.set_cons_succ]
      rw [← this, List.set_append_right _ _ (by rw [L.len, Nat.add_mul]; omega), L.len]
      congr 2
      rw [Nat.add_mul]; omega
section
variable {α : Type} {L : Lay α} {T : TypeId} {w : World} {base B c : Nat} {A : Option Addr} {xs : List α}
theorem Rd.field (h : Rd L w B A c xs) {k : Nat} (hk : k < xs.length) : ∃ ad, A = some ad ∧ ad.block < B ∧ (∀ u, (L.f xs[k])[0]? = some u → w.cell? (ad.add (k * L.sz)) = some u) ∧
    ∀ j u, j ≠ 0 → (L.f xs[k])[j]? = some u → w.cell? ⟨(ad.add (k * L.sz)).block, (ad.add (k * L.sz)).off + j, none⟩ = some u := by
  obtain ⟨ad, e, hb, hc⟩ := h.at_ k hk
  exact ⟨ad, e, hb, fun u hu => hc 0 u hu, fun j u hj hu => by rw [add_field _ _ _ hj]; exact hc j u hu⟩
theorem Own.field (h : Own L T w base A c xs) {k : Nat} (hk : k < xs.length) : ∃ g, A = some ⟨g, 0, none⟩ ∧ base ≤ g ∧ g < w.heap.size ∧ (∀ j u, (L.f xs[k])[j]? = some u → w.cell? ⟨g, k * L.sz + j, none⟩ = some u) ∧ ∀ j, w.frozen? ⟨g, j, none⟩ = false := by
  obtain ⟨g, rfl, hb, hlt⟩ := h.ptr (by omega)
  refine ⟨g, rfl, hb, hlt, fun j u hu => ?_, fun j => World.ownsRow.frozenAt h j⟩
  have hj : j < L.sz := by have := (List.getElem?_eq_some_iff.1 hu).1; rwa [L.len] at this
  have hle : k * L.sz + L.sz ≤ xs.length * L.sz := by
    have : (k + 1) * L.sz ≤ xs.length * L.sz := Nat.mul_le_mul_right _ hk
    rwa [Nat.add_mul, Nat.one_mul] at this
  rw [World.ownsRow.cellAt h _ (by omega)]
  exact flat_get L xs k hk j u hu
theorem Own.setField {g : Nat} (h : Own L T w base (some ⟨g, 0, none⟩) c xs) {k : Nat} (hk : k < xs.length) (j : Nat) (hj : j < L.sz) (u : Value) (x' : α) (hx : L.f x' = (L.f xs[k]).set j u) :
    Own L T (w.setCell ⟨g, k * L.sz + j, none⟩ u) base (some ⟨g, 0, none⟩) c (xs.set k x') := by
  have := (World.ownsRow.stored h (k * L.sz + j) u).1
  rw [flat_set L xs k hk j hj u x' hx] at this
  unfold Own
  rw [List.length_set]
  exact this
end
end Go.Proofs.YtiefiikheaiekaaDoor
/-
  append and make as laws on the call's own rows (Own), over any program.
-/
namespace Go.Proofs.YtiefiikheaiekaaDoor
open Go.ChangeShapes Go.WideShapes Go.RowKit

/-- a slice type t of elements e: zero value, cells, bytes -/
def TyRow (P : Program) (t e : TypeId) (z : Value) (sz bytes : Nat) : Prop :=
  P.underlying t = some (.slice e) ∧ (P.info? e).map (fun i => (i.zero, i.size, i.bytes)) = some (some z, sz, bytes)

/-- what an append to the row A leaves: nothing but A's block has turned; the new row is A's or new -/
structure Grew (w w' : World) (A A' : Option Addr) : Prop where
  os : w'.os = w.os
  tape : w'.tape = w.tape
  output : w'.output = w.output
  size : w.heap.size ≤ w'.heap.size
  block : ∀ k, k < w.heap.size → some k ≠ blk A → w'.heap[k]? = w.heap[k]?
  place : blk A' = blk A ∨ ∀ g, blk A' = some g → w.heap.size ≤ g

theorem Grew.below {B : Nat} {w0 w w' : World} {A A' : Option Addr} (hb : Below B w0 w) (h : Grew w w' A A') (hB : B ≤ w.heap.size) (hA : ∀ g, blk A = some g → B ≤ g) : Below B w0 w' :=
  hb.trans ⟨h.os, h.tape, h.output, h.size, fun k hk => h.block k (by omega) (fun e => by have := hA k e.symm; omega)⟩
/-- a row apart from A stays, and stays apart -/
theorem Grew.own {α : Type} {L : Lay α} {T : TypeId} {w w' : World} {A A' A2 : Option Addr} {base c : Nat} {xs : List α} (h : Grew w w' A A') (ho : Own L T w base A2 c xs) (hne : ∀ g, blk A2 = some g → blk A ≠ some g) :
    Own L T w' base A2 c xs ∧ ∀ g, blk A2 = some g → blk A' ≠ some g := by
  refine ⟨ho.keepBlk fun g hg => h.block g (ho.blk_lt g hg).2 (fun e => hne g hg e.symm), fun g hg e => ?_⟩
  rcases h.place with hp | hp
  · exact hne g hg (hp ▸ e)
  · have := hp g e; have := (ho.blk_lt g hg).2; omega
theorem Grew.rd {α : Type} {L : Lay α} {w w' : World} {A A' A2 : Option Addr} {B c : Nat} {xs : List α} (h : Grew w w' A A') (hr : Rd L w B A2 c xs) (hB : B ≤ w.heap.size) (hA : ∀ g, blk A = some g → B ≤ g) : Rd L w' B A2 c xs :=
  hr.below (Grew.below (Below.refl B w) h hB hA)

theorem own_of_rows {α : Type} {L : Lay α} {T : TypeId} {w : World} {base n : Nat} {v : Value} {xs : List α} (h : w.ownsRow base T L.sz v n (xs.flatMap L.f)) (hn : n = xs.length) :
    ∃ A c, v = .slice A xs.length c ∧ Own L T w base A c xs := by
  subst hn
  rcases h.2 with ⟨rfl, h2⟩ | ⟨g, cap, cur, rfl, r⟩
  · have : xs = [] := List.length_eq_zero_iff.1 h2
    subst this
    exact ⟨none, 0, rfl, h⟩
  · exact ⟨_, _, rfl, h⟩

section
variable {α : Type} {L : Lay α} {P : Program} {w : World}

theorem run_app {t e : TypeId} {z : Value} {bytes : Nat} (hrow : TyRow P t e z L.sz bytes) (hz : z.cells.size = L.sz) (ty : TypeId) {base c : Nat} {A : Option Addr} {xs : List α} (hown : Own L e w base A c xs)
    (ao : Option Addr) (m cc : Nat) (news : List α) (hm : news.length = m) (hao : ao = none → m = 0 ∧ cc = 0) (hnews : ∀ ad, ao = some ad → ∀ j u, (news.flatMap L.f)[j]? = some u → w.cell? (ad.add j) = some u)
    (h63 : xs.length + m ≤ maxLen) (hbytes : (xs.length + m) * bytes ≤ 140737488355328) (hbase : base ≤ w.heap.size) :
    ∃ A' c' w', (Builtin.append_ #[t, t] ty #[.slice A xs.length c, .slice ao m cc]).run P w = .ok (.slice A' (xs ++ news).length c') w' ∧ Own L e w' base A' c' (xs ++ news) ∧ Grew w w' A A' := by
  obtain ⟨ht, hinfo⟩ := hrow
  obtain ⟨i, hi, hz0, hz1, hz2⟩ := info_parts hinfo
  subst hm
  have hl : (news.flatMap L.f).length = news.length * L.sz := flat_len L news
  have h1 : ∀ u ∈ news.flatMap L.f, u.oneCell' = true := by
    intro u hu
    obtain ⟨x, _, hx⟩ := List.mem_flatMap.1 hu
    exact L.one x u hx
  cases ao with
  | none =>
    obtain ⟨h0, rfl⟩ := hao rfl
    have h0' : news = [] := List.length_eq_zero_iff.1 h0
    subst h0'
    refine ⟨A, c, w, ?_, by simpa using hown, ⟨rfl, rfl, rfl, Nat.le_refl _, fun _ _ _ => rfl, .inl rfl⟩⟩
    simpa using run_append_owned_none (P := P) (w := w) base t ty e i L.sz ht hi _ _ _ hown
  | some ad =>
    have hnews' := hnews ad rfl
    by_cases hroom : xs.length + news.length ≤ c
    · rcases hown.parts with ⟨rfl, rfl, rfl⟩ | ⟨g, cur, rfl, hbg, hlt, hh, r⟩
      · have h0 : news = [] := by simpa using hroom
        subst h0
        obtain ⟨v', w', hrun, r1, r2, r3⟩ := run_append_own (P := P) w base t ty e i z L.sz bytes ht hi hz0 hz1 hz2 hz L.pos (.slice none 0 0) 0 [] (World.ownsRow_nil _ _ _ _) ad 0 cc [] (by simp) (by simp) (by simp) (by simp) (by simp) hbase
        obtain rfl := r3.2 ⟨rfl, rfl⟩
        exact ⟨none, 0, w', by simpa using hrun, Own.none_, ⟨r2.os, r2.tape, r2.output, r2.size, fun k hk _ => r2.block k hk (by simp [Value.ownBlock]), .inl rfl⟩⟩
      · obtain ⟨w', hrun, r1, r2⟩ := run_append_fits (P := P) (w := w) base t ty e i L.sz ht hi hz1 g xs.length c _ hown ad news.length cc _ hl hnews' h1 hroom
        rw [← List.flatMap_append] at r1
        refine ⟨_, c, w', ?_, ?_, ⟨r2.os, r2.tape, r2.output, r2.size, r2.block, .inl rfl⟩⟩
        · rw [hrun, List.length_append]
        · unfold Own; rw [List.length_append]; exact r1
    · have hn : A = none → xs.length = 0 ∧ c = 0 := by
        rintro rfl
        rcases hown.parts with ⟨_, rfl, rfl⟩ | ⟨g, _, h, _⟩
        · exact ⟨rfl, rfl⟩
        · cases h
      cases A with
      | none =>
        obtain ⟨h0, rfl⟩ := hn rfl
        have h0' : xs = [] := List.length_eq_zero_iff.1 h0
        subst h0'
        obtain ⟨v', w', hrun, r1, r2, _⟩ := run_append_own (P := P) w w.heap.size t ty e i z L.sz bytes ht hi hz0 hz1 hz2 hz L.pos (.slice none 0 0) 0 [] (World.ownsRow_nil _ _ _ _) ad news.length cc _ hl hnews' h1 (by simpa using h63) (by simpa using hbytes) (Nat.le_refl _)
        rw [List.nil_append] at r1
        obtain ⟨A', c', rfl, hown'⟩ := own_of_rows (xs := news) r1 (by simp)
        refine ⟨A', c', w', by simpa using hrun, by simpa using hown'.lower hbase, ⟨r2.os, r2.tape, r2.output, r2.size, fun k hk _ => r2.block k hk (by simp [Value.ownBlock]), .inr fun g hg => (hown'.blk_lt g hg).1⟩⟩
      | some b =>
        have hcells : ∀ j u, (xs.flatMap L.f)[j]? = some u → w.cell? (b.add j) = some u := by
          rcases hown.parts with ⟨h, _⟩ | ⟨g, _, h, _⟩
          · cases h
          · cases h
            exact World.ownsRow.cells hown (g := g) rfl
        obtain ⟨v', w', hrun, r1, r2⟩ := run_append_arg_grows (P := P) w t ty e i z L.sz bytes ht hi hz0 hz1 hz2 hz L.pos b xs.length c _ (flat_len L xs) hcells ad news.length cc _ hl hnews' (by omega) h63 hbytes
        rw [← List.flatMap_append] at r1
        obtain ⟨A', c', rfl, hown'⟩ := own_of_rows (xs := xs ++ news) r1 (by simp)
        exact ⟨A', c', w', hrun, hown'.lower hbase, ⟨r2.os, r2.tape, r2.output, r2.size, fun k hk _ => r2.block k hk (by simp), .inr fun g hg => (hown'.blk_lt g hg).1⟩⟩

/-- 'append(out, ys...)' -/
theorem wpL_app {ops : Array Oper} {rest : List Oper} {o : Oper} {a : Act} {Q : Exit → Act → World → Prop} {t e : TypeId} {z : Value} {bytes : Nat} (hrow : TyRow P t e z L.sz bytes) (hz : z.cells.size = L.sz) (hgd : o.guard = none) (s x : Operand)
    (ho : o.op = .call { callee := .builtin .append, args := #[s, x], argTypes := #[t, t] }) {base c : Nat} {A : Option Addr} {xs : List α} (hs : a.eval s = .slice A xs.length c) (hown : Own L e w base A c xs)
    (ao : Option Addr) (m cc : Nat) (news : List α) (hx : a.eval x = .slice ao m cc) (hm : news.length = m) (hao : ao = none → m = 0 ∧ cc = 0) (hnews : ∀ ad, ao = some ad → ∀ j u, (news.flatMap L.f)[j]? = some u → w.cell? (ad.add j) = some u)
    (h63 : xs.length + m ≤ maxLen) (hbytes : (xs.length + m) * bytes ≤ 140737488355328) (hbase : base ≤ w.heap.size)
    (h : ∀ A' c' w', Own L e w' base A' c' (xs ++ news) → Grew w w' A A' → wpList P ops Q rest (a.put o.dst (.slice A' (xs ++ news).length c')) w') : wpList P ops Q (o :: rest) a w := by
  refine wpList_plain hgd fun K hK => ?_
  obtain ⟨A', c', w', hrun, h1, h2⟩ := run_app (w := w) hrow hz o.type hown ao m cc news hm hao hnews h63 hbytes hbase
  unfold Oper.wp
  simp only [execOp, ho]
  simp [resolve, invoke, builtin, hs, hx, hrun, Result.andThen]
  have := hK _ _ (h A' c' w' h1 h2)
  rw [List.length_append] at this
  exact this

/-- 'append(out, x)': x has been laid in a new block first: the world is w.alloc .. -/
theorem wpL_app1 {ops : Array Oper} {rest : List Oper} {o : Oper} {a : Act} {Q : Exit → Act → World → Prop} {t e : TypeId} {z : Value} {bytes : Nat} (hrow : TyRow P t e z L.sz bytes) (hz : z.cells.size = L.sz) (hgd : o.guard = none) (s x : Operand)
    (ho : o.op = .call { callee := .builtin .append, args := #[s, x], argTypes := #[t, t] }) {base c : Nat} {A : Option Addr} {xs : List α} (hs : a.eval s = .slice A xs.length c) (hown : Own L e w base A c xs)
    (u : α) (cs : Array Value) (hcs : cs.toList = L.f u) {g : Nat} (hx : a.eval x = .slice (some ⟨g, 0, none⟩) 1 1) (hgw : g = w.heap.size)
    (h63 : xs.length + 1 ≤ maxLen) (hbytes : (xs.length + 1) * bytes ≤ 140737488355328) (hbase : base ≤ w.heap.size)
    (h : ∀ A' c' w', Own L e w' base A' c' (xs ++ [u]) → Grew w w' A A' → wpList P ops Q rest (a.put o.dst (.slice A' (xs.length + 1) c')) w') : wpList P ops Q (o :: rest) a (w.alloc (.cells cs e)) := by
  subst hgw
  refine wpL_app (w := w.alloc (.cells cs e)) hrow hz hgd s x ho hs (hown.alloc _) (some ⟨w.heap.size, 0, none⟩) 1 1 [u] hx rfl (fun h => by cases h) ?_ h63 hbytes (by simp; omega) ?_
  · intro ad had j v hv
    cases had
    rw [add_lit, World.cell?_alloc_at (hn := rfl)]
    simp only [List.flatMap_cons, List.flatMap_nil, List.append_nil, ← hcs] at hv
    simpa using hv
  · intro A' c' w' h1 h2
    have := h A' c' w' h1 ⟨h2.os, h2.tape, h2.output, by have := h2.size; simp at this; omega, fun k hk hne => (h2.block k (by simp; omega) hne).trans (Below.heap_alloc w _ k hk), h2.place.imp_right fun hp g hg => by have := hp g hg; simp at this; omega⟩
    simpa using this

theorem Grew.drawn {w w' : World} {A A' : Option Addr} {n : Nat} (h : Grew (w.drewN n) w' A A') : Grew w w' A A' := ⟨h.os, h.tape, h.output, h.size, h.block, h.place⟩
/-- the same behind draws: the world is (w.alloc ..).drew -/
theorem wpL_app1d {ops : Array Oper} {rest : List Oper} {o : Oper} {a : Act} {Q : Exit → Act → World → Prop} {t e : TypeId} {z : Value} {bytes : Nat} (hrow : TyRow P t e z L.sz bytes) (hz : z.cells.size = L.sz) (hgd : o.guard = none) (s x : Operand)
    (ho : o.op = .call { callee := .builtin .append, args := #[s, x], argTypes := #[t, t] }) {base c : Nat} {A : Option Addr} {xs : List α} (hs : a.eval s = .slice A xs.length c) (hown : Own L e w base A c xs)
    (u : α) (cs : Array Value) (hcs : cs.toList = L.f u) {g : Nat} (hx : a.eval x = .slice (some ⟨g, 0, none⟩) 1 1) (hgw : g = w.heap.size)
    (h63 : xs.length + 1 ≤ maxLen) (hbytes : (xs.length + 1) * bytes ≤ 140737488355328) (hbase : base ≤ w.heap.size)
    (h : ∀ A' c' w', Own L e w' base A' c' (xs ++ [u]) → Grew w w' A A' → wpList P ops Q rest (a.put o.dst (.slice A' (xs.length + 1) c')) w') : wpList P ops Q (o :: rest) a (w.alloc (.cells cs e)).drew :=
  wpL_app1 (w := w.drew) hrow hz hgd s x ho hs hown u cs hcs hx hgw h63 hbytes hbase fun A' c' w' h1 h2 => h A' c' w' h1 ⟨h2.os, h2.tape, h2.output, h2.size, h2.block, h2.place⟩
theorem wpL_app1n {ops : Array Oper} {rest : List Oper} {o : Oper} {a : Act} {Q : Exit → Act → World → Prop} {t e : TypeId} {z : Value} {bytes : Nat} (n : Nat) (hrow : TyRow P t e z L.sz bytes) (hz : z.cells.size = L.sz) (hgd : o.guard = none) (s x : Operand)
    (ho : o.op = .call { callee := .builtin .append, args := #[s, x], argTypes := #[t, t] }) {base c : Nat} {A : Option Addr} {xs : List α} (hs : a.eval s = .slice A xs.length c) (hown : Own L e w base A c xs)
    (u : α) (cs : Array Value) (hcs : cs.toList = L.f u) {g : Nat} (hx : a.eval x = .slice (some ⟨g, 0, none⟩) 1 1) (hgw : g = w.heap.size)
    (h63 : xs.length + 1 ≤ maxLen) (hbytes : (xs.length + 1) * bytes ≤ 140737488355328) (hbase : base ≤ w.heap.size)
    (h : ∀ A' c' w', Own L e w' base A' c' (xs ++ [u]) → Grew w w' A A' → wpList P ops Q rest (a.put o.dst (.slice A' (xs.length + 1) c')) w') : wpList P ops Q (o :: rest) a ((w.alloc (.cells cs e)).drewN n) :=
  wpL_app1 (w := w.drewN n) hrow hz hgd s x ho hs hown u cs hcs hx hgw h63 hbytes hbase fun A' c' w' h1 h2 => h A' c' w' h1 ⟨h2.os, h2.tape, h2.output, h2.size, h2.block, h2.place⟩

theorem wpL_make {ops : Array Oper} {rest : List Oper} {o : Oper} {a : Act} {Q : Exit → Act → World → Prop} {t e : TypeId} {z : Value} {bytes : Nat} (hrow : TyRow P t e z L.sz bytes) (hgd : o.guard = none) (l c : Operand) (hop : o.op = Op.makeSlice t l c)
    (kl kc : IntKind) (N C : Int) (n : Nat) (hl : a.eval l = .int kl N) (hc : a.eval c = .int kc C) (hN : N = (n : Int)) (hC : C = (n : Int)) (b2 : bytes * n ≤ 281474976710656) (h63 : n ≤ maxLen) (z0 : α) (hz0 : z.cells.toList = L.f z0)
    (h : ∀ w', Own L e w' w.heap.size (some ⟨w.heap.size, 0, none⟩) n (List.replicate n z0) → Below w.heap.size w w' → wpList P ops Q rest (a.put o.dst (.slice (some ⟨w.heap.size, 0, none⟩) n n)) w') : wpList P ops Q (o :: rest) a w := by
  obtain ⟨ht, hinfo⟩ := hrow
  obtain ⟨i, hi, hz1, hz2, hz3⟩ := info_parts hinfo
  subst hz3
  refine wpList_make_full w hgd l c t hop w.heap.size e i z L.sz ht hi hz1 hz2 kl kc N C n hl hc hN hC b2 h63 (Nat.le_refl _) ?_
  intro w' h1 h2
  refine h w' ?_ ((Below.refl _ _).grown h2 (Nat.le_refl _) (fun k hk => by cases hk))
  unfold Own
  rw [List.length_replicate]
  have e : (madeCells z.cells (n * L.sz)).toList = (List.replicate n z0).flatMap L.f := by
    have hzl : z.cells.size = L.sz := by rw [← Array.length_toList, hz0, L.len]
    apply List.ext_getElem?
    intro j
    by_cases hj : j < n * L.sz
    · have hdiv : j / L.sz < n := Nat.div_lt_of_lt_mul (by rw [Nat.mul_comm]; exact hj)
      have hmod : j % L.sz < L.sz := Nat.mod_lt _ L.pos
      have hjj : j = (j / L.sz) * L.sz + j % L.sz := by rw [Nat.mul_comm]; exact (Nat.div_add_mod j L.sz).symm
      have hlen : (j % L.sz) < (L.f z0).length := by rw [L.len]; exact hmod
      have hr := flat_get L (List.replicate n z0) (j / L.sz) (by simpa using hdiv) (j % L.sz) ((L.f z0)[j % L.sz]) (by simp)
      rw [← hjj] at hr
      rw [hr]
      have : (L.f z0)[j % L.sz] = z.cells[j % L.sz]'(by rw [hzl]; exact hmod) := by
        simp only [← hz0, Array.getElem_toList]
      rw [this]
      simp only [madeCells, Array.toList_map, Array.toList_range, List.getElem?_map, List.getElem?_range hj, Option.map_some, hzl]
      rw [getElem!_pos z.cells (j % L.sz) (by rw [hzl]; exact hmod)]
    · rw [List.getElem?_eq_none (by simp [size_madeCells]; omega), List.getElem?_eq_none (by rw [flat_len]; simp; omega)]
  rw [e] at h1
  exact h1
end
/-- '[]T{}' -/
theorem Own.lit0 {α : Type} {L : Lay α} {T : TypeId} (w : World) {base g : Nat} (hb : base ≤ w.heap.size) (hg : g = w.heap.size) : Own L T (w.alloc (.cells #[] T)) base (some ⟨g, 0, none⟩) 0 ([] : List α) := by
  subst hg
  exact World.ownsRow_made w #[] 0 hb (Nat.zero_le _) (by simp)
/-- '[]T{x, ..}' -/
theorem Own.lit {α : Type} {L : Lay α} {T : TypeId} (w : World) {base g : Nat} (hb : base ≤ w.heap.size) (hg : g = w.heap.size) (xs : List α) (cs : Array Value) (n : Nat) (hn : n = xs.length) (hm : n ≤ maxLen) (hcs : cs.toList = xs.flatMap L.f) : Own L T (w.alloc (.cells cs T)) base (some ⟨g, 0, none⟩) n xs := by
  subst hn
  subst hg
  have := World.ownsRow_lit (base := base) (e := T) (size := L.sz) w cs xs.length hb hm (by rw [← Array.length_toList, hcs, flat_len])
  rw [hcs] at this
  exact this
end Go.Proofs.YtiefiikheaiekaaDoor
/-
  Slices of slices: rows with their places (Row), read (RdR) or the call's own (OwnR), over any program.
-/
namespace Go.Proofs.YtiefiikheaiekaaDoor
open Go.ChangeShapes Go.WideShapes Go.RowKit

/-- two rows share no block -/
def Ap (A A2 : Option Addr) : Prop := ∀ g, blk A = some g → blk A2 ≠ some g
theorem Ap.symm {A A2 : Option Addr} (h : Ap A A2) : Ap A2 A := fun g h2 h1 => h g h1 h2
theorem Ap.none_ {A : Option Addr} : Ap none A := fun g h => by cases h
theorem Ap.of_lt {A A2 : Option Addr} {b : Nat} (h1 : ∀ g, blk A = some g → g < b) (h2 : ∀ g, blk A2 = some g → b ≤ g) : Ap A A2 := fun g e1 e2 => by
  have := h1 g e1; have := h2 g e2; omega

/-- a row: its address, its capacity, what it holds -/
abbrev Row (α : Type) := Option Addr × Nat × List α
def hd {α : Type} (r : Row α) : Option Addr × Nat × Nat := (r.1, r.2.2.length, r.2.1)
def dat {α : Type} (rs : List (Row α)) : List (List α) := rs.map fun r => r.2.2
theorem dat_len {α : Type} (rs : List (Row α)) : (dat rs).length = rs.length := by simp [dat]
theorem dat_get {α : Type} (rs : List (Row α)) (i : Nat) (h : i < rs.length) : (dat rs)[i]'(by rw [dat_len]; exact h) = rs[i].2.2 := by simp [dat]
theorem dat_append {α : Type} (rs ss : List (Row α)) : dat (rs ++ ss) = dat rs ++ dat ss := by simp [dat]
theorem dat_set {α : Type} (rs : List (Row α)) (i : Nat) (r : Row α) : dat (rs.set i r) = (dat rs).set i r.2.2 := by simp [dat, List.map_set]
theorem dat_take {α : Type} (rs : List (Row α)) (i : Nat) : dat (rs.take i) = (dat rs).take i := by simp [dat, List.map_take]

structure RdR {α : Type} (Li : Lay α) (w : World) (B : Nat) (A : Option Addr) (c : Nat) (rs : List (Row α)) : Prop where
  out : Rd LV w B A c (rs.map hd)
  inn : ∀ r ∈ rs, Rd Li w B r.1 r.2.1 r.2.2

section
variable {α : Type} {Li : Lay α} {w w' : World} {B B' c : Nat} {A : Option Addr} {rs : List (Row α)}
theorem RdR.below (h : RdR Li w B A c rs) (hb : Below B w w') : RdR Li w' B A c rs := ⟨h.out.below hb, fun r hr => (h.inn r hr).below hb⟩
theorem RdR.more (h : RdR Li w B A c rs) (hB : B ≤ B') : RdR Li w B' A c rs := ⟨h.out.more hB, fun r hr => (h.inn r hr).more hB⟩
theorem RdR.al (h : RdR Li w w.heap.size A c rs) (o : Obj) : RdR Li (w.alloc o) (w.alloc o).heap.size A c rs := ⟨h.out.al o, fun r hr => (h.inn r hr).al o⟩
theorem RdR.len63 (h : RdR Li w B A c rs) : rs.length ≤ 9223372036854775807 := by have := h.out.len63; simpa using this
theorem RdR.at_ (h : RdR Li w B A c rs) {i : Nat} (hi : i < rs.length) : ∃ ad, A = some ad ∧ ad.block < B ∧ w.cell? (ad.add i) = some (.slice rs[i].1 rs[i].2.2.length rs[i].2.1) ∧ Rd Li w B rs[i].1 rs[i].2.1 rs[i].2.2 := by
  obtain ⟨ad, e, hb, hc⟩ := h.out.val (k := i) (by simpa using hi)
  refine ⟨ad, e, hb, ?_, h.inn _ (List.getElem_mem _)⟩
  simpa [hd] using hc
theorem RdR.take (h : RdR Li w B A c rs) (k : Nat) : RdR Li w B A c (rs.take k) :=
  ⟨by rw [List.map_take]; exact h.out.take k, fun r hr => h.inn r (List.mem_of_mem_take hr)⟩
end

structure OwnR {α : Type} (Li : Lay α) (T1 T2 : TypeId) (w : World) (base : Nat) (A : Option Addr) (c : Nat) (rs : List (Row α)) : Prop where
  out : Own LV T1 w base A c (rs.map hd)
  inn : ∀ r ∈ rs, Own Li T2 w base r.1 r.2.1 r.2.2
  ap : rs.Pairwise fun a b => Ap a.1 b.1

/-- rows of other element types lie in other blocks -/
theorem own_types {α β : Type} {L : Lay α} {L2 : Lay β} {T T2 : TypeId} {w : World} {base base2 c c2 : Nat} {A A2 : Option Addr} {xs : List α} {ys : List β}
    (h : Own L T w base A c xs) (h2 : Own L2 T2 w base2 A2 c2 ys) (hne : T ≠ T2) : Ap A A2 := by
  intro g h1 e2
  rcases h.parts with ⟨rfl, _⟩ | ⟨g1, cur, rfl, _, _, hh, _⟩
  · cases h1
  · rcases h2.parts with ⟨rfl, _⟩ | ⟨g2, cur2, rfl, _, _, hh2, _⟩
    · cases e2
    · simp [blk] at h1 e2
      subst h1; subst e2
      rw [hh] at hh2
      injection hh2 with hh2
      injection hh2 with _ ht
      exact hne ht

section
variable {α : Type} {Li : Lay α} {T1 T2 : TypeId} {w w' : World} {base c : Nat} {A : Option Addr} {rs : List (Row α)}
theorem OwnR.len63 (h : OwnR Li T1 T2 w base A c rs) : rs.length ≤ 9223372036854775807 := by have := h.out.len63; simpa using this
theorem OwnR.rd (h : OwnR Li T1 T2 w base A c rs) : RdR Li w w.heap.size A c rs := ⟨h.out.rd, fun r hr => (h.inn r hr).rd⟩
theorem OwnR.below (h : OwnR Li T1 T2 w base A c rs) (hb : Below w.heap.size w w') : OwnR Li T1 T2 w' base A c rs :=
  ⟨h.out.below hb, fun r hr => (h.inn r hr).below hb, h.ap⟩
theorem OwnR.lower (h : OwnR Li T1 T2 w base A c rs) {b : Nat} (hb : b ≤ base) : OwnR Li T1 T2 w b A c rs :=
  ⟨h.out.lower hb, fun r hr => (h.inn r hr).lower hb, h.ap⟩
theorem OwnR.drewN (h : OwnR Li T1 T2 w base A c rs) (n : Nat) : OwnR Li T1 T2 (w.drewN n) base A c rs := ⟨h.out, h.inn, h.ap⟩
theorem OwnR.none_ : OwnR Li T1 T2 w base none 0 ([] : List (Row α)) := ⟨Own.none_, (fun r hr => by cases hr), List.Pairwise.nil⟩
/-- all its blocks are from base on -/
theorem OwnR.keepBlk (h : OwnR Li T1 T2 w base A c rs) (h0 : ∀ g, blk A = some g → w'.heap[g]? = w.heap[g]?) (h1 : ∀ r ∈ rs, ∀ g, blk r.1 = some g → w'.heap[g]? = w.heap[g]?) : OwnR Li T1 T2 w' base A c rs :=
  ⟨h.out.keepBlk h0, fun r hr => (h.inn r hr).keepBlk (h1 r hr), h.ap⟩
theorem OwnR.keep (h : OwnR Li T1 T2 w base A c rs) {B : Nat} (hb : Below B w w') (h0 : ∀ g, blk A = some g → g < B) (h1 : ∀ r ∈ rs, ∀ g, blk r.1 = some g → g < B) : OwnR Li T1 T2 w' base A c rs :=
  h.keepBlk (fun g hg => hb.block g (h0 g hg)) fun r hr g hg => hb.block g (h1 r hr g hg)
theorem OwnR.apart (h : OwnR Li T1 T2 w base A c rs) {i j : Nat} (hi : i < rs.length) (hj : j < rs.length) (hne : i ≠ j) : Ap rs[i].1 rs[j].1 := by
  rcases Nat.lt_or_gt_of_ne hne with hlt | hlt
  · exact List.pairwise_iff_getElem.1 h.ap i j hi hj hlt
  · exact (List.pairwise_iff_getElem.1 h.ap j i hj hi hlt).symm
theorem pair_set {rs : List (Row α)} (h : rs.Pairwise fun a b => Ap a.1 b.1) (i : Nat) (r : Row α) (hr : ∀ j (hj : j < rs.length), j ≠ i → Ap rs[j].1 r.1) : (rs.set i r).Pairwise fun a b => Ap a.1 b.1 := by
  rw [List.pairwise_iff_getElem] at h ⊢
  intro a b ha hb hab
  simp only [List.length_set] at ha hb
  rw [List.getElem_set, List.getElem_set]
  by_cases h1 : i = a
  · subst h1
    rw [if_pos rfl, if_neg (by omega)]
    exact (hr b hb (by omega)).symm
  · rw [if_neg h1]
    by_cases h2 : i = b
    · subst h2
      rw [if_pos rfl]
      exact hr a ha (fun e => h1 e.symm)
    · rw [if_neg h2]
      exact h a b ha hb hab
/-- the cell of row i in the outer row, and the row -/
theorem OwnR.at_ (h : OwnR Li T1 T2 w base A c rs) {i : Nat} (hi : i < rs.length) :
    ∃ g, A = some ⟨g, 0, none⟩ ∧ base ≤ g ∧ g < w.heap.size ∧ w.cell? ⟨g, i, none⟩ = some (.slice rs[i].1 rs[i].2.2.length rs[i].2.1) ∧ w.frozen? ⟨g, i, none⟩ = false ∧ Own Li T2 w base rs[i].1 rs[i].2.1 rs[i].2.2 := by
  obtain ⟨g, e, hb, hl, hc, hf⟩ := h.out.val (k := i) (by simpa using hi)
  exact ⟨g, e, hb, hl, by simpa [hd] using hc, hf, h.inn _ (List.getElem_mem _)⟩
/-- row i is replaced by another one, that shares no block with the rest: 'out[i] = row' -/
theorem OwnR.setRow {g : Nat} (h : OwnR Li T1 T2 w base (some ⟨g, 0, none⟩) c rs) (hT : T1 ≠ T2) (i : Nat) (r : Row α) (hr : Own Li T2 w base r.1 r.2.1 r.2.2) (hap : ∀ j (hj : j < rs.length), j ≠ i → Ap rs[j].1 r.1) :
    OwnR Li T1 T2 (w.setCell ⟨g, i, none⟩ (.slice r.1 r.2.2.length r.2.1)) base (some ⟨g, 0, none⟩) c (rs.set i r) := by
  have hg : ∀ {s : Row α}, Own Li T2 w base s.1 s.2.1 s.2.2 → Own Li T2 (w.setCell ⟨g, i, none⟩ (.slice r.1 r.2.2.length r.2.1)) base s.1 s.2.1 s.2.2 := by
    intro s hs
    refine hs.setFar (fun e => ?_) _
    exact own_types h.out hs hT g rfl e
  refine ⟨?_, ?_, pair_set h.ap i r hap⟩
  · rw [List.map_set]
    exact h.out.setVal i (hd r)
  · intro s hs
    rcases List.mem_or_eq_of_mem_set hs with hm | rfl
    · exact hg (h.inn s hm)
    · exact hg hr
end
/-- one more row -/
theorem OwnR.snoc {α : Type} {Li : Lay α} {T1 T2 : TypeId} {w w' : World} {base c c' : Nat} {A A' : Option Addr} {rs : List (Row α)} {r : Row α} (h : OwnR Li T1 T2 w base A c rs) (hT : T1 ≠ T2)
    (hr : Own Li T2 w base r.1 r.2.1 r.2.2) (hap : ∀ s ∈ rs, Ap s.1 r.1) (hout : Own LV T1 w' base A' c' (rs.map hd ++ [hd r])) (hg : Grew w w' A A') : OwnR Li T1 T2 w' base A' c' (rs ++ [r]) := by
  have hk : ∀ {s : Row α}, Own Li T2 w base s.1 s.2.1 s.2.2 → Own Li T2 w' base s.1 s.2.1 s.2.2 := by
    intro s hs
    exact (Grew.own hg hs fun g hs' e => own_types h.out hs hT g e hs').1
  refine ⟨by simpa using hout, ?_, ?_⟩
  · intro s hs
    rcases List.mem_append.1 hs with hm | hm
    · exact hk (h.inn s hm)
    · simp at hm; subst hm; exact hk hr
  · rw [List.pairwise_append]
    refine ⟨h.ap, by simp, fun a ha b hb => ?_⟩
    simp at hb; subst hb
    exact hap a ha
/-- a number in row i is replaced: 'out[i][k] = x' -/
theorem OwnR.setInt {T1 T2 : TypeId} {w : World} {base c : Nat} {A : Option Addr} {rs : List (Row Int)} (h : OwnR LI T1 T2 w base A c rs) (hT : T1 ≠ T2) {i : Nat} (hi : i < rs.length) {g : Nat} (hA : rs[i].1 = some ⟨g, 0, none⟩) (k : Nat) (x : Int) :
    OwnR LI T1 T2 (w.setCell ⟨g, k, none⟩ (.int .i64 x)) base A c (rs.set i (rs[i].1, rs[i].2.1, rs[i].2.2.set k x)) := by
  have hri := h.inn _ (List.getElem_mem hi)
  refine ⟨?_, ?_, pair_set h.ap i _ fun j hj hne => h.apart hj hi hne⟩
  · have e : (rs.set i (rs[i].1, rs[i].2.1, rs[i].2.2.set k x)).map hd = rs.map hd := by
      rw [List.map_set]
      have : hd (rs[i].1, rs[i].2.1, rs[i].2.2.set k x) = (rs.map hd)[i]'(by simpa using hi) := by simp [hd]
      rw [this, List.set_getElem_self]
    rw [e]
    exact h.out.setFar (fun e' => own_types h.out hri hT g e' (by rw [hA]; rfl)) _
  · intro s hs
    obtain ⟨j, hj, rfl⟩ := List.mem_iff_getElem.1 hs
    simp only [List.length_set] at hj
    rw [List.getElem_set]
    by_cases hij : i = j
    · subst hij
      rw [if_pos rfl]
      show Own LI T2 _ base rs[i].1 rs[i].2.1 (rs[i].2.2.set k x)
      rw [hA] at hri ⊢
      exact hri.setInt k x
    · rw [if_neg hij]
      refine (h.inn _ (List.getElem_mem hj)).setFar (fun e' => ?_) _
      exact h.apart hi hj hij g (by rw [hA]; rfl) e'

/-- but for blocks of S (and new ones) the heap is as it was -/
structure Kept (S : Nat → Prop) (w w' : World) : Prop where
  os : w'.os = w.os
  tape : w'.tape = w.tape
  output : w'.output = w.output
  size : w.heap.size ≤ w'.heap.size
  block : ∀ b, b < w.heap.size → ¬ S b → w'.heap[b]? = w.heap[b]?
theorem Kept.refl (S : Nat → Prop) (w : World) : Kept S w w := ⟨rfl, rfl, rfl, Nat.le_refl _, fun _ _ _ => rfl⟩
theorem Kept.trans {S : Nat → Prop} {w w1 w2 : World} (h : Kept S w w1) (h2 : Kept S w1 w2) : Kept S w w2 :=
  ⟨h2.os.trans h.os, h2.tape.trans h.tape, h2.output.trans h.output, Nat.le_trans h.size h2.size, fun b hb hs => (h2.block b (Nat.lt_of_lt_of_le hb h.size) hs).trans (h.block b hb hs)⟩
theorem Kept.mono {S S' : Nat → Prop} {w w1 : World} (h : Kept S w w1) (hs : ∀ b, S b → S' b) : Kept S' w w1 :=
  ⟨h.os, h.tape, h.output, h.size, fun b hb hn => h.block b hb fun hh => hn (hs b hh)⟩
theorem Kept.below {S : Nat → Prop} {B : Nat} {w0 w w' : World} (h : Kept S w w') (hb : Below B w0 w) (hB : B ≤ w.heap.size) (hs : ∀ b, S b → B ≤ b) : Below B w0 w' :=
  hb.trans ⟨h.os, h.tape, h.output, h.size, fun k hk => h.block k (by omega) fun hh => by have := hs k hh; omega⟩
theorem Kept.of_below {S : Nat → Prop} {w w' : World} (h : Below w.heap.size w w') : Kept S w w' := ⟨h.os, h.tape, h.output, h.size, fun b hb _ => h.block b hb⟩
theorem Kept.own {α : Type} {L : Lay α} {T : TypeId} {S : Nat → Prop} {w w' : World} {base c : Nat} {A : Option Addr} {xs : List α} (h : Kept S w w') (ho : Own L T w base A c xs) (hs : ∀ g, blk A = some g → ¬ S g) : Own L T w' base A c xs :=
  ho.keepBlk fun g hg => h.block g (ho.blk_lt g hg).2 (hs g hg)
theorem Kept.ownR {α : Type} {L : Lay α} {T1 T2 : TypeId} {S : Nat → Prop} {w w' : World} {base c : Nat} {A : Option Addr} {rs : List (Row α)} (h : Kept S w w') (ho : OwnR L T1 T2 w base A c rs)
    (h0 : ∀ g, blk A = some g → ¬ S g) (h1 : ∀ r ∈ rs, ∀ g, blk r.1 = some g → ¬ S g) : OwnR L T1 T2 w' base A c rs :=
  ⟨h.own ho.out h0, fun r hr => h.own (ho.inn r hr) (h1 r hr), ho.ap⟩
/-- row i has been written in place -/
theorem OwnR.inRow {α : Type} {Li : Lay α} {T1 T2 : TypeId} {w w' : World} {base c : Nat} {A : Option Addr} {rs : List (Row α)} (h : OwnR Li T1 T2 w base A c rs) (hT : T1 ≠ T2) {i : Nat} (hi : i < rs.length) (ys : List α) (hlen : ys.length = rs[i].2.2.length)
    (hown : Own Li T2 w' base rs[i].1 rs[i].2.1 ys) (hk : Kept (fun b => blk rs[i].1 = some b) w w') : OwnR Li T1 T2 w' base A c (rs.set i (rs[i].1, rs[i].2.1, ys)) := by
  have hri := h.inn _ (List.getElem_mem hi)
  refine ⟨?_, ?_, pair_set h.ap i _ fun j hj hne => h.apart hj hi hne⟩
  · have e : (rs.set i (rs[i].1, rs[i].2.1, ys)).map hd = rs.map hd := by
      rw [List.map_set]
      have : hd (rs[i].1, rs[i].2.1, ys) = (rs.map hd)[i]'(by simpa using hi) := by simp [hd, hlen]
      rw [this, List.set_getElem_self]
    rw [e]
    exact hk.own h.out fun g hg e' => own_types h.out hri hT g hg e'
  · intro s hs
    obtain ⟨j, hj, rfl⟩ := List.mem_iff_getElem.1 hs
    simp only [List.length_set] at hj
    rw [List.getElem_set]
    by_cases hij : i = j
    · subst hij
      rw [if_pos rfl]
      exact hown
    · rw [if_neg hij]
      exact hk.own (h.inn _ (List.getElem_mem hj)) fun g hg e' => h.apart hi hj hij g e' hg
/-- where its blocks lie -/
theorem OwnR.blk_lt {α : Type} {Li : Lay α} {T1 T2 : TypeId} {w : World} {base c : Nat} {A : Option Addr} {rs : List (Row α)} (h : OwnR Li T1 T2 w base A c rs) :
    (∀ g, blk A = some g → base ≤ g ∧ g < w.heap.size) ∧ ∀ r ∈ rs, ∀ g, blk r.1 = some g → base ≤ g ∧ g < w.heap.size :=
  ⟨h.out.blk_lt, fun r hr => (h.inn r hr).blk_lt⟩
end Go.Proofs.YtiefiikheaiekaaDoor
