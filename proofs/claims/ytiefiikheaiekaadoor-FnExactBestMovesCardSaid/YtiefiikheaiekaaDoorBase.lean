/-
  Words for memory, over any program: a slice that reads as a list (Rd), a slice of the call's own (Own), append and make as laws on these.
-/
import Derived.WalkKit
import Derived.WalkLawsBesides
import Derived.WalkSpells
import Derived.Lib.Hide
import Derived.Outline
import Derived.Laws.OwnMore
import Derived.Laws.MakeOwn
import Derived.Laws.AppendOwnNone
import Derived.Deep.AppendLies
import Derived.Deep.Draws
import Derived.Deep.LoopGhost
import Derived.OwnWalk
import Derived.ArgAppend
namespace Go.Proofs.YtiefiikheaiekaaDoor
open Go.ChangeShapes Go.WideShapes Go.RowKit

theorem ret_int {k : IntKind} {a b : Int} (h : a = b) : Ending.returned (.int k a) = .returned (.int k b) := by rw [h]
theorem ret_ii {k k' : IntKind} {a b a' b' : Int} (h : a = a') (h' : b = b') : Ending.returned (.tuple #[.int k a, .int k' b]) = .returned (.tuple #[.int k a', .int k' b']) := by rw [h, h']
theorem ret_bool {a b : Bool} (h : a = b) : Ending.returned (.bool a) = .returned (.bool b) := by rw [h]

theorem block_of_add (a : Addr) (n : Nat) : (a.add n).block = a.block := by unfold Addr.add; split <;> rfl
theorem add_of_add (a : Addr) (i j : Nat) : (a.add i).add j = a.add (i + j) := by
  unfold Addr.add
  by_cases hi : i = 0 <;> by_cases hj : j = 0 <;> simp [hi, hj, Nat.add_assoc]
theorem add_lit (g k : Nat) : (⟨g, 0, none⟩ : Addr).add k = ⟨g, k, none⟩ := by unfold Addr.add; split <;> simp_all

/-- two steps: the second from the heap as the first left it -/
theorem bthen {B : Nat} {w w1 w2 : World} (h : Below B w w1) (hB : B ≤ w.heap.size) (h1 : Below w1.heap.size w1 w2) : Below B w w2 :=
  h.trans (h1.mono (by have := h.size; omega))
theorem bcell {W w1 : World} (hb : Below W.heap.size W w1) : (∀ b o, b < W.heap.size → w1.cell? ⟨b, o, none⟩ = W.cell? ⟨b, o, none⟩) ∧ (∀ b o, b < W.heap.size → w1.frozen? ⟨b, o, none⟩ = W.frozen? ⟨b, o, none⟩) :=
  ⟨fun b o h => hb.cell (p := ⟨b, o, none⟩) h, fun b o h => hb.frozen (p := ⟨b, o, none⟩) h⟩
theorem below_drewN {B : Nat} {a w : World} (h : Below B a w) (n : Nat) : Below B a (w.drewN n) := ⟨h.os, h.tape, h.output, h.size, h.block⟩
theorem below_heap {B : Nat} {w w' : World} (hb : Below B w w') {g : Nat} (hg : g < B) : w'.heap[g]? = w.heap[g]? := hb.block g hg

/-- nothing but draws -/
def Dr (w w' : World) : Prop := ∃ n, w' = w.drewN n
theorem Dr.refl (w : World) : Dr w w := ⟨0, rfl⟩
theorem Dr.step {w w' : World} (h : Dr w w') (n : Nat) : Dr w (w'.drewN n) := by
  obtain ⟨m, rfl⟩ := h
  exact ⟨m + n, by rw [World.drewN_drewN]⟩
theorem Dr.below {w w' : World} (h : Dr w w') {B : Nat} : Below B w w' := by
  obtain ⟨m, rfl⟩ := h
  exact below_drewN (Below.refl _ _) m
theorem Dr.trans {w w1 w2 : World} (h : Dr w w1) (h2 : Dr w1 w2) : Dr w w2 := by
  obtain ⟨n, rfl⟩ := h2
  exact h.step n

theorem quiet_left {P : Program} {f : FuncId} {args : Array Value} {w : World} {n : Nat} {v : Value}
    (h : Calls P f args (w.drewN n) fun e w' => e = .returned v ∧ w.drewN n = w') : Calls P f args (w.drewN n) fun e w'' => e = .returned v ∧ ∃ m, w'' = w.drewN m :=
  h.mono fun _ _ ⟨he, hm⟩ => ⟨he, n, hm.symm⟩
theorem quiet_dr {P : Program} {f : FuncId} {args : Array Value} {w : World} {n : Nat} {v : Value}
    (h : Calls P f args (w.drewN n) fun e w' => e = .returned v ∧ Dr (w.drewN n) w') : Calls P f args (w.drewN n) fun e w'' => e = .returned v ∧ ∃ m, w'' = w.drewN m :=
  h.mono fun _ _ ⟨he, m, hm⟩ => ⟨he, n + m, by rw [hm, World.drewN_drewN]⟩

/-- how an element lies in memory -/
structure Lay (α : Type) where
  sz : Nat
  f : α → List Value
  len : ∀ x, (f x).length = sz
  pos : 0 < sz
  one : ∀ x, ∀ u ∈ f x, u.oneCell' = true

def LI : Lay Int := ⟨1, fun x => [.int .i64 x], fun _ => rfl, by decide, fun x u hu => by simp at hu; subst hu; rfl⟩
def LB : Lay Bool := ⟨1, fun x => [.bool x], fun _ => rfl, by decide, fun x u hu => by simp at hu; subst hu; rfl⟩
def LS : Lay ByteArray := ⟨1, fun x => [.string x], fun _ => rfl, by decide, fun x u hu => by simp at hu; subst hu; rfl⟩
/-- slices as elements: address, length, capacity -/
def LV : Lay (Option Addr × Nat × Nat) := ⟨1, fun x => [.slice x.1 x.2.1 x.2.2], fun _ => rfl, by decide, fun x u hu => by simp at hu; subst hu; rfl⟩

theorem flat_len {α : Type} (L : Lay α) (xs : List α) : (xs.flatMap L.f).length = xs.length * L.sz := by
  induction xs with
  | nil => simp
  | cons x xs ih => simp [ih, L.len, Nat.add_mul]; omega
theorem flat_get {α : Type} (L : Lay α) (xs : List α) (i : Nat) (h : i < xs.length) (j : Nat) (u : Value) (hu : (L.f xs[i])[j]? = some u) : (xs.flatMap L.f)[i * L.sz + j]? = some u := by
  induction xs generalizing i with
  | nil => simp at h
  | cons x xs ih =>
    have hjl : j < L.sz := by
      have := (List.getElem?_eq_some_iff.1 hu).1
      rwa [L.len] at this
    cases i with
    | zero =>
      simp only [List.getElem_cons_zero] at hu
      simp only [List.flatMap_cons, Nat.zero_mul, Nat.zero_add]
      rw [List.getElem?_append_left (by rw [L.len]; exact hjl)]
      exact hu
    | succ i =>
      simp only [List.getElem_cons_succ] at hu
      have := ih i (by simpa using h) hu
      simp only [List.flatMap_cons]
      rw [List.getElem?_append_right (by rw [L.len, Nat.add_mul]; omega), L.len]
      rw [← this]
      congr 1
      rw [Nat.add_mul]; omega
theorem flat_take {α : Type} (L : Lay α) (xs : List α) (k : Nat) : (xs.take k).flatMap L.f = (xs.flatMap L.f).take (k * L.sz) := by
  induction xs generalizing k with
  | nil => simp
  | cons x xs ih =>
    cases k with
    | zero => simp
    | succ k =>
      simp only [List.take_succ_cons, List.flatMap_cons, ih]
      rw [List.take_append, L.len, List.take_of_length_le (i := (k + 1) * L.sz) (by rw [L.len, Nat.add_mul]; omega)]
      congr 2
      rw [Nat.add_mul]; omega

/-- the slice (A, xs.length, c) reads as xs, and lies below block B -/
structure Rd {α : Type} (L : Lay α) (w : World) (B : Nat) (A : Option Addr) (c : Nat) (xs : List α) : Prop where
  le : xs.length ≤ c
  cap : c ≤ maxLen
  at_ : ∀ i (h : i < xs.length), ∃ ad, A = some ad ∧ ad.block < B ∧ ∀ j u, (L.f xs[i])[j]? = some u → w.cell? (ad.add (i * L.sz + j)) = some u

section
variable {α : Type} {L : Lay α} {w w' : World} {B B' c : Nat} {A : Option Addr} {xs : List α}
theorem Rd.len63 (h : Rd L w B A c xs) : xs.length ≤ 9223372036854775807 := by have := h.le; have := h.cap; unfold maxLen at this; omega
theorem Rd.keep (h : Rd L w B A c xs) (hk : ∀ p : Addr, p.block < B → w'.cell? p = w.cell? p) : Rd L w' B A c xs :=
  ⟨h.le, h.cap, fun i hi => by
    obtain ⟨ad, e, hb, hc⟩ := h.at_ i hi
    exact ⟨ad, e, hb, fun j u hu => (hk _ (by rw [block_of_add]; exact hb)).trans (hc j u hu)⟩⟩
theorem Rd.more (h : Rd L w B A c xs) (hB : B ≤ B') : Rd L w B' A c xs :=
  ⟨h.le, h.cap, fun i hi => by
    obtain ⟨ad, e, hb, hc⟩ := h.at_ i hi
    exact ⟨ad, e, by omega, hc⟩⟩
theorem Rd.below (h : Rd L w B A c xs) (hb : Below B w w') : Rd L w' B A c xs := h.keep fun _ hp => hb.cell hp
theorem Rd.drew (h : Rd L w B A c xs) : Rd L w.drew B A c xs := ⟨h.le, h.cap, h.at_⟩
theorem Rd.drewN (h : Rd L w B A c xs) (k : Nat) : Rd L (w.drewN k) B A c xs := ⟨h.le, h.cap, h.at_⟩
theorem Rd.alloc (h : Rd L w B A c xs) (hB : B ≤ w.heap.size) (o : Obj) : Rd L (w.alloc o) B A c xs := h.keep fun p hp => World.cell?_alloc_lt w o p (by omega)
theorem Rd.al (h : Rd L w w.heap.size A c xs) (o : Obj) : Rd L (w.alloc o) (w.alloc o).heap.size A c xs := (h.alloc (Nat.le_refl _) o).more (by simp)
theorem Rd.setCell (h : Rd L w B A c xs) {p : Addr} (hB : B ≤ p.block) (u : Value) : Rd L (w.setCell p u) B A c xs :=
  h.keep fun q hq => World.cell?_setCell_other w p q u (fun e => by subst e; omega)
theorem Rd.take (h : Rd L w B A c xs) (k : Nat) : Rd L w B A c (xs.take k) :=
  ⟨by have := h.le; simp; omega, h.cap, fun i hi => by
    have hi' : i < xs.length := by simp at hi; omega
    obtain ⟨ad, e, hb, hc⟩ := h.at_ i hi'
    exact ⟨ad, e, hb, fun j u hu => hc j u (by simpa using hu)⟩⟩
theorem Rd.nil (hc : c ≤ maxLen) : Rd L w B A c ([] : List α) := ⟨by simp, hc, fun i hi => by simp at hi⟩
end
section
variable {w : World} {B c : Nat} {A : Option Addr}
theorem Rd.int {xs : List Int} (h : Rd LI w B A c xs) {k : Nat} (hk : k < xs.length) : ∃ ad, A = some ad ∧ ad.block < B ∧ w.cell? (ad.add k) = some (.int .i64 xs[k]) := by
  obtain ⟨ad, e, hb, hc⟩ := h.at_ k hk
  have := hc 0 (.int .i64 xs[k]) rfl
  simp only [LI, Nat.mul_one, Nat.add_zero] at this
  exact ⟨ad, e, hb, this⟩
theorem Rd.bool {xs : List Bool} (h : Rd LB w B A c xs) {k : Nat} (hk : k < xs.length) : ∃ ad, A = some ad ∧ ad.block < B ∧ w.cell? (ad.add k) = some (.bool xs[k]) := by
  obtain ⟨ad, e, hb, hc⟩ := h.at_ k hk
  have := hc 0 (.bool xs[k]) rfl
  simp only [LB, Nat.mul_one, Nat.add_zero] at this
  exact ⟨ad, e, hb, this⟩
theorem Rd.str {xs : List ByteArray} (h : Rd LS w B A c xs) {k : Nat} (hk : k < xs.length) : ∃ ad, A = some ad ∧ ad.block < B ∧ w.cell? (ad.add k) = some (.string xs[k]) := by
  obtain ⟨ad, e, hb, hc⟩ := h.at_ k hk
  have := hc 0 (.string xs[k]) rfl
  simp only [LS, Nat.mul_one, Nat.add_zero] at this
  exact ⟨ad, e, hb, this⟩
theorem Rd.val {xs : List (Option Addr × Nat × Nat)} (h : Rd LV w B A c xs) {k : Nat} (hk : k < xs.length) : ∃ ad, A = some ad ∧ ad.block < B ∧ w.cell? (ad.add k) = some (.slice xs[k].1 xs[k].2.1 xs[k].2.2) := by
  obtain ⟨ad, e, hb, hc⟩ := h.at_ k hk
  have := hc 0 (.slice xs[k].1 xs[k].2.1 xs[k].2.2) rfl
  simp only [LV, Nat.mul_one, Nat.add_zero] at this
  exact ⟨ad, e, hb, this⟩
end

/-- the slice (A, xs.length, c) is the call's own: nil, or a row in a block from base on, not frozen -/
def Own {α : Type} (L : Lay α) (T : TypeId) (w : World) (base : Nat) (A : Option Addr) (c : Nat) (xs : List α) : Prop :=
  w.ownsRow base T L.sz (.slice A xs.length c) xs.length (xs.flatMap L.f)
/-- its block -/
def blk (A : Option Addr) : Option Nat := A.map (·.block)
theorem blk_own (A : Option Addr) (n c : Nat) : (Value.slice A n c).ownBlock = blk A := by cases A <;> rfl

section
variable {α : Type} {L : Lay α} {T : TypeId} {w w' : World} {base B c : Nat} {A : Option Addr} {xs : List α}
theorem Own.parts (h : Own L T w base A c xs) : (A = none ∧ xs = [] ∧ c = 0) ∨
    ∃ g cur, A = some ⟨g, 0, none⟩ ∧ base ≤ g ∧ g < w.heap.size ∧ w.heap[g]? = some (.cells cur T (0, 0)) ∧ xs.length ≤ c ∧ c ≤ maxLen ∧ cur.size = c * L.sz ∧ cur.toList.take (xs.length * L.sz) = xs.flatMap L.f := by
  rcases h.2 with ⟨h1, h2⟩ | ⟨g, cap, cur, hv, hb, hh, h3, h4, h5, h6⟩
  · simp only [Value.slice.injEq] at h1
    exact .inl ⟨h1.1, List.length_eq_zero_iff.1 h2, h1.2.2⟩
  · simp only [Value.slice.injEq] at hv
    obtain ⟨rfl, _, rfl⟩ := hv
    exact .inr ⟨g, cur, rfl, hb, (Array.getElem?_eq_some_iff.1 hh).1, hh, h3, h4, h5, h6⟩
theorem Own.le (h : Own L T w base A c xs) : xs.length ≤ c := by
  rcases h.parts with ⟨_, rfl, _⟩ | ⟨_, _, _, _, _, _, h, _⟩
  · simp
  · exact h
theorem Own.cap (h : Own L T w base A c xs) : c ≤ maxLen := by
  rcases h.parts with ⟨_, _, rfl⟩ | ⟨_, _, _, _, _, _, _, h, _⟩
  · exact Nat.zero_le _
  · exact h
theorem Own.len63 (h : Own L T w base A c xs) : xs.length ≤ 9223372036854775807 := by have := h.le; have := h.cap; unfold maxLen at this; omega
theorem Own.none_ : Own L T w base none 0 ([] : List α) := World.ownsRow_nil _ _ _ _
theorem Own.ptr (h : Own L T w base A c xs) (hn : 0 < xs.length) : ∃ g, A = some ⟨g, 0, none⟩ ∧ base ≤ g ∧ g < w.heap.size := by
  rcases h.parts with ⟨_, rfl, _⟩ | ⟨g, _, hA, hb, hlt, _⟩
  · simp at hn
  · exact ⟨g, hA, hb, hlt⟩
theorem Own.rd (h : Own L T w base A c xs) : Rd L w w.heap.size A c xs :=
  ⟨h.le, h.cap, fun i hi => by
    obtain ⟨g, rfl, hb, hlt⟩ := h.ptr (by omega)
    refine ⟨_, rfl, hlt, fun j u hu => ?_⟩
    exact World.ownsRow.cells h (g := g) rfl _ u (flat_get L xs i hi j u hu)⟩
theorem Own.blk_lt (h : Own L T w base A c xs) : ∀ g, blk A = some g → base ≤ g ∧ g < w.heap.size := by
  intro g hg
  rcases h.parts with ⟨rfl, _⟩ | ⟨g', _, rfl, hb, hlt, _⟩
  · cases hg
  · simp [blk] at hg; subst hg; exact ⟨hb, hlt⟩
theorem Own.rdB (h : Own L T w base A c xs) (hB : ∀ g, blk A = some g → g < B) : Rd L w B A c xs :=
  ⟨h.le, h.cap, fun i hi => by
    obtain ⟨ad, e, hb, hc⟩ := h.rd.at_ i hi
    exact ⟨ad, e, hB ad.block (by rw [e]; rfl), hc⟩⟩
/-- kept where its block is as it was -/
theorem Own.keepBlk (h : Own L T w base A c xs) (hb : ∀ g, blk A = some g → w'.heap[g]? = w.heap[g]?) : Own L T w' base A c xs := by
  refine ⟨h.1, ?_⟩
  rcases h.2 with h1 | ⟨g, cap, cur, hv, hbg, hh, r⟩
  · exact .inl h1
  · refine .inr ⟨g, cap, cur, hv, hbg, ?_, r⟩
    simp only [Value.slice.injEq] at hv
    rw [hb g (by rw [hv.1]; rfl)]
    exact hh
theorem Own.keep (h : Own L T w base A c xs) (hb : Below B w w') (hlt : ∀ g, blk A = some g → g < B) : Own L T w' base A c xs :=
  h.keepBlk fun g hg => hb.block g (hlt g hg)
/-- over a call -/
theorem Own.below (h : Own L T w base A c xs) (hb : Below w.heap.size w w') : Own L T w' base A c xs :=
  h.keep hb fun g hg => (h.blk_lt g hg).2
theorem Own.drew (h : Own L T w base A c xs) : Own L T w.drew base A c xs := h
theorem Own.drewN (h : Own L T w base A c xs) (k : Nat) : Own L T (w.drewN k) base A c xs := h
theorem Own.alloc (h : Own L T w base A c xs) (o : Obj) : Own L T (w.alloc o) base A c xs := World.ownsRow.alloc h o
theorem Own.setFar (h : Own L T w base A c xs) {p : Addr} (hp : blk A ≠ some p.block) (u : Value) : Own L T (w.setCell p u) base A c xs :=
  h.keepBlk fun g hg => Below.heap_setCell w p u g (fun e => hp (by rw [hg, e]))
theorem Own.lower (h : Own L T w base A c xs) {b : Nat} (hb : b ≤ base) : Own L T w b A c xs := by
  refine ⟨h.1, ?_⟩
  rcases h.2 with h1 | ⟨g, cap, cur, hv, hbg, hh, r⟩
  · exact .inl h1
  · exact .inr ⟨g, cap, cur, hv, by omega, hh, r⟩
theorem Own.raise (h : Own L T w base A c xs) {b : Nat} (hb : ∀ g, blk A = some g → b ≤ g) : Own L T w b A c xs := by
  refine ⟨h.1, ?_⟩
  rcases h.2 with h1 | ⟨g, cap, cur, hv, hbg, hh, r⟩
  · exact .inl h1
  · simp only [Value.slice.injEq] at hv
    exact .inr ⟨g, cap, cur, by simp [hv], hb g (by rw [hv.1]; rfl), hh, r⟩
/-- a prefix -/
theorem Own.take (h : Own L T w base A c xs) (k : Nat) : Own L T w base A c (xs.take k) := by
  rcases h.parts with ⟨rfl, rfl, rfl⟩ | ⟨g, cur, rfl, hb, hlt, hh, h3, h4, h5, h6⟩
  · simpa using Own.none_
  · refine ⟨flat_len _ _, .inr ⟨g, c, cur, rfl, hb, hh, by simp; omega, h4, h5, ?_⟩⟩
    rw [flat_take, ← h6, List.take_take]
    congr 1
    rw [List.length_take]
    rcases Nat.le_total k xs.length with hk | hk
    · rw [Nat.min_eq_left hk, Nat.min_eq_left (Nat.mul_le_mul_right _ hk)]
    · rw [Nat.min_eq_right hk, Nat.min_eq_right (Nat.mul_le_mul_right _ hk)]
end

theorem flat_int (xs : List Int) : xs.flatMap LI.f = xs.map (Value.int .i64) := by induction xs <;> simp_all [LI]
theorem flat_bool (xs : List Bool) : xs.flatMap LB.f = xs.map Value.bool := by induction xs <;> simp_all [LB]
theorem flat_str (xs : List ByteArray) : xs.flatMap LS.f = xs.map Value.string := by induction xs <;> simp_all [LS]
theorem flat_val (xs : List (Option Addr × Nat × Nat)) : xs.flatMap LV.f = xs.map (fun x => Value.slice x.1 x.2.1 x.2.2) := by induction xs <;> simp_all [LV]
section
variable {T : TypeId} {w : World} {base c : Nat} {A : Option Addr}
/-- an element of the call's own row: its cell, open to be written -/
theorem Own.int {xs : List Int} (h : Own LI T w base A c xs) {k : Nat} (hk : k < xs.length) :
    ∃ g, A = some ⟨g, 0, none⟩ ∧ base ≤ g ∧ g < w.heap.size ∧ w.cell? ⟨g, k, none⟩ = some (.int .i64 xs[k]) ∧ w.frozen? ⟨g, k, none⟩ = false := by
  obtain ⟨g, rfl, hb, hlt⟩ := h.ptr (by omega)
  refine ⟨g, rfl, hb, hlt, ?_, World.ownsRow.frozenAt h k⟩
  rw [World.ownsRow.cellAt h k (by simp [LI]; omega), flat_int]
  simp [hk]
theorem Own.bool {xs : List Bool} (h : Own LB T w base A c xs) {k : Nat} (hk : k < xs.length) :
    ∃ g, A = some ⟨g, 0, none⟩ ∧ base ≤ g ∧ g < w.heap.size ∧ w.cell? ⟨g, k, none⟩ = some (.bool xs[k]) ∧ w.frozen? ⟨g, k, none⟩ = false := by
  obtain ⟨g, rfl, hb, hlt⟩ := h.ptr (by omega)
  refine ⟨g, rfl, hb, hlt, ?_, World.ownsRow.frozenAt h k⟩
  rw [World.ownsRow.cellAt h k (by simp [LB]; omega), flat_bool]
  simp [hk]
theorem Own.val {xs : List (Option Addr × Nat × Nat)} (h : Own LV T w base A c xs) {k : Nat} (hk : k < xs.length) :
    ∃ g, A = some ⟨g, 0, none⟩ ∧ base ≤ g ∧ g < w.heap.size ∧ w.cell? ⟨g, k, none⟩ = some (.slice xs[k].1 xs[k].2.1 xs[k].2.2) ∧ w.frozen? ⟨g, k, none⟩ = false := by
  obtain ⟨g, rfl, hb, hlt⟩ := h.ptr (by omega)
  refine ⟨g, rfl, hb, hlt, ?_, World.ownsRow.frozenAt h k⟩
  rw [World.ownsRow.cellAt h k (by simp [LV]; omega), flat_val]
  simp [hk]
theorem Own.setInt {g : Nat} {xs : List Int} (h : Own LI T w base (some ⟨g, 0, none⟩) c xs) (k : Nat) (x : Int) :
    Own LI T (w.setCell ⟨g, k, none⟩ (.int .i64 x)) base (some ⟨g, 0, none⟩) c (xs.set k x) := by
  have := (World.ownsRow.stored h k (.int .i64 x)).1
  unfold Own
  rw [flat_int] at this ⊢
  rw [List.length_set, List.map_set]
  exact this
theorem Own.setBool {g : Nat} {xs : List Bool} (h : Own LB T w base (some ⟨g, 0, none⟩) c xs) (k : Nat) (x : Bool) :
    Own LB T (w.setCell ⟨g, k, none⟩ (.bool x)) base (some ⟨g, 0, none⟩) c (xs.set k x) := by
  have := (World.ownsRow.stored h k (.bool x)).1
  unfold Own
  rw [flat_bool] at this ⊢
  rw [List.length_set, List.map_set]
  exact this
theorem Own.setVal {g : Nat} {xs : List (Option Addr × Nat × Nat)} (h : Own LV T w base (some ⟨g, 0, none⟩) c xs) (k : Nat) (x : Option Addr × Nat × Nat) :
    Own LV T (w.setCell ⟨g, k, none⟩ (.slice x.1 x.2.1 x.2.2)) base (some ⟨g, 0, none⟩) c (xs.set k x) := by
  have := (World.ownsRow.stored h k (.slice x.1 x.2.1 x.2.2)).1
  unfold Own
  rw [flat_val] at this ⊢
  rw [List.length_set, List.map_set]
  exact this
end

/-! elements of several cells -/
theorem add_field (a : Addr) (n j : Nat) (hj : j ≠ 0) : (⟨(a.add n).block, (a.add n).off + j, none⟩ : Addr) = a.add (n + j) := by
  rw [← add_of_add]
  rw [show (a.add n).add j = if j = 0 then a.add n else ⟨(a.add n).block, (a.add n).off + j, none⟩ from by unfold Addr.add; split <;> rfl]
  rw [if_neg hj]
theorem flat_set {α : Type} (L : Lay α) (xs : List α) (k : Nat) (hk : k < xs.length) (j : Nat) (hj : j < L.sz) (u : Value) (x' : α) (hx : L.f x' = (L.f xs[k]).set j u) : (xs.flatMap L.f).set (k * L.sz + j) u = (xs.set k x').flatMap L.f := by
  induction xs generalizing k with
  | nil => simp at hk
  | cons x xs ih =>
    cases k with
    | zero =>
      simp only [List.getElem_cons_zero] at hx
      simp only [List.flatMap_cons, Nat.zero_mul, Nat.zero_add, List.set_cons_zero]
      rw [List.set_append_left _ _ (by rw [L.len]; exact hj), hx]
    | succ k =>
      simp only [List.getElem_cons_succ] at hx
      have := ih k (by simpa using hk) hx
      simp only [List.flatMap_cons, List.set_cons_succ]
      rw [← this, List.set_append_right _ _ (by rw [L.len, Nat.add_mul]; omega), L.len]
      congr 2
      rw [Nat.add_mul]; omega
section
variable {α : Type} {L : Lay α} {T : TypeId} {w : World} {base B c : Nat} {A : Option Addr} {xs : List α}
theorem Rd.field (h : Rd L w B A c xs) {k : Nat} (hk : k < xs.length) : ∃ ad, A = some ad ∧ ad.block < B ∧ (∀ u, (L.f xs[k])[0]? = some u → w.cell? (ad.add (k * L.sz)) = some u) ∧
    ∀ j u, j ≠ 0 → (L.f xs[k])[j]? = some u → w.cell? ⟨(ad.add (k * L.sz)).block, (ad.add (k * L.sz)).off + j, none⟩ = some u := by
  obtain ⟨ad, e, hb, hc⟩ := h.at_ k hk
  exact ⟨ad, e, hb, fun u hu => hc 0 u hu, fun j u hj hu => by rw [add_field _ _ _ hj]; exact hc j u hu⟩
theorem Own.field (h : Own L T w base A c xs) {k : Nat} (hk : k < xs.length) : ∃ g, A = some ⟨g, 0, none⟩ ∧ base ≤ g ∧ g < w.heap.size ∧ (∀ j u, (L.f xs[k])[j]? = some u → w.cell? ⟨g, k * L.sz + j, none⟩ = some u) ∧ ∀ j, w.frozen? ⟨g, j, none⟩ = false := by
  obtain ⟨g, rfl, hb, hlt⟩ := h.ptr (by omega)
  refine ⟨g, rfl, hb, hlt, fun j u hu => ?_, fun j => World.ownsRow.frozenAt h j⟩
  have hj : j < L.sz := by have := (List.getElem?_eq_some_iff.1 hu).1; rwa [L.len] at this
  have hle : k * L.sz + L.sz ≤ xs.length * L.sz := by
    have : (k + 1) * L.sz ≤ xs.length * L.sz := Nat.mul_le_mul_right _ hk
    rwa [Nat.add_mul, Nat.one_mul] at this
  rw [World.ownsRow.cellAt h _ (by omega)]
  exact flat_get L xs k hk j u hu
theorem Own.setField {g : Nat} (h : Own L T w base (some ⟨g, 0, none⟩) c xs) {k : Nat} (hk : k < xs.length) (j : Nat) (hj : j < L.sz) (u : Value) (x' : α) (hx : L.f x' = (L.f xs[k]).set j u) :
    Own L T (w.setCell ⟨g, k * L.sz + j, none⟩ u) base (some ⟨g, 0, none⟩) c (xs.set k x') := by
  have := (World.ownsRow.stored h (k * L.sz + j) u).1
  rw [flat_set L xs k hk j hj u x' hx] at this
  unfold Own
  rw [List.length_set]
  exact this
end
end Go.Proofs.YtiefiikheaiekaaDoor
