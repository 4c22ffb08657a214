/-
  Slices of slices: rows with their places (Row), read (RdR) or the call's own (OwnR), over any program.
-/
import Derived.Test.YtiefiikheaiekaaDoorLaws
namespace Go.Proofs.YtiefiikheaiekaaDoor
open Go.ChangeShapes Go.WideShapes Go.RowKit

/-- two rows share no block -/
def Ap (A A2 : Option Addr) : Prop := ∀ g, blk A = some g → blk A2 ≠ some g
theorem Ap.symm {A A2 : Option Addr} (h : Ap A A2) : Ap A2 A := fun g h2 h1 => h g h1 h2
theorem Ap.none_ {A : Option Addr} : Ap none A := fun g h => by cases h
theorem Ap.of_lt {A A2 : Option Addr} {b : Nat} (h1 : ∀ g, blk A = some g → g < b) (h2 : ∀ g, blk A2 = some g → b ≤ g) : Ap A A2 := fun g e1 e2 => by
  have := h1 g e1; have := h2 g e2; omega

/-- a row: its address, its capacity, what it holds -/
abbrev Row (α : Type) := Option Addr × Nat × List α
def hd {α : Type} (r : Row α) : Option Addr × Nat × Nat := (r.1, r.2.2.length, r.2.1)
def dat {α : Type} (rs : List (Row α)) : List (List α) := rs.map fun r => r.2.2
theorem dat_len {α : Type} (rs : List (Row α)) : (dat rs).length = rs.length := by simp [dat]
theorem dat_get {α : Type} (rs : List (Row α)) (i : Nat) (h : i < rs.length) : (dat rs)[i]'(by rw [dat_len]; exact h) = rs[i].2.2 := by simp [dat]
theorem dat_append {α : Type} (rs ss : List (Row α)) : dat (rs ++ ss) = dat rs ++ dat ss := by simp [dat]
theorem dat_set {α : Type} (rs : List (Row α)) (i : Nat) (r : Row α) : dat (rs.set i r) = (dat rs).set i r.2.2 := by simp [dat, List.map_set]
theorem dat_take {α : Type} (rs : List (Row α)) (i : Nat) : dat (rs.take i) = (dat rs).take i := by simp [dat, List.map_take]

structure RdR {α : Type} (Li : Lay α) (w : World) (B : Nat) (A : Option Addr) (c : Nat) (rs : List (Row α)) : Prop where
  out : Rd LV w B A c (rs.map hd)
  inn : ∀ r ∈ rs, Rd Li w B r.1 r.2.1 r.2.2

section
variable {α : Type} {Li : Lay α} {w w' : World} {B B' c : Nat} {A : Option Addr} {rs : List (Row α)}
theorem RdR.below (h : RdR Li w B A c rs) (hb : Below B w w') : RdR Li w' B A c rs := ⟨h.out.below hb, fun r hr => (h.inn r hr).below hb⟩
theorem RdR.more (h : RdR Li w B A c rs) (hB : B ≤ B') : RdR Li w B' A c rs := ⟨h.out.more hB, fun r hr => (h.inn r hr).more hB⟩
theorem RdR.al (h : RdR Li w w.heap.size A c rs) (o : Obj) : RdR Li (w.alloc o) (w.alloc o).heap.size A c rs := ⟨h.out.al o, fun r hr => (h.inn r hr).al o⟩
theorem RdR.len63 (h : RdR Li w B A c rs) : rs.length ≤ 9223372036854775807 := by have := h.out.len63; simpa using this
theorem RdR.at_ (h : RdR Li w B A c rs) {i : Nat} (hi : i < rs.length) : ∃ ad, A = some ad ∧ ad.block < B ∧ w.cell? (ad.add i) = some (.slice rs[i].1 rs[i].2.2.length rs[i].2.1) ∧ Rd Li w B rs[i].1 rs[i].2.1 rs[i].2.2 := by
  obtain ⟨ad, e, hb, hc⟩ := h.out.val (k := i) (by simpa using hi)
  refine ⟨ad, e, hb, ?_, h.inn _ (List.getElem_mem _)⟩
  simpa [hd] using hc
theorem RdR.take (h : RdR Li w B A c rs) (k : Nat) : RdR Li w B A c (rs.take k) :=
  ⟨by rw [List.map_take]; exact h.out.take k, fun r hr => h.inn r (List.mem_of_mem_take hr)⟩
end

structure OwnR {α : Type} (Li : Lay α) (T1 T2 : TypeId) (w : World) (base : Nat) (A : Option Addr) (c : Nat) (rs : List (Row α)) : Prop where
  out : Own LV T1 w base A c (rs.map hd)
  inn : ∀ r ∈ rs, Own Li T2 w base r.1 r.2.1 r.2.2
  ap : rs.Pairwise fun a b => Ap a.1 b.1

/-- rows of other element types lie in other blocks -/
theorem own_types {α β : Type} {L : Lay α} {L2 : Lay β} {T T2 : TypeId} {w : World} {base base2 c c2 : Nat} {A A2 : Option Addr} {xs : List α} {ys : List β}
    (h : Own L T w base A c xs) (h2 : Own L2 T2 w base2 A2 c2 ys) (hne : T ≠ T2) : Ap A A2 := by
  intro g h1 e2
  rcases h.parts with ⟨rfl, _⟩ | ⟨g1, cur, rfl, _, _, hh, _⟩
  · cases h1
  · rcases h2.parts with ⟨rfl, _⟩ | ⟨g2, cur2, rfl, _, _, hh2, _⟩
    · cases e2
    · simp [blk] at h1 e2
      subst h1; subst e2
      rw [hh] at hh2
      injection hh2 with hh2
      injection hh2 with _ ht
      exact hne ht

section
variable {α : Type} {Li : Lay α} {T1 T2 : TypeId} {w w' : World} {base c : Nat} {A : Option Addr} {rs : List (Row α)}
theorem OwnR.len63 (h : OwnR Li T1 T2 w base A c rs) : rs.length ≤ 9223372036854775807 := by have := h.out.len63; simpa using this
theorem OwnR.rd (h : OwnR Li T1 T2 w base A c rs) : RdR Li w w.heap.size A c rs := ⟨h.out.rd, fun r hr => (h.inn r hr).rd⟩
theorem OwnR.below (h : OwnR Li T1 T2 w base A c rs) (hb : Below w.heap.size w w') : OwnR Li T1 T2 w' base A c rs :=
  ⟨h.out.below hb, fun r hr => (h.inn r hr).below hb, h.ap⟩
theorem OwnR.lower (h : OwnR Li T1 T2 w base A c rs) {b : Nat} (hb : b ≤ base) : OwnR Li T1 T2 w b A c rs :=
  ⟨h.out.lower hb, fun r hr => (h.inn r hr).lower hb, h.ap⟩
theorem OwnR.drewN (h : OwnR Li T1 T2 w base A c rs) (n : Nat) : OwnR Li T1 T2 (w.drewN n) base A c rs := ⟨h.out, h.inn, h.ap⟩
theorem OwnR.none_ : OwnR Li T1 T2 w base none 0 ([] : List (Row α)) := ⟨Own.none_, (fun r hr => by cases hr), List.Pairwise.nil⟩
/-- all its blocks are from base on -/
theorem OwnR.keepBlk (h : OwnR Li T1 T2 w base A c rs) (h0 : ∀ g, blk A = some g → w'.heap[g]? = w.heap[g]?) (h1 : ∀ r ∈ rs, ∀ g, blk r.1 = some g → w'.heap[g]? = w.heap[g]?) : OwnR Li T1 T2 w' base A c rs :=
  ⟨h.out.keepBlk h0, fun r hr => (h.inn r hr).keepBlk (h1 r hr), h.ap⟩
theorem OwnR.keep (h : OwnR Li T1 T2 w base A c rs) {B : Nat} (hb : Below B w w') (h0 : ∀ g, blk A = some g → g < B) (h1 : ∀ r ∈ rs, ∀ g, blk r.1 = some g → g < B) : OwnR Li T1 T2 w' base A c rs :=
  h.keepBlk (fun g hg => hb.block g (h0 g hg)) fun r hr g hg => hb.block g (h1 r hr g hg)
theorem OwnR.apart (h : OwnR Li T1 T2 w base A c rs) {i j : Nat} (hi : i < rs.length) (hj : j < rs.length) (hne : i ≠ j) : Ap rs[i].1 rs[j].1 := by
  rcases Nat.lt_or_gt_of_ne hne with hlt | hlt
  · exact List.pairwise_iff_getElem.1 h.ap i j hi hj hlt
  · exact (List.pairwise_iff_getElem.1 h.ap j i hj hi hlt).symm
theorem pair_set {rs : List (Row α)} (h : rs.Pairwise fun a b => Ap a.1 b.1) (i : Nat) (r : Row α) (hr : ∀ j (hj : j < rs.length), j ≠ i → Ap rs[j].1 r.1) : (rs.set i r).Pairwise fun a b => Ap a.1 b.1 := by
  rw [List.pairwise_iff_getElem] at h ⊢
  intro a b ha hb hab
  simp only [List.length_set] at ha hb
  rw [List.getElem_set, List.getElem_set]
  by_cases h1 : i = a
  · subst h1
    rw [if_pos rfl, if_neg (by omega)]
    exact (hr b hb (by omega)).symm
  · rw [if_neg h1]
    by_cases h2 : i = b
    · subst h2
      rw [if_pos rfl]
      exact hr a ha (fun e => h1 e.symm)
    · rw [if_neg h2]
      exact h a b ha hb hab
/-- the cell of row i in the outer row, and the row -/
theorem OwnR.at_ (h : OwnR Li T1 T2 w base A c rs) {i : Nat} (hi : i < rs.length) :
    ∃ g, A = some ⟨g, 0, none⟩ ∧ base ≤ g ∧ g < w.heap.size ∧ w.cell? ⟨g, i, none⟩ = some (.slice rs[i].1 rs[i].2.2.length rs[i].2.1) ∧ w.frozen? ⟨g, i, none⟩ = false ∧ Own Li T2 w base rs[i].1 rs[i].2.1 rs[i].2.2 := by
  obtain ⟨g, e, hb, hl, hc, hf⟩ := h.out.val (k := i) (by simpa using hi)
  exact ⟨g, e, hb, hl, by simpa [hd] using hc, hf, h.inn _ (List.getElem_mem _)⟩
/-- row i is replaced by another one, that shares no block with the rest: 'out[i] = row' -/
theorem OwnR.setRow {g : Nat} (h : OwnR Li T1 T2 w base (some ⟨g, 0, none⟩) c rs) (hT : T1 ≠ T2) (i : Nat) (r : Row α) (hr : Own Li T2 w base r.1 r.2.1 r.2.2) (hap : ∀ j (hj : j < rs.length), j ≠ i → Ap rs[j].1 r.1) :
    OwnR Li T1 T2 (w.setCell ⟨g, i, none⟩ (.slice r.1 r.2.2.length r.2.1)) base (some ⟨g, 0, none⟩) c (rs.set i r) := by
  have hg : ∀ {s : Row α}, Own Li T2 w base s.1 s.2.1 s.2.2 → Own Li T2 (w.setCell ⟨g, i, none⟩ (.slice r.1 r.2.2.length r.2.1)) base s.1 s.2.1 s.2.2 := by
    intro s hs
    refine hs.setFar (fun e => ?_) _
    exact own_types h.out hs hT g rfl e
  refine ⟨?_, ?_, pair_set h.ap i r hap⟩
  · rw [List.map_set]
    exact h.out.setVal i (hd r)
  · intro s hs
    rcases List.mem_or_eq_of_mem_set hs with hm | rfl
    · exact hg (h.inn s hm)
    · exact hg hr
end
/-- one more row -/
theorem OwnR.snoc {α : Type} {Li : Lay α} {T1 T2 : TypeId} {w w' : World} {base c c' : Nat} {A A' : Option Addr} {rs : List (Row α)} {r : Row α} (h : OwnR Li T1 T2 w base A c rs) (hT : T1 ≠ T2)
    (hr : Own Li T2 w base r.1 r.2.1 r.2.2) (hap : ∀ s ∈ rs, Ap s.1 r.1) (hout : Own LV T1 w' base A' c' (rs.map hd ++ [hd r])) (hg : Grew w w' A A') : OwnR Li T1 T2 w' base A' c' (rs ++ [r]) := by
  have hk : ∀ {s : Row α}, Own Li T2 w base s.1 s.2.1 s.2.2 → Own Li T2 w' base s.1 s.2.1 s.2.2 := by
    intro s hs
    exact (Grew.own hg hs fun g hs' e => own_types h.out hs hT g e hs').1
  refine ⟨by simpa using hout, ?_, ?_⟩
  · intro s hs
    rcases List.mem_append.1 hs with hm | hm
    · exact hk (h.inn s hm)
    · simp at hm; subst hm; exact hk hr
  · rw [List.pairwise_append]
    refine ⟨h.ap, by simp, fun a ha b hb => ?_⟩
    simp at hb; subst hb
    exact hap a ha
/-- a number in row i is replaced: 'out[i][k] = x' -/
theorem OwnR.setInt {T1 T2 : TypeId} {w : World} {base c : Nat} {A : Option Addr} {rs : List (Row Int)} (h : OwnR LI T1 T2 w base A c rs) (hT : T1 ≠ T2) {i : Nat} (hi : i < rs.length) {g : Nat} (hA : rs[i].1 = some ⟨g, 0, none⟩) (k : Nat) (x : Int) :
    OwnR LI T1 T2 (w.setCell ⟨g, k, none⟩ (.int .i64 x)) base A c (rs.set i (rs[i].1, rs[i].2.1, rs[i].2.2.set k x)) := by
  have hri := h.inn _ (List.getElem_mem hi)
  refine ⟨?_, ?_, pair_set h.ap i _ fun j hj hne => h.apart hj hi hne⟩
  · have e : (rs.set i (rs[i].1, rs[i].2.1, rs[i].2.2.set k x)).map hd = rs.map hd := by
      rw [List.map_set]
      have : hd (rs[i].1, rs[i].2.1, rs[i].2.2.set k x) = (rs.map hd)[i]'(by simpa using hi) := by simp [hd]
      rw [this, List.set_getElem_self]
    rw [e]
    exact h.out.setFar (fun e' => own_types h.out hri hT g e' (by rw [hA]; rfl)) _
  · intro s hs
    obtain ⟨j, hj, rfl⟩ := List.mem_iff_getElem.1 hs
    simp only [List.length_set] at hj
    rw [List.getElem_set]
    by_cases hij : i = j
    · subst hij
      rw [if_pos rfl]
      show Own LI T2 _ base rs[i].1 rs[i].2.1 (rs[i].2.2.set k x)
      rw [hA] at hri ⊢
      exact hri.setInt k x
    · rw [if_neg hij]
      refine (h.inn _ (List.getElem_mem hj)).setFar (fun e' => ?_) _
      exact h.apart hi hj hij g (by rw [hA]; rfl) e'

/-- but for blocks of S (and new ones) the heap is as it was -/
structure Kept (S : Nat → Prop) (w w' : World) : Prop where
  os : w'.os = w.os
  tape : w'.tape = w.tape
  output : w'.output = w.output
  size : w.heap.size ≤ w'.heap.size
  block : ∀ b, b < w.heap.size → ¬ S b → w'.heap[b]? = w.heap[b]?
theorem Kept.refl (S : Nat → Prop) (w : World) : Kept S w w := ⟨rfl, rfl, rfl, Nat.le_refl _, fun _ _ _ => rfl⟩
theorem Kept.trans {S : Nat → Prop} {w w1 w2 : World} (h : Kept S w w1) (h2 : Kept S w1 w2) : Kept S w w2 :=
  ⟨h2.os.trans h.os, h2.tape.trans h.tape, h2.output.trans h.output, Nat.le_trans h.size h2.size, fun b hb hs => (h2.block b (Nat.lt_of_lt_of_le hb h.size) hs).trans (h.block b hb hs)⟩
theorem Kept.mono {S S' : Nat → Prop} {w w1 : World} (h : Kept S w w1) (hs : ∀ b, S b → S' b) : Kept S' w w1 :=
  ⟨h.os, h.tape, h.output, h.size, fun b hb hn => h.block b hb fun hh => hn (hs b hh)⟩
theorem Kept.below {S : Nat → Prop} {B : Nat} {w0 w w' : World} (h : Kept S w w') (hb : Below B w0 w) (hB : B ≤ w.heap.size) (hs : ∀ b, S b → B ≤ b) : Below B w0 w' :=
  hb.trans ⟨h.os, h.tape, h.output, h.size, fun k hk => h.block k (by omega) fun hh => by have := hs k hh; omega⟩
theorem Kept.of_below {S : Nat → Prop} {w w' : World} (h : Below w.heap.size w w') : Kept S w w' := ⟨h.os, h.tape, h.output, h.size, fun b hb _ => h.block b hb⟩
theorem Kept.own {α : Type} {L : Lay α} {T : TypeId} {S : Nat → Prop} {w w' : World} {base c : Nat} {A : Option Addr} {xs : List α} (h : Kept S w w') (ho : Own L T w base A c xs) (hs : ∀ g, blk A = some g → ¬ S g) : Own L T w' base A c xs :=
  ho.keepBlk fun g hg => h.block g (ho.blk_lt g hg).2 (hs g hg)
theorem Kept.ownR {α : Type} {L : Lay α} {T1 T2 : TypeId} {S : Nat → Prop} {w w' : World} {base c : Nat} {A : Option Addr} {rs : List (Row α)} (h : Kept S w w') (ho : OwnR L T1 T2 w base A c rs)
    (h0 : ∀ g, blk A = some g → ¬ S g) (h1 : ∀ r ∈ rs, ∀ g, blk r.1 = some g → ¬ S g) : OwnR L T1 T2 w' base A c rs :=
  ⟨h.own ho.out h0, fun r hr => h.own (ho.inn r hr) (h1 r hr), ho.ap⟩
/-- row i has been written in place -/
theorem OwnR.inRow {α : Type} {Li : Lay α} {T1 T2 : TypeId} {w w' : World} {base c : Nat} {A : Option Addr} {rs : List (Row α)} (h : OwnR Li T1 T2 w base A c rs) (hT : T1 ≠ T2) {i : Nat} (hi : i < rs.length) (ys : List α) (hlen : ys.length = rs[i].2.2.length)
    (hown : Own Li T2 w' base rs[i].1 rs[i].2.1 ys) (hk : Kept (fun b => blk rs[i].1 = some b) w w') : OwnR Li T1 T2 w' base A c (rs.set i (rs[i].1, rs[i].2.1, ys)) := by
  have hri := h.inn _ (List.getElem_mem hi)
  refine ⟨?_, ?_, pair_set h.ap i _ fun j hj hne => h.apart hj hi hne⟩
  · have e : (rs.set i (rs[i].1, rs[i].2.1, ys)).map hd = rs.map hd := by
      rw [List.map_set]
      have : hd (rs[i].1, rs[i].2.1, ys) = (rs.map hd)[i]'(by simpa using hi) := by simp [hd, hlen]
      rw [this, List.set_getElem_self]
    rw [e]
    exact hk.own h.out fun g hg e' => own_types h.out hri hT g hg e'
  · intro s hs
    obtain ⟨j, hj, rfl⟩ := List.mem_iff_getElem.1 hs
    simp only [List.length_set] at hj
    rw [List.getElem_set]
    by_cases hij : i = j
    · subst hij
      rw [if_pos rfl]
      exact hown
    · rw [if_neg hij]
      exact hk.own (h.inn _ (List.getElem_mem hj)) fun g hg e' => h.apart hi hj hij g e' hg
/-- where its blocks lie -/
theorem OwnR.blk_lt {α : Type} {Li : Lay α} {T1 T2 : TypeId} {w : World} {base c : Nat} {A : Option Addr} {rs : List (Row α)} (h : OwnR Li T1 T2 w base A c rs) :
    (∀ g, blk A = some g → base ≤ g ∧ g < w.heap.size) ∧ ∀ r ∈ rs, ∀ g, blk r.1 = some g → base ≤ g ∧ g < w.heap.size :=
  ⟨h.out.blk_lt, fun r hr => (h.inn r hr).blk_lt⟩
end Go.Proofs.YtiefiikheaiekaaDoor
