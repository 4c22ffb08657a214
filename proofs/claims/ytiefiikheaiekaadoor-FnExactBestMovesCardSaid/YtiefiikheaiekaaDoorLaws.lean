/-
  append and make as laws on the call's own rows (Own), over any program.
-/
import Derived.Test.YtiefiikheaiekaaDoorBase
namespace Go.Proofs.YtiefiikheaiekaaDoor
open Go.ChangeShapes Go.WideShapes Go.RowKit

/-- a slice type t of elements e: zero value, cells, bytes -/
def TyRow (P : Program) (t e : TypeId) (z : Value) (sz bytes : Nat) : Prop :=
  P.underlying t = some (.slice e) ∧ (P.info? e).map (fun i => (i.zero, i.size, i.bytes)) = some (some z, sz, bytes)

/-- what an append to the row A leaves: nothing but A's block has turned; the new row is A's or new -/
structure Grew (w w' : World) (A A' : Option Addr) : Prop where
  os : w'.os = w.os
  tape : w'.tape = w.tape
  output : w'.output = w.output
  size : w.heap.size ≤ w'.heap.size
  block : ∀ k, k < w.heap.size → some k ≠ blk A → w'.heap[k]? = w.heap[k]?
  place : blk A' = blk A ∨ ∀ g, blk A' = some g → w.heap.size ≤ g

theorem Grew.below {B : Nat} {w0 w w' : World} {A A' : Option Addr} (hb : Below B w0 w) (h : Grew w w' A A') (hB : B ≤ w.heap.size) (hA : ∀ g, blk A = some g → B ≤ g) : Below B w0 w' :=
  hb.trans ⟨h.os, h.tape, h.output, h.size, fun k hk => h.block k (by omega) (fun e => by have := hA k e.symm; omega)⟩
/-- a row apart from A stays, and stays apart -/
theorem Grew.own {α : Type} {L : Lay α} {T : TypeId} {w w' : World} {A A' A2 : Option Addr} {base c : Nat} {xs : List α} (h : Grew w w' A A') (ho : Own L T w base A2 c xs) (hne : ∀ g, blk A2 = some g → blk A ≠ some g) :
    Own L T w' base A2 c xs ∧ ∀ g, blk A2 = some g → blk A' ≠ some g := by
  refine ⟨ho.keepBlk fun g hg => h.block g (ho.blk_lt g hg).2 (fun e => hne g hg e.symm), fun g hg e => ?_⟩
  rcases h.place with hp | hp
  · exact hne g hg (hp ▸ e)
  · have := hp g e; have := (ho.blk_lt g hg).2; omega
theorem Grew.rd {α : Type} {L : Lay α} {w w' : World} {A A' A2 : Option Addr} {B c : Nat} {xs : List α} (h : Grew w w' A A') (hr : Rd L w B A2 c xs) (hB : B ≤ w.heap.size) (hA : ∀ g, blk A = some g → B ≤ g) : Rd L w' B A2 c xs :=
  hr.below (Grew.below (Below.refl B w) h hB hA)

theorem own_of_rows {α : Type} {L : Lay α} {T : TypeId} {w : World} {base n : Nat} {v : Value} {xs : List α} (h : w.ownsRow base T L.sz v n (xs.flatMap L.f)) (hn : n = xs.length) :
    ∃ A c, v = .slice A xs.length c ∧ Own L T w base A c xs := by
  subst hn
  rcases h.2 with ⟨rfl, h2⟩ | ⟨g, cap, cur, rfl, r⟩
  · have : xs = [] := List.length_eq_zero_iff.1 h2
    subst this
    exact ⟨none, 0, rfl, h⟩
  · exact ⟨_, _, rfl, h⟩

section
variable {α : Type} {L : Lay α} {P : Program} {w : World}

theorem run_app {t e : TypeId} {z : Value} {bytes : Nat} (hrow : TyRow P t e z L.sz bytes) (hz : z.cells.size = L.sz) (ty : TypeId) {base c : Nat} {A : Option Addr} {xs : List α} (hown : Own L e w base A c xs)
    (ao : Option Addr) (m cc : Nat) (news : List α) (hm : news.length = m) (hao : ao = none → m = 0 ∧ cc = 0) (hnews : ∀ ad, ao = some ad → ∀ j u, (news.flatMap L.f)[j]? = some u → w.cell? (ad.add j) = some u)
    (h63 : xs.length + m ≤ maxLen) (hbytes : (xs.length + m) * bytes ≤ 140737488355328) (hbase : base ≤ w.heap.size) :
    ∃ A' c' w', (Builtin.append_ #[t, t] ty #[.slice A xs.length c, .slice ao m cc]).run P w = .ok (.slice A' (xs ++ news).length c') w' ∧ Own L e w' base A' c' (xs ++ news) ∧ Grew w w' A A' := by
  obtain ⟨ht, hinfo⟩ := hrow
  obtain ⟨i, hi, hz0, hz1, hz2⟩ := info_parts hinfo
  subst hm
  have hl : (news.flatMap L.f).length = news.length * L.sz := flat_len L news
  have h1 : ∀ u ∈ news.flatMap L.f, u.oneCell' = true := by
    intro u hu
    obtain ⟨x, _, hx⟩ := List.mem_flatMap.1 hu
    exact L.one x u hx
  cases ao with
  | none =>
    obtain ⟨h0, rfl⟩ := hao rfl
    have h0' : news = [] := List.length_eq_zero_iff.1 h0
    subst h0'
    refine ⟨A, c, w, ?_, by simpa using hown, ⟨rfl, rfl, rfl, Nat.le_refl _, fun _ _ _ => rfl, .inl rfl⟩⟩
    simpa using run_append_owned_none (P := P) (w := w) base t ty e i L.sz ht hi _ _ _ hown
  | some ad =>
    have hnews' := hnews ad rfl
    by_cases hroom : xs.length + news.length ≤ c
    · rcases hown.parts with ⟨rfl, rfl, rfl⟩ | ⟨g, cur, rfl, hbg, hlt, hh, r⟩
      · have h0 : news = [] := by simpa using hroom
        subst h0
        obtain ⟨v', w', hrun, r1, r2, r3⟩ := run_append_own (P := P) w base t ty e i z L.sz bytes ht hi hz0 hz1 hz2 hz L.pos (.slice none 0 0) 0 [] (World.ownsRow_nil _ _ _ _) ad 0 cc [] (by simp) (by simp) (by simp) (by simp) (by simp) hbase
        obtain rfl := r3.2 ⟨rfl, rfl⟩
        exact ⟨none, 0, w', by simpa using hrun, Own.none_, ⟨r2.os, r2.tape, r2.output, r2.size, fun k hk _ => r2.block k hk (by simp [Value.ownBlock]), .inl rfl⟩⟩
      · obtain ⟨w', hrun, r1, r2⟩ := run_append_fits (P := P) (w := w) base t ty e i L.sz ht hi hz1 g xs.length c _ hown ad news.length cc _ hl hnews' h1 hroom
        rw [← List.flatMap_append] at r1
        refine ⟨_, c, w', ?_, ?_, ⟨r2.os, r2.tape, r2.output, r2.size, r2.block, .inl rfl⟩⟩
        · rw [hrun, List.length_append]
        · unfold Own; rw [List.length_append]; exact r1
    · have hn : A = none → xs.length = 0 ∧ c = 0 := by
        rintro rfl
        rcases hown.parts with ⟨_, rfl, rfl⟩ | ⟨g, _, h, _⟩
        · exact ⟨rfl, rfl⟩
        · cases h
      cases A with
      | none =>
        obtain ⟨h0, rfl⟩ := hn rfl
        have h0' : xs = [] := List.length_eq_zero_iff.1 h0
        subst h0'
        obtain ⟨v', w', hrun, r1, r2, _⟩ := run_append_own (P := P) w w.heap.size t ty e i z L.sz bytes ht hi hz0 hz1 hz2 hz L.pos (.slice none 0 0) 0 [] (World.ownsRow_nil _ _ _ _) ad news.length cc _ hl hnews' h1 (by simpa using h63) (by simpa using hbytes) (Nat.le_refl _)
        rw [List.nil_append] at r1
        obtain ⟨A', c', rfl, hown'⟩ := own_of_rows (xs := news) r1 (by simp)
        refine ⟨A', c', w', by simpa using hrun, by simpa using hown'.lower hbase, ⟨r2.os, r2.tape, r2.output, r2.size, fun k hk _ => r2.block k hk (by simp [Value.ownBlock]), .inr fun g hg => (hown'.blk_lt g hg).1⟩⟩
      | some b =>
        have hcells : ∀ j u, (xs.flatMap L.f)[j]? = some u → w.cell? (b.add j) = some u := by
          rcases hown.parts with ⟨h, _⟩ | ⟨g, _, h, _⟩
          · cases h
          · cases h
            exact World.ownsRow.cells hown (g := g) rfl
        obtain ⟨v', w', hrun, r1, r2⟩ := run_append_arg_grows (P := P) w t ty e i z L.sz bytes ht hi hz0 hz1 hz2 hz L.pos b xs.length c _ (flat_len L xs) hcells ad news.length cc _ hl hnews' (by omega) h63 hbytes
        rw [← List.flatMap_append] at r1
        obtain ⟨A', c', rfl, hown'⟩ := own_of_rows (xs := xs ++ news) r1 (by simp)
        exact ⟨A', c', w', hrun, hown'.lower hbase, ⟨r2.os, r2.tape, r2.output, r2.size, fun k hk _ => r2.block k hk (by simp), .inr fun g hg => (hown'.blk_lt g hg).1⟩⟩

/-- 'append(out, ys...)' -/
theorem wpL_app {ops : Array Oper} {rest : List Oper} {o : Oper} {a : Act} {Q : Exit → Act → World → Prop} {t e : TypeId} {z : Value} {bytes : Nat} (hrow : TyRow P t e z L.sz bytes) (hz : z.cells.size = L.sz) (hgd : o.guard = none) (s x : Operand)
    (ho : o.op = .call { callee := .builtin .append, args := #[s, x], argTypes := #[t, t] }) {base c : Nat} {A : Option Addr} {xs : List α} (hs : a.eval s = .slice A xs.length c) (hown : Own L e w base A c xs)
    (ao : Option Addr) (m cc : Nat) (news : List α) (hx : a.eval x = .slice ao m cc) (hm : news.length = m) (hao : ao = none → m = 0 ∧ cc = 0) (hnews : ∀ ad, ao = some ad → ∀ j u, (news.flatMap L.f)[j]? = some u → w.cell? (ad.add j) = some u)
    (h63 : xs.length + m ≤ maxLen) (hbytes : (xs.length + m) * bytes ≤ 140737488355328) (hbase : base ≤ w.heap.size)
    (h : ∀ A' c' w', Own L e w' base A' c' (xs ++ news) → Grew w w' A A' → wpList P ops Q rest (a.put o.dst (.slice A' (xs ++ news).length c')) w') : wpList P ops Q (o :: rest) a w := by
  refine wpList_plain hgd fun K hK => ?_
  obtain ⟨A', c', w', hrun, h1, h2⟩ := run_app (w := w) hrow hz o.type hown ao m cc news hm hao hnews h63 hbytes hbase
  unfold Oper.wp
  simp only [execOp, ho]
  simp [resolve, invoke, builtin, hs, hx, hrun, Result.andThen]
  have := hK _ _ (h A' c' w' h1 h2)
  rw [List.length_append] at this
  exact this

/-- 'append(out, x)': x has been laid in a new block first: the world is w.alloc .. -/
theorem wpL_app1 {ops : Array Oper} {rest : List Oper} {o : Oper} {a : Act} {Q : Exit → Act → World → Prop} {t e : TypeId} {z : Value} {bytes : Nat} (hrow : TyRow P t e z L.sz bytes) (hz : z.cells.size = L.sz) (hgd : o.guard = none) (s x : Operand)
    (ho : o.op = .call { callee := .builtin .append, args := #[s, x], argTypes := #[t, t] }) {base c : Nat} {A : Option Addr} {xs : List α} (hs : a.eval s = .slice A xs.length c) (hown : Own L e w base A c xs)
    (u : α) (cs : Array Value) (hcs : cs.toList = L.f u) {g : Nat} (hx : a.eval x = .slice (some ⟨g, 0, none⟩) 1 1) (hgw : g = w.heap.size)
    (h63 : xs.length + 1 ≤ maxLen) (hbytes : (xs.length + 1) * bytes ≤ 140737488355328) (hbase : base ≤ w.heap.size)
    (h : ∀ A' c' w', Own L e w' base A' c' (xs ++ [u]) → Grew w w' A A' → wpList P ops Q rest (a.put o.dst (.slice A' (xs.length + 1) c')) w') : wpList P ops Q (o :: rest) a (w.alloc (.cells cs e)) := by
  subst hgw
  refine wpL_app (w := w.alloc (.cells cs e)) hrow hz hgd s x ho hs (hown.alloc _) (some ⟨w.heap.size, 0, none⟩) 1 1 [u] hx rfl (fun h => by cases h) ?_ h63 hbytes (by simp; omega) ?_
  · intro ad had j v hv
    cases had
    rw [add_lit, World.cell?_alloc_at (hn := rfl)]
    simp only [List.flatMap_cons, List.flatMap_nil, List.append_nil, ← hcs] at hv
    simpa using hv
  · intro A' c' w' h1 h2
    have := h A' c' w' h1 ⟨h2.os, h2.tape, h2.output, by have := h2.size; simp at this; omega, fun k hk hne => (h2.block k (by simp; omega) hne).trans (Below.heap_alloc w _ k hk), h2.place.imp_right fun hp g hg => by have := hp g hg; simp at this; omega⟩
    simpa using this

theorem Grew.drawn {w w' : World} {A A' : Option Addr} {n : Nat} (h : Grew (w.drewN n) w' A A') : Grew w w' A A' := ⟨h.os, h.tape, h.output, h.size, h.block, h.place⟩
/-- the same behind draws: the world is (w.alloc ..).drew -/
theorem wpL_app1d {ops : Array Oper} {rest : List Oper} {o : Oper} {a : Act} {Q : Exit → Act → World → Prop} {t e : TypeId} {z : Value} {bytes : Nat} (hrow : TyRow P t e z L.sz bytes) (hz : z.cells.size = L.sz) (hgd : o.guard = none) (s x : Operand)
    (ho : o.op = .call { callee := .builtin .append, args := #[s, x], argTypes := #[t, t] }) {base c : Nat} {A : Option Addr} {xs : List α} (hs : a.eval s = .slice A xs.length c) (hown : Own L e w base A c xs)
    (u : α) (cs : Array Value) (hcs : cs.toList = L.f u) {g : Nat} (hx : a.eval x = .slice (some ⟨g, 0, none⟩) 1 1) (hgw : g = w.heap.size)
    (h63 : xs.length + 1 ≤ maxLen) (hbytes : (xs.length + 1) * bytes ≤ 140737488355328) (hbase : base ≤ w.heap.size)
    (h : ∀ A' c' w', Own L e w' base A' c' (xs ++ [u]) → Grew w w' A A' → wpList P ops Q rest (a.put o.dst (.slice A' (xs.length + 1) c')) w') : wpList P ops Q (o :: rest) a (w.alloc (.cells cs e)).drew :=
  wpL_app1 (w := w.drew) hrow hz hgd s x ho hs hown u cs hcs hx hgw h63 hbytes hbase fun A' c' w' h1 h2 => h A' c' w' h1 ⟨h2.os, h2.tape, h2.output, h2.size, h2.block, h2.place⟩
theorem wpL_app1n {ops : Array Oper} {rest : List Oper} {o : Oper} {a : Act} {Q : Exit → Act → World → Prop} {t e : TypeId} {z : Value} {bytes : Nat} (n : Nat) (hrow : TyRow P t e z L.sz bytes) (hz : z.cells.size = L.sz) (hgd : o.guard = none) (s x : Operand)
    (ho : o.op = .call { callee := .builtin .append, args := #[s, x], argTypes := #[t, t] }) {base c : Nat} {A : Option Addr} {xs : List α} (hs : a.eval s = .slice A xs.length c) (hown : Own L e w base A c xs)
    (u : α) (cs : Array Value) (hcs : cs.toList = L.f u) {g : Nat} (hx : a.eval x = .slice (some ⟨g, 0, none⟩) 1 1) (hgw : g = w.heap.size)
    (h63 : xs.length + 1 ≤ maxLen) (hbytes : (xs.length + 1) * bytes ≤ 140737488355328) (hbase : base ≤ w.heap.size)
    (h : ∀ A' c' w', Own L e w' base A' c' (xs ++ [u]) → Grew w w' A A' → wpList P ops Q rest (a.put o.dst (.slice A' (xs.length + 1) c')) w') : wpList P ops Q (o :: rest) a ((w.alloc (.cells cs e)).drewN n) :=
  wpL_app1 (w := w.drewN n) hrow hz hgd s x ho hs hown u cs hcs hx hgw h63 hbytes hbase fun A' c' w' h1 h2 => h A' c' w' h1 ⟨h2.os, h2.tape, h2.output, h2.size, h2.block, h2.place⟩

theorem wpL_make {ops : Array Oper} {rest : List Oper} {o : Oper} {a : Act} {Q : Exit → Act → World → Prop} {t e : TypeId} {z : Value} {bytes : Nat} (hrow : TyRow P t e z L.sz bytes) (hgd : o.guard = none) (l c : Operand) (hop : o.op = Op.makeSlice t l c)
    (kl kc : IntKind) (N C : Int) (n : Nat) (hl : a.eval l = .int kl N) (hc : a.eval c = .int kc C) (hN : N = (n : Int)) (hC : C = (n : Int)) (b2 : bytes * n ≤ 281474976710656) (h63 : n ≤ maxLen) (z0 : α) (hz0 : z.cells.toList = L.f z0)
    (h : ∀ w', Own L e w' w.heap.size (some ⟨w.heap.size, 0, none⟩) n (List.replicate n z0) → Below w.heap.size w w' → wpList P ops Q rest (a.put o.dst (.slice (some ⟨w.heap.size, 0, none⟩) n n)) w') : wpList P ops Q (o :: rest) a w := by
  obtain ⟨ht, hinfo⟩ := hrow
  obtain ⟨i, hi, hz1, hz2, hz3⟩ := info_parts hinfo
  subst hz3
  refine wpList_make_full w hgd l c t hop w.heap.size e i z L.sz ht hi hz1 hz2 kl kc N C n hl hc hN hC b2 h63 (Nat.le_refl _) ?_
  intro w' h1 h2
  refine h w' ?_ ((Below.refl _ _).grown h2 (Nat.le_refl _) (fun k hk => by cases hk))
  unfold Own
  rw [List.length_replicate]
  have e : (madeCells z.cells (n * L.sz)).toList = (List.replicate n z0).flatMap L.f := by
    have hzl : z.cells.size = L.sz := by rw [← Array.length_toList, hz0, L.len]
    apply List.ext_getElem?
    intro j
    by_cases hj : j < n * L.sz
    · have hdiv : j / L.sz < n := Nat.div_lt_of_lt_mul (by rw [Nat.mul_comm]; exact hj)
      have hmod : j % L.sz < L.sz := Nat.mod_lt _ L.pos
      have hjj : j = (j / L.sz) * L.sz + j % L.sz := by rw [Nat.mul_comm]; exact (Nat.div_add_mod j L.sz).symm
      have hlen : (j % L.sz) < (L.f z0).length := by rw [L.len]; exact hmod
      have hr := flat_get L (List.replicate n z0) (j / L.sz) (by simpa using hdiv) (j % L.sz) ((L.f z0)[j % L.sz]) (by simp)
      rw [← hjj] at hr
      rw [hr]
      have : (L.f z0)[j % L.sz] = z.cells[j % L.sz]'(by rw [hzl]; exact hmod) := by
        simp only [← hz0, Array.getElem_toList]
      rw [this]
      simp only [madeCells, Array.toList_map, Array.toList_range, List.getElem?_map, List.getElem?_range hj, Option.map_some, hzl]
      rw [getElem!_pos z.cells (j % L.sz) (by rw [hzl]; exact hmod)]
    · rw [List.getElem?_eq_none (by simp [size_madeCells]; omega), List.getElem?_eq_none (by rw [flat_len]; simp; omega)]
  rw [e] at h1
  exact h1
end
/-- '[]T{}' -/
theorem Own.lit0 {α : Type} {L : Lay α} {T : TypeId} (w : World) {base g : Nat} (hb : base ≤ w.heap.size) (hg : g = w.heap.size) : Own L T (w.alloc (.cells #[] T)) base (some ⟨g, 0, none⟩) 0 ([] : List α) := by
  subst hg
  exact World.ownsRow_made w #[] 0 hb (Nat.zero_le _) (by simp)
/-- '[]T{x, ..}' -/
theorem Own.lit {α : Type} {L : Lay α} {T : TypeId} (w : World) {base g : Nat} (hb : base ≤ w.heap.size) (hg : g = w.heap.size) (xs : List α) (cs : Array Value) (n : Nat) (hn : n = xs.length) (hm : n ≤ maxLen) (hcs : cs.toList = xs.flatMap L.f) : Own L T (w.alloc (.cells cs T)) base (some ⟨g, 0, none⟩) n xs := by
  subst hn
  subst hg
  have := World.ownsRow_lit (base := base) (e := T) (size := L.sz) w cs xs.length hb hm (by rw [← Array.length_toList, hcs, flat_len])
  rw [hcs] at this
  exact this
end Go.Proofs.YtiefiikheaiekaaDoor
