/-
  A level in memory, and the next one while it is built.
-/
import Derived.Test.YtiefiikheaiekaaDoorMovesSet
import Derived.Test.YtiefiikheaiekaaDoorMovesText
import Derived.Test.YtiefiikheaiekaaDoorMovesMap
namespace Go.Proofs.YtiefiikheaiekaaDoor
open Go.ChangeShapes Go.WideShapes Go.RowKit

/-- the blocks that are written: the map, and the next level's row -/
def GN (bm : Nat) (An : Option Addr) (b : Nat) : Prop := b = bm ∨ blk An = some b
theorem MS.st_Y (s : MS) : s.st.Y = dat s.rs := rfl
/-- a level, while nothing but the blocks of G is written -/
structure LvM (G : Nat → Prop) (base : Nat) (wr : World) (Al : Option Addr) (cl : Nat) (L : List MS) : Prop where
  lv : RdN LSt G wr Al cl (L.map MS.hdr)
  ls : ∀ s ∈ L, MSok G base wr s
theorem LvM.turn {G G' : Nat → Prop} {base cl : Nat} {w w' : World} {Al : Option Addr} {L : List MS} (h : LvM G base w Al cl L) (hs : w.heap.size ≤ w'.heap.size) (hb : ∀ b, b < w.heap.size → ¬ G b → w'.heap[b]? = w.heap[b]?) (hG : ∀ b, b < w.heap.size → G' b → G b) : LvM G' base w' Al cl L :=
  ⟨h.lv.turn hs hb hG, fun s m => (h.ls s m).turn hs hb hG⟩
theorem LvM.below {G : Nat → Prop} {base cl : Nat} {w w' : World} {Al : Option Addr} {L : List MS} (h : LvM G base w Al cl L) (hb : Below w.heap.size w w') : LvM G base w' Al cl L := ⟨h.lv.below hb, fun s m => (h.ls s m).below hb⟩
/-- the cells of a state in a level -/
theorem LvM.at_ {G : Nat → Prop} {base cl : Nat} {w : World} {Al : Option Addr} {L : List MS} (h : LvM G base w Al cl L) {k : Nat} (hk : k < L.length) : ∃ ad, Al = some ad ∧ ad.block < w.heap.size ∧ w.cell? (ad.add (k * 3)) = some (.slice L[k].A L[k].rs.length L[k].c) ∧
    w.cell? ⟨(ad.add (k * 3)).block, (ad.add (k * 3)).off + 1, none⟩ = some (.int .i64 (L[k].d : Nat)) ∧ w.cell? ⟨(ad.add (k * 3)).block, (ad.add (k * 3)).off + 2, none⟩ = some (.slice L[k].Am L[k].M.length L[k].cm) := by
  have hk2 : k < (L.map MS.hdr).length := by simpa using hk
  obtain ⟨ad, e, hb, h0, h1⟩ := h.lv.rd.field hk2
  have he : (L.map MS.hdr)[k] = L[k].hdr := by simp
  rw [he] at h0 h1
  exact ⟨ad, e, hb, h0 _ rfl, h1 1 _ (by decide) rfl, h1 2 _ (by decide) rfl⟩
theorem LvM.len63 {G : Nat → Prop} {base cl : Nat} {w : World} {Al : Option Addr} {L : List MS} (h : LvM G base w Al cl L) : L.length ≤ 9223372036854775807 := by
  have := h.lv.rd.len63
  simpa using this
theorem LvM.one {G : Nat → Prop} {base b : Nat} {w : World} {s : MS} (h : LvM G base w (some ⟨b, 0, none⟩) 1 [s]) : b < w.heap.size ∧ w.cell? ⟨b, 0, none⟩ = some (.slice s.A s.rs.length s.c) ∧ w.cell? ⟨b, 1, none⟩ = some (.int .i64 (s.d : Nat)) ∧ w.cell? ⟨b, 2, none⟩ = some (.slice s.Am s.M.length s.cm) ∧ MSok G base w s := by
  obtain ⟨ad, e, hb, h0, h1, h2⟩ := h.at_ (k := 0) (by simp)
  cases e
  simp only [Nat.zero_mul, add_lit, Nat.zero_add, List.getElem_cons_zero] at h0 h1 h2
  exact ⟨hb, h0, h1, h2, h.ls s (by simp)⟩
theorem cands_step (o : List Int) (n : Nat) {L : List MS} {a : Nat} (h : a < L.length) : cands o n ((L.take (a + 1)).map MS.st) = cands o n ((L.take a).map MS.st) ++ candS o n L[a].st n := by
  rw [List.take_succ_eq_append_getElem h, List.map_append]
  exact cands_snoc o n _ _
theorem cand_no {o : List Int} {s : St} {i k : Nat} (h : mvOk s.Y i k = false) : cand o s i k = [] := by
  unfold cand
  rw [if_neg (by simp [h])]
theorem cand_yes {o : List Int} {s : St} {i k : Nat} (h : mvOk s.Y i k = true) : cand o s i k = [child o s i k] := by
  unfold cand
  rw [if_pos h]
structure Nxt (X : List (List Int)) (w : World) (bm : Nat) (Al : Option Addr) (cl : Nat) (L : List MS) (K : List (List (List Int))) (cs : List St) (wr : World) (An : Option Addr) (cn : Nat) (Nx : List MS) (K' : List (List (List Int))) : Prop where
  run : runc K cs = (K', Nx.map MS.st)
  kn : Knows wr bm K'.length (K'.map ytL)
  own : Own LSt 73 wr w.heap.size An cn (Nx.map MS.hdr)
  nx : ∀ s ∈ Nx, MSok (GN bm An) w.heap.size wr s
  lv : LvM (GN bm An) w.heap.size wr Al cl L
  bel : Below w.heap.size w wr
  ap : blk An ≠ some bm
  bml : w.heap.size ≤ bm
  val : ∀ Y ∈ K', YG X Y
  nd : K'.Nodup
section
variable {X : List (List Int)} {w : World} {bm : Nat} {Al : Option Addr} {cl : Nat} {L : List MS} {K : List (List (List Int))} {cs : List St} {wr : World} {An : Option Addr} {cn : Nat} {Nx : List MS} {K' : List (List (List Int))}
theorem Nxt.below (h : Nxt X w bm Al cl L K cs wr An cn Nx K') {w' : World} (hb : Below wr.heap.size wr w') : Nxt X w bm Al cl L K cs w' An cn Nx K' :=
  ⟨h.run, h.kn.at (hb.block bm h.kn.lt), h.own.below hb, fun s m => (h.nx s m).below hb, h.lv.below hb, bthen h.bel (Nat.le_refl _) hb, h.ap, h.bml, h.val, h.nd⟩
theorem Nxt.len (h : Nxt X w bm Al cl L K cs wr An cn Nx K') : Nx.length ≤ K'.length := by
  have key : ∀ (cs : List St) (K : List (List (List Int))) (N : List St), N.length ≤ K.length → (cs.foldl stepc (K, N)).2.length ≤ (cs.foldl stepc (K, N)).1.length := by
    intro cs
    induction cs with
    | nil => intro K N h; exact h
    | cons c cs ih =>
      intro K N h
      rw [List.foldl_cons]
      unfold stepc
      split
      · exact ih K N h
      · exact ih _ _ (by simp; omega)
  have h1 := key cs K [] (Nat.zero_le _)
  have h2 : cs.foldl stepc (K, []) = (K', Nx.map MS.st) := h.run
  rw [h2] at h1
  simpa using h1
theorem Nxt.card (h : Nxt X w bm Al cl L K cs wr An cn Nx K') (hv : vyB X = true) : K'.length ≤ 1073741824 := YG.card hv h.nd h.val
/-- a candidate that is known -/
theorem Nxt.skip (h : Nxt X w bm Al cl L K cs wr An cn Nx K') {t : St} (ht : t.Y ∈ K') : Nxt X w bm Al cl L K (cs ++ [t]) wr An cn Nx K' :=
  ⟨by rw [runc_app, h.run]; simp only [List.foldl_cons, List.foldl_nil, stepc]; rw [if_pos ht], h.kn, h.own, h.nx, h.lv, h.bel, h.ap, h.bml, h.val, h.nd⟩
/-- a candidate that is new: the map has it, then the row -/
theorem Nxt.put (h : Nxt X w bm Al cl L K cs wr An cn Nx K') {s : MS} (hs : MSok (GN bm An) w.heap.size wr s) (hn : dat s.rs ∉ K') (hv : YG X (dat s.rs)) {w1 w2 : World} {A2 : Option Addr} {c2 : Nat}
    (hk : Knows w1 bm (K'.length + 1) (K'.map ytL ++ [ytL (dat s.rs)])) (hg : wr.grownBy w1 (some bm)) (ho : Own LSt 73 w2 w.heap.size A2 c2 (Nx.map MS.hdr ++ [s.hdr])) (hr : Grew w1 w2 An A2) :
    Nxt X w bm Al cl L K (cs ++ [s.st]) w2 A2 c2 (Nx ++ [s]) (K' ++ [dat s.rs]) := by
  have hs1 : wr.heap.size ≤ w1.heap.size := hg.size
  have hs2 : wr.heap.size ≤ w2.heap.size := Nat.le_trans hs1 hr.size
  have hbm := h.kn.lt
  have hb : ∀ b, b < wr.heap.size → ¬ GN bm An b → w2.heap[b]? = wr.heap[b]? := fun b h1 h2 =>
    (hr.block b (by omega) (fun e => h2 (.inr e.symm))).trans (hg.block b h1 (fun e => h2 (.inl (Option.some.inj e))))
  have hG : ∀ b, b < wr.heap.size → GN bm A2 b → GN bm An b := fun b h1 h2 => by
    rcases h2 with h2 | h2
    · exact .inl h2
    · rcases hr.place with hp | hp
      · exact .inr (by rw [← hp]; exact h2)
      · have := hp b h2
        omega
  refine ⟨?_, ?_, by rw [List.map_append]; exact ho, fun t m => ?_, h.lv.turn hs2 hb hG, ?_, ?_, h.bml, fun Y m => ?_, List.nodup_append.2 ⟨h.nd, by simp, fun a ha b hb e => by rw [List.mem_singleton] at hb; subst hb; subst e; exact hn ha⟩⟩
  · rw [runc_app, h.run]
    simp only [List.foldl_cons, List.foldl_nil, stepc]
    rw [if_neg (show s.st.Y ∉ K' from hn)]
    simp [MS.st]
  · rw [List.length_append, List.map_append]
    refine hk.at (hr.block bm (by omega) (fun e => h.ap e.symm))
  · rcases List.mem_append.1 m with m | m
    · exact (h.nx t m).turn hs2 hb hG
    · rw [List.mem_singleton] at m
      subst m
      exact hs.turn hs2 hb hG
  · have hA : ∀ b, blk An = some b → w.heap.size ≤ b := fun b e => (h.own.blk_lt b e).1
    refine h.bel.trans ⟨hr.os.trans hg.os, hr.tape.trans hg.tape, hr.output.trans hg.output, hs2, fun k hk2 => ?_⟩
    have hws := h.bel.size
    refine hb k (by omega) (fun h2 => ?_)
    rcases h2 with h2 | h2
    · have := h.bml
      omega
    · have := hA k h2
      omega
  · intro e
    rcases hr.place with hp | hp
    · exact h.ap (hp ▸ e)
    · have := hp bm e
      omega
  · rcases List.mem_append.1 m with m | m
    · exact h.val Y m
    · rw [List.mem_singleton] at m
      subst m
      exact hv
end
theorem Nxt.putTurn {X : List (List Int)} {w : World} {bm : Nat} {Al : Option Addr} {cl : Nat} {L : List MS} {K : List (List (List Int))} {cs : List St} {wr : World} {An : Option Addr} {cn : Nat} {Nx : List MS} {K' : List (List (List Int))} (h : Nxt X w bm Al cl L K cs wr An cn Nx K') {w1 w2 : World} {A2 : Option Addr}
    (hg : wr.grownBy w1 (some bm)) (hr : Grew w1 w2 An A2) {Al2 : Option Addr} {cl2 base : Nat} {L2 : List MS} (hx : LvM (GN bm An) base wr Al2 cl2 L2) : LvM (GN bm A2) base w2 Al2 cl2 L2 := by
  have hs1 : wr.heap.size ≤ w1.heap.size := hg.size
  refine hx.turn (Nat.le_trans hs1 hr.size) (fun b h1 h2 => (hr.block b (by omega) (fun e => h2 (.inr e.symm))).trans (hg.block b h1 (fun e => h2 (.inl (Option.some.inj e))))) (fun b h1 h2 => ?_)
  rcases h2 with h2 | h2
  · exact .inl h2
  · rcases hr.place with hp | hp
    · exact .inr (by rw [← hp]; exact h2)
    · have := hp b h2
      omega
theorem lv_cells {G : Nat → Prop} {base b : Nat} {w : World} {s : MS} (h0 : w.cell? ⟨b, 0, none⟩ = some (.slice s.A s.rs.length s.c)) (h1 : w.cell? ⟨b, 1, none⟩ = some (.int .i64 (s.d : Nat))) (h2 : w.cell? ⟨b, 2, none⟩ = some (.slice s.Am s.M.length s.cm)) (hb : b < w.heap.size) (hG : ¬ G b) (hs : MSok G base w s) :
    LvM G base w (some ⟨b, 0, none⟩) 1 [s] := by
  refine ⟨⟨by simp, by unfold maxLen; omega, fun i hi => ⟨⟨b, 0, none⟩, rfl, hb, hG, fun j u hu => ?_⟩⟩, fun t m => ?_⟩
  · simp only [List.map_cons, List.map_nil, List.length_cons, List.length_nil] at hi
    obtain rfl : i = 0 := by omega
    rw [Nat.zero_mul, Nat.zero_add, add_lit]
    simp only [List.map_cons, List.map_nil, List.getElem_cons_zero, MS.hdr, LSt] at hu
    match j with
    | 0 => simp at hu; subst hu; exact h0
    | 1 => simp at hu; subst hu; exact h1
    | 2 => simp at hu; subst hu; exact h2
    | j + 3 => simp at hu
  · rw [List.mem_singleton] at m
    subst m
    exact hs
theorem ms_box {G : Nat → Prop} {base : Nat} {w : World} {s : MS} (hs : MSok G base w s) (o : Obj) : MSok (fun b => G b ∨ b = w.heap.size) base (w.alloc o) s :=
  hs.turn (by simp) (fun b h _ => Below.heap_alloc _ _ b h) (fun b h h2 => h2.elim id (fun e => by omega))
theorem ms_set {G : Nat → Prop} {base b7 : Nat} {w w' : World} {s : MS} (hs : MSok (fun b => G b ∨ b = b7) base w s) (hz : w.heap.size ≤ w'.heap.size) (hb : ∀ b, b ≠ b7 → w'.heap[b]? = w.heap[b]?) : MSok G base w' s :=
  hs.turn hz (fun b _ h => hb b (fun e => h (.inr e))) (fun b _ h => .inl h)
/-- how many rounds there are at most -/
theorem rounds_of {X : List (List Int)} {o : List Int} (hv : Inv X o) : ∃ N, (∀ c K L, Lev X o c K L → c ≤ N → 0 < L.length → (∀ s ∈ L, s.d ≠ o.length) → c + 1 ≤ N) ∧ (∀ c K L, Lev X o c K L → c ≤ N → L.length = 0 → ∀ L' n', ¬ Sol X o L' n') ∧ N ≤ 37 := by
  by_cases h2 : X.length = 1 ∧ 0 < wayX o X
  · have hno := no_sol hv h2.1 h2.2
    refine ⟨1, fun c K L h hc hl _ => ?_, fun c K L h hc hl => hno, by omega⟩
    by_cases e : c = 0
    · omega
    · exfalso
      have e1 : c = 1 := by omega
      subst e1
      cases hL : L with
      | nil => rw [hL] at hl; simp at hl
      | cons s r =>
        have hp := h.path s (by rw [hL]; exact List.mem_cons_self)
        cases hp with
        | @step _ s i k hp hd hi hk hm =>
          have hl := (hp.good hv).len
          obtain ⟨m1, _⟩ := mvOk_parts (X := s.Y) (i := i) (k := k) (by omega) (by omega) hm
          omega
  · obtain ⟨L0, n, hs, hl, hn⟩ := least_some hv (fun e => by have : ¬ 0 < wayX o X := fun hw => h2 ⟨e, hw⟩; omega)
    have h6 := ord_len hv
    refine ⟨n, fun c K L h hc hl0 hno => ?_, fun c K L h hc hl0 => ?_, by omega⟩
    · by_cases e : c = n
      · obtain ⟨j, hj, hjd⟩ := (h.alive hv hs hl hc).2 e
        exact absurd hjd (hno _ (List.getElem_mem hj))
      · omega
    · have := (h.alive hv hs hl hc).1
      omega
/-- a child in the course of a level -/
theorem child_good {X : List (List Int)} {o : List Int} (hv : Inv X o) {c : Nat} {K : List (List (List Int))} {L : List St} (h : Lev X o c K L) {s : St} (hs : s ∈ L) (hd : s.d ≠ o.length) {i k : Nat} (hi : i < X.length) (hk : k < X.length) (hm : mvOk s.Y i k = true) :
    Good X o ⟨mvX s.Y i k, s.d, s.M ++ [((i : Int), (k : Int))]⟩ ∧ Good X o (child o s i k) := by
  have hg := (h.path s hs).good hv
  have h1 := hg.move hi hk hm (s.M ++ [((i : Int), (k : Int))])
  exact ⟨h1, h1.settle⟩
theorem wpL_app1m {α : Type} {L : Lay α} {P : Program} {w : World} {ops : Array Oper} {rest : List Oper} {o : Oper} {a : Act} {Q : Exit → Act → World → Prop} {t e : TypeId} {z : Value} {bytes : Nat} (hrow : TyRow P t e z L.sz bytes) (hz : z.cells.size = L.sz) (hgd : o.guard = none) (s x : Operand)
    (ho : o.op = .call { callee := .builtin .append, args := #[s, x], argTypes := #[t, t] }) {base c : Nat} {A : Option Addr} {xs : List α} {n : Nat} (hn : n = xs.length) (hs : a.eval s = .slice A n c) (hown : Own L e w base A c xs)
    (u : α) (cs : Array Value) (hcs : cs.toList = L.f u) {g : Nat} (hx : a.eval x = .slice (some ⟨g, 0, none⟩) 1 1) (hgw : g = w.heap.size)
    (h63 : n + 1 ≤ maxLen) (hbytes : (n + 1) * bytes ≤ 140737488355328) (hbase : base ≤ w.heap.size)
    (h : ∀ A' c' w', Own L e w' base A' c' (xs ++ [u]) → Grew w w' A A' → wpList P ops Q rest (a.put o.dst (.slice A' (n + 1) c')) w') : wpList P ops Q (o :: rest) a (w.alloc (.cells cs e)) := by
  subst hn
  exact wpL_app1 hrow hz hgd s x ho hs hown u cs hcs hx hgw h63 hbytes hbase h
end Go.Proofs.YtiefiikheaiekaaDoor
