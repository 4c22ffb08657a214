/-
  Drawn moves of a yard.
-/
import Derived.Test.YtiefiikheaiekaaDoorMovesRefB
import Derived.Test.YtiefiikheaiekaaDoorYardPlain3
import Derived.Test.YtiefiikheaiekaaDoorYardD
import Derived.Test.YtiefiikheaiekaaDoorYardsDraw
import Derived.Test.YtiefiikheaiekaaDoorSched
import Derived.Test.YtiefiikheaiekaaDoorYardL
/-
  FnLoads, the plain part: a greedy list loads the order; drawn orders and drawn moves.
-/
namespace Go.Proofs.YtiefiikheaiekaaDoor

theorem oc_inv {X : List (List Int)} {o : List Int} (h : Inv X o) : ocP X o = 0 := by
  unfold ocP
  rw [if_pos h.vy, if_pos]
  refine dB_yes (fun i hi => ⟨h.mem _ (List.getElem_mem hi), fun hm => ?_⟩)
  rw [List.mem_take_iff_getElem] at hm
  obtain ⟨j, hj, e⟩ := hm
  have := (List.getElem_inj h.nd).1 e
  omega
/-- a greedy list is taken by the reference's loader -/
theorem ldR_sol {X : List (List Int)} {o' : List Int} {L : List (Int × Int)} {n : Nat} (s : Sol X o' L n) : ∀ (o : List Int) (d : Nat), o' = o.drop d → d ≤ o.length → Inv X o' → ∃ Y, ldR o L X d = some (Y, o.length) := by
  induction s with
  | @done X =>
    intro o d h hd _
    have h1 := congrArg List.length h
    simp at h1
    have e : d = o.length := by omega
    subst e
    exact ⟨X, rfl⟩
  | @load X p r L n k hk s ih =>
    intro o d h hd hv
    have hdl : d < o.length := by
      by_cases hh : d < o.length
      · exact hh
      · rw [List.drop_of_length_le (by omega)] at h
        cases h
    rw [drop_at hdl] at h
    injection h with h1 h2
    obtain ⟨hkl, ht, hp⟩ := hv.next hk
    have hg : X.getD k [] = X[k] := getD_lt X [] hkl
    obtain ⟨Y, hY⟩ := ih o (d + 1) h2 hdl (hv.load hk).1
    refine ⟨Y, ?_⟩
    simp only [ldR]
    rw [if_pos (mvOk_off hkl hp), if_pos (by omega), Int.toNat_natCast, hg, if_pos ⟨hdl, by rw [ht, h1, getD_lt o 0 hdl]⟩]
    exact hY
  | @move X p r L n i k hn hi hk hm s ih =>
    intro o d h hd hv
    obtain ⟨Y, hY⟩ := ih o d h hd (hv.move hi hk hm)
    refine ⟨Y, ?_⟩
    simp only [ldR]
    rw [if_pos hm, if_neg (by omega)]
    exact hY
theorem ld_sol {X : List (List Int)} {o : List Int} {L : List (Int × Int)} {n : Nat} (hv : Inv X o) (s : Sol X o L n) (hn : n ≤ 36) : (ldP X o L).2 = 0 := by
  obtain ⟨Y, hY⟩ := ldR_sol s o 0 rfl (Nat.zero_le _) hv
  have h := ld_same o L X 0 (Nat.zero_le _)
  rw [hY] at h
  have h6 := ord_len hv
  have hl := s.len
  unfold ldP
  rw [if_pos (oc_inv hv), if_pos (by omega)]
  rw [List.take_zero] at h
  rw [← h]
  simp [finR]
/-- moves between stacks -/
def cntM (L : List (Int × Int)) : Nat := (L.filter fun m => decide (0 ≤ m.2)).length
theorem cntM_snoc (L : List (Int × Int)) (m : Int × Int) : cntM (L ++ [m]) = cntM L + if 0 ≤ m.2 then 1 else 0 := by
  unfold cntM
  rw [List.filter_append, List.length_append]
  by_cases h : 0 ≤ m.2 <;> simp [h]
theorem cntM_take {L : List (Int × Int)} {k : Nat} (h : k < L.length) : cntM (L.take (k + 1)) = cntM (L.take k) + if 0 ≤ L[k].2 then 1 else 0 := by
  rw [List.take_succ_eq_append_getElem h, cntM_snoc]
theorem cntM_le (L : List (Int × Int)) : cntM L ≤ L.length := List.length_filter_le _ _
theorem Sol.cnt {X : List (List Int)} {o : List Int} {L : List (Int × Int)} {n : Nat} (s : Sol X o L n) : cntM L = n := by
  induction s with
  | done => rfl
  | load _ _ ih => unfold cntM at ih ⊢; simpa using ih
  | move _ _ _ _ _ ih => unfold cntM at ih ⊢; simpa using ih
theorem Sol.ok {X : List (List Int)} {o : List Int} {L : List (Int × Int)} {n : Nat} (s : Sol X o L n) : X.length ≤ 4 → ∀ m ∈ L, -1 ≤ m.1 ∧ m.1 ≤ 4 ∧ -1 ≤ m.2 ∧ m.2 ≤ 4 := by
  induction s with
  | done => intro _ m hm; cases hm
  | @load X p r L n k hk _ ih =>
    intro h4 m hm
    rcases List.mem_cons.1 hm with rfl | hm
    · obtain ⟨h1, _⟩ := nextK_some hk
      simp only
      omega
    · exact ih (by rw [mvX_len]; exact h4) m hm
  | @move X p r L n i k _ hi hk _ _ ih =>
    intro h4 m hm
    rcases List.mem_cons.1 hm with rfl | hm
    · simp only
      omega
    · exact ih (by rw [mvX_len]; exact h4) m hm
theorem ld_nil {X : List (List Int)} {o : List Int} (hv : Inv X o) (h : (ldP X o []).2 = 0) : o = [] := by
  unfold ldP at h
  rw [if_pos (oc_inv hv), if_pos (by simp)] at h
  simp only [ldI, finI] at h
  by_cases e : ([] : List Int) = o
  · exact e.symm
  · rw [if_neg e] at h
    simp at h

/-! ## drawn moves -/
theorem fd_in {X : List (List Int)} {p : Int} (hp : p ∈ X.flatten) : ∃ (i k : Nat) (hi : i < X.length) (hk : k < X[i].length), fdP X p = ((i : Int), (k : Int)) ∧ X[i][k] = p := by
  rcases fdP_cases X p with ⟨_, hno⟩ | ⟨i, k, hi, hk, h1, h2, _⟩
  · exfalso
    obtain ⟨j, hj, hb⟩ := mem_flat.1 hp
    rw [hno j hj] at hb
    cases hb
  · exact ⟨i, k, hi, hk, h1, h2⟩
/-- at the pack's stack: on top, or nowhere on top -/
theorem nextK_at {X : List (List Int)} {p : Int} (hv : vyB X = true) {i k : Nat} (hi : i < X.length) (hk : k < X[i].length) (e : X[i][k] = p) : (topL X[i] = p → nextK X p = some i) ∧ (topL X[i] ≠ p → nextK X p = none) := by
  have hp1 : 1 ≤ p := by
    have := (dB_true hv).2.2.1 p (List.mem_flatten.2 ⟨X[i], List.getElem_mem hi, e ▸ List.getElem_mem hk⟩)
    omega
  have hone : ∀ j (hj : j < X.length), topL X[j] = p → j = i := fun j hj ht => by
    have hl : 0 < X[j].length := by
      by_cases h0 : X[j].length = 0
      · rw [top_none h0] at ht
        omega
      · omega
    have h2 : X[j][X[j].length - 1]'(by omega) = p := by
      rw [← ht]
      exact ((top_at hv hj (k := X[j].length - 1) (by omega)).2 rfl).symm
    exact (nodup_at (dB_true hv).2.2.2 j i _ k hj hi (by omega) hk (h2.trans e.symm)).1
  constructor
  · intro ht
    cases hn : nextK X p with
    | none => exact absurd ht (nextK_none hn i hi)
    | some j =>
      obtain ⟨hj, h1⟩ := nextK_some hn
      rw [hone j hj h1]
  · intro ht
    cases hn : nextK X p with
    | none => rfl
    | some j =>
      obtain ⟨hj, h1⟩ := nextK_some hn
      have := hone j hj h1
      subst this
      exact absurd h1 ht
/-- what has been drawn so far is the beginning of a greedy list -/
structure Drn (X : List (List Int)) (o : List Int) (Y : List (List Int)) (i : Nat) (L : List (Int × Int)) : Prop where
  inv : Inv Y (o.drop i)
  len : Y.length = X.length
  sol : ∀ M n, Sol Y (o.drop i) M n → Sol X o (L ++ M) (cntM L + n)
theorem Drn.start {X : List (List Int)} {o : List Int} (h : Inv X o) : Drn X o X 0 [] := ⟨h, rfl, fun M n s => by have : Sol X o M n := s; simpa [cntM] using this⟩
theorem Drn.load {X Y : List (List Int)} {o : List Int} {i k : Nat} {L : List (Int × Int)} (h : Drn X o Y i L) (hi : i < o.length) (hk : nextK Y o[i] = some k) : Drn X o (mvX Y k (-1)) (i + 1) (L ++ [((k : Int), -1)]) := by
  have hv := h.inv
  rw [drop_at hi] at hv
  refine ⟨(hv.load hk).1, (mvX_len _ _ _).trans h.len, fun M n s => ?_⟩
  have h1 := h.sol (((k : Int), -1) :: M) n (by rw [drop_at hi]; exact .load hk s)
  rw [cntM_snoc]
  simpa using h1
theorem Drn.move {X Y : List (List Int)} {o : List Int} {i a b : Nat} {L : List (Int × Int)} (h : Drn X o Y i L) (hi : i < o.length) (hn : nextK Y o[i] = none) (ha : a < Y.length) (hb : b < Y.length) (hm : mvOk Y a b = true) : Drn X o (mvX Y a b) i (L ++ [((a : Int), (b : Int))]) := by
  refine ⟨h.inv.move ha hb hm, (mvX_len _ _ _).trans h.len, fun M n s => ?_⟩
  rw [drop_at hi] at s
  have h1 := h.sol (((a : Int), (b : Int)) :: M) (n + 1) (by rw [drop_at hi]; exact .move hn ha hb hm s)
  rw [cntM_snoc, if_pos (by show (0 : Int) ≤ (b : Int); omega), show cntM L + 1 + n = cntM L + (n + 1) by omega]
  simpa using h1
theorem Drn.fin {X Y : List (List Int)} {o : List Int} {i : Nat} {L : List (Int × Int)} (h : Drn X o Y i L) (hi : o.length ≤ i) : Sol X o L (cntM L) := by
  have h1 := h.sol [] 0 (by rw [List.drop_of_length_le hi]; exact .done)
  simpa using h1
/-- after a move from the pack's stack the pack is where it was -/
theorem mv_at {X : List (List Int)} {a b : Nat} (ha : a < X.length) (hb : b < X.length) (hne : b ≠ a) (h0 : 0 < X[a].length) (h' : a < (mvX X a b).length) : (mvX X a b)[a] = X[a].take (X[a].length - 1) := by
  have hbo := mvX_both X ha hb hne
  rw [getD_lt X [] ha, getD_lt X [] hb] at hbo
  have h3 : (mvX X a b)[a]? = some (X[a].take (X[a].length - 1)) := by
    rw [hbo, List.getElem?_set_ne hne, List.getElem?_set_self ha]
  rw [List.getElem?_eq_getElem h'] at h3
  exact Option.some.inj h3

theorem top_ne {X : List (List Int)} (hv : vyB X = true) {a h0 : Nat} {zs : List Int} {p : Int} (ha : a < X.length) (e : X[a] = zs) (h : zs[h0]? = some p) (ht : topL zs ≠ p) : h0 + 1 < zs.length := by
  subst e
  obtain ⟨hh, he⟩ := List.getElem?_eq_some_iff.1 h
  have h1 : h0 ≠ X[a].length - 1 := fun e2 => ht (((top_at hv ha hh).2 e2).trans he)
  omega

/-! ## drawn orders -/
structure Ord (X : List (List Int)) (i k : Nat) (o : List Int) : Prop where
  nd : o.Nodup
  sub : ∀ p ∈ o, p ∈ pre X i k
theorem Ord.start (X : List (List Int)) : Ord X 0 0 [] := ⟨List.nodup_nil, fun p h => by cases h⟩
theorem Ord.skip {X : List (List Int)} {i k : Nat} {o : List Int} (h : Ord X i k o) (hk : k < (X.getD i []).length) : Ord X i (k + 1) o :=
  ⟨h.nd, fun p hp => by rw [pre_step X hk]; exact List.mem_append_left _ (h.sub p hp)⟩
theorem Ord.next {X : List (List Int)} {i : Nat} {o : List Int} (h : Ord X i (X.getD i []).length o) (hi : i < X.length) : Ord X (i + 1) 0 o :=
  ⟨h.nd, fun p hp => by rw [← pre_next X hi]; exact h.sub p hp⟩
theorem Ord.put {X : List (List Int)} {i k a : Nat} {o : List Int} (h : Ord X i k o) (hv : vyB X = true) (hi : i < X.length) (hk : k < (X.getD i []).length) : Ord X i (k + 1) (o.take a ++ [(X.getD i [])[k]] ++ o.drop a) := by
  have hp : (o.take a ++ [(X.getD i [])[k]] ++ o.drop a).Perm ((X.getD i [])[k] :: o) := by
    have h1 : (o.take a ++ [(X.getD i [])[k]]).Perm ((X.getD i [])[k] :: o.take a) := List.perm_append_comm
    have h2 := h1.append_right (o.drop a)
    rw [List.cons_append, List.take_append_drop] at h2
    exact h2
  have hnm : (X.getD i [])[k] ∉ pre X i k := by
    obtain ⟨r, hr⟩ := pre_split X hi hk
    have hn := (dB_true hv).2.2.2
    rw [hr] at hn
    intro hm
    first
      | exact (List.nodup_append.1 hn).2.2 _ hm _ List.mem_cons_self rfl
      | (rw [List.append_assoc] at hn; exact (List.nodup_append.1 hn).2.2 _ hm _ (by simp) rfl)
  refine ⟨hp.nodup_iff.2 (List.nodup_cons.2 ⟨fun hm => hnm (h.sub _ hm), h.nd⟩), fun p hp2 => ?_⟩
  rw [pre_step X hk]
  rcases List.mem_cons.1 (hp.mem_iff.1 hp2) with rfl | hm
  · simp
  · exact List.mem_append_left _ (h.sub p hm)
theorem Ord.fin {X : List (List Int)} {o : List Int} (h : Ord X X.length 0 o) (hv : vyB X = true) : Inv X o :=
  ⟨hv, fun p hp => by rw [← pre_end X]; exact h.sub p hp, h.nd⟩
theorem pre_len_le {X : List (List Int)} (hv : vyB X = true) {i k : Nat} {o : List Int} (h : Ord X i k o) : o.length ≤ 6 := by
  have hsub : ∀ p ∈ o, p ∈ X.flatten := fun p hp => by
    have h1 := h.sub p hp
    unfold pre at h1
    rcases List.mem_append.1 h1 with h1 | h1
    · obtain ⟨s, hs, hps⟩ := List.mem_flatten.1 h1
      exact List.mem_flatten.2 ⟨s, List.mem_of_mem_take hs, hps⟩
    · by_cases hi : i < X.length
      · rw [getD_lt X [] hi] at h1
        exact List.mem_flatten.2 ⟨X[i], List.getElem_mem hi, List.mem_of_mem_take h1⟩
      · rw [List.getD_eq_getElem?_getD, List.getElem?_eq_none (by omega)] at h1
        simp at h1
  exact ord_len ⟨hv, hsub, h.nd⟩
end Go.Proofs.YtiefiikheaiekaaDoor
/-
  A drawn order of a yard.
-/
namespace Go.Proofs.YtiefiikheaiekaaDoor
open Go.ChangeShapes Go.WideShapes Go.RowKit

theorem wpL_appm {α : Type} {L : Lay α} {P : Program} {w : World} {ops : Array Oper} {rest : List Oper} {o : Oper} {a : Act} {Q : Exit → Act → World → Prop} {t e : TypeId} {z : Value} {bytes : Nat} (hrow : TyRow P t e z L.sz bytes) (hz : z.cells.size = L.sz) (hgd : o.guard = none) (s x : Operand)
    (ho : o.op = .call { callee := .builtin .append, args := #[s, x], argTypes := #[t, t] }) {base c : Nat} {A : Option Addr} {xs : List α} {n : Nat} (hn : n = xs.length) (hs : a.eval s = .slice A n c) (hown : Own L e w base A c xs)
    (ao : Option Addr) (m cc : Nat) (news : List α) (hx : a.eval x = .slice ao m cc) (hm : news.length = m) (hao : ao = none → m = 0 ∧ cc = 0) (hnews : ∀ ad, ao = some ad → ∀ j u, (news.flatMap L.f)[j]? = some u → w.cell? (ad.add j) = some u)
    (h63 : n + m ≤ maxLen) (hbytes : (n + m) * bytes ≤ 140737488355328) (hbase : base ≤ w.heap.size)
    (h : ∀ A' c' w', Own L e w' base A' c' (xs ++ news) → Grew w w' A A' → wpList P ops Q rest (a.put o.dst (.slice A' (n + m) c')) w') : wpList P ops Q (o :: rest) a w := by
  subst hn
  subst hm
  refine wpL_app hrow hz hgd s x ho hs hown ao _ cc news hx rfl hao hnews h63 hbytes hbase (fun A' c' w' h1 h2 => ?_)
  rw [List.length_append]
  exact h A' c' w' h1 h2
theorem stepL_app1m {α : Type} {L : Lay α} {P : Program} {w : World} {ops : Array Oper} {o : Oper} {a : Act} {K : Act → World → Prop} {Q : Exit → Act → World → Prop} {E : Prop} {t e : TypeId} {z : Value} {bytes : Nat} (hrow : TyRow P t e z L.sz bytes) (hz : z.cells.size = L.sz) (hgd : o.guard = none) (s x : Operand)
    (ho : o.op = .call { callee := .builtin .append, args := #[s, x], argTypes := #[t, t] }) {base c : Nat} {A : Option Addr} {xs : List α} {n : Nat} (hn : n = xs.length) (hs : a.eval s = .slice A n c) (hown : Own L e w base A c xs)
    (u : α) {g : Nat} (hx : a.eval x = .slice (some ⟨g, 0, none⟩) 1 1) (hu : ∀ j v, (L.f u)[j]? = some v → w.cell? ⟨g, j, none⟩ = some v)
    (h63 : n + 1 ≤ maxLen) (hbytes : (n + 1) * bytes ≤ 140737488355328) (hbase : base ≤ w.heap.size)
    (h : ∀ A' c' w', Own L e w' base A' c' (xs ++ [u]) → Grew w w' A A' → K (a.put o.dst (.slice A' (n + 1) c')) w') :
    if Region.wanted o (yielded ops a.tmps) = true then Oper.wp P o a w K Q else E := by
  subst hn
  exact stepL_app1 hrow hz hgd s x ho hs hown u hx hu h63 hbytes hbase h
theorem Rd.drK {w : World} {B c : Nat} {ad : Addr} {xs : List Int} (h : Rd LI w B (some ad) c xs) (k : Nat) (hk : k ≤ xs.length) {X : Addr} (hX : X = if c = k then ad else ad.add k) : ∀ ad', some X = some ad' → ∀ j u, ((xs.drop k).flatMap LI.f)[j]? = some u → w.cell? (ad'.add j) = some u := by
  intro ad' e j u hu
  cases e
  have hle := h.le
  by_cases hc : c = k
  · rw [List.drop_of_length_le (by omega)] at hu
    simp at hu
  · rw [if_neg hc] at hX
    subst hX
    have hf := h.flat ad rfl (k + j) u
    rw [add_of_add]
    apply hf
    have e2 : xs.flatMap LI.f = (xs.take k).flatMap LI.f ++ (xs.drop k).flatMap LI.f := by rw [← List.flatMap_append, List.take_append_drop]
    have e3 : ((xs.take k).flatMap LI.f).length = k := by rw [flat_len, List.length_take, Nat.min_eq_left hk]; simp [LI]
    rw [e2, List.getElem?_append_right (by omega), e3, Nat.add_sub_cancel_left]
    exact hu

set_option maxRecDepth 100000 in
set_option maxHeartbeats 6400000 in
theorem specA2Order_any (A : Option Addr) (c : Nat) (cs : List Int) (A1 : Option Addr) (c1 : Nat) (rs : List (Row Int)) (w : World) (hr : Rd LU w w.heap.size A c cs) (hb : ∀ x ∈ cs, 0 ≤ x ∧ x ≤ 255) (hy : RdR LI w w.heap.size A1 c1 rs) (hv : vyB (dat rs) = true) :
    Calls Tryd.prog 22 #[.slice A cs.length c, .slice A1 rs.length c1] w fun e w' => ∃ (B : Option Addr) (d : Nat) (o : List Int), e = .returned (.slice B o.length d) ∧ Own LI 2 w' w.heap.size B d o ∧ Inv (dat rs) o ∧ Below w.heap.size w w' := by
  have hc := from_at w.heap.size A c cs w rfl hr (Nat.le_refl _) hb
  have hlen := hy.len63
  obtain ⟨vr4, vr6⟩ := vy_rows hv
  rw [dat_len] at vr4
  have HX := Lib.hid (dat_len rs)
  have HV := Lib.hid hv
  have HY := Lib.hid hy
  have HRB := Lib.hid (show ∀ s ∈ rs, s.2.2.length ≤ 6 from fun s hs => vr6 _ (List.mem_map.2 ⟨s, hs, rfl⟩))
  have HGD := Lib.hid (fun i hi => getD_datY rs i hi)
  clear hr hb hy hv vr6
  go_enter Tryd.func22, Tryd.ntmps22
  go_wp2_with fail
  refine hc.mono ?_
  rintro e w1 ⟨rfl, hS, hb1⟩
  have HB1 := Lib.hid hb1
  have hs1 := hb1.size
  have hg1 := hS.g1
  have HS0 := Lib.hid (hS.below ((Below.refl _ w1).alloc (Nat.le_refl _) (.cells #[] 2)))
  have HO0 := Lib.hid (Own.lit0 (L := LI) (T := 2) (base := w1.heap.size) (g := w1.heap.size) w1 (Nat.le_refl _) rfl)
  have HB0 := Lib.hid (hb1.alloc (by omega) (.cells #[] 2))
  clear hc hS hb1
  go_wp2_with fail
  go_loopw [6, 7] (fun out idx wr => ∃ (i : Nat) (gb : Nat) (d : Nat) (o : List Int), i ≤ rs.length ∧ out = .slice (some ⟨gb, 0, none⟩) o.length d ∧ idx = .int .i64 i ∧ Hid (Ord (dat rs) i 0 o) ∧ Hid (Own LI 2 wr w1.heap.size (some ⟨gb, 0, none⟩) d o) ∧ Hid (Sr wr w.heap.size A c cs (40 * i)) ∧ Hid (Below w.heap.size w wr) ∧ w1.heap.size < wr.heap.size) (fun _ idx _ => rs.length - (intOf idx).toNat)
  case atStart => exact ⟨0, w1.heap.size, 0, [], by omega, rfl, rfl, Lib.hid (Ord.start _), HO0, HS0, HB0, by simp⟩
  case round =>
    obtain ⟨i, gb, d, o, hi, rfl, rfl, HOr, HO, HS, HB, hsz⟩ := hrel
    have hol : o.length ≤ 9223372036854775807 := HO.out.len63
    by_cases hil : i < rs.length
    · have hili : (i : Int) < rs.length := by omega
      obtain ⟨wo, rfl⟩ : ∃ wo : World, wo = wr := ⟨_, rfl⟩
      go_wp2_with fail
      go_loopw [6, 8] (fun out idx wr => ∃ (k : Nat) (gb : Nat) (d : Nat) (o : List Int), k ≤ rs[i].2.2.length ∧ out = .slice (some ⟨gb, 0, none⟩) o.length d ∧ idx = .int .i64 k ∧ Hid (Ord (dat rs) i k o) ∧ Hid (Own LI 2 wr w1.heap.size (some ⟨gb, 0, none⟩) d o) ∧ Hid (Sr wr w.heap.size A c cs (40 * i + 4 * k)) ∧ Hid (Below w.heap.size w wr) ∧ w1.heap.size < wr.heap.size) (fun _ idx _ => rs[i].2.2.length - (intOf idx).toNat)
      case atStart => exact ⟨0, gb, d, o, by omega, rfl, rfl, HOr, HO, HS, HB, hsz⟩
      case round =>
        clear HOr HO HS HB hsz hol
        obtain ⟨k, gb, d, o, hk, rfl, rfl, HOr, HO, HS, HB, hsz⟩ := hrel
        have hol : o.length ≤ 9223372036854775807 := HO.out.len63
        have ho6 := pre_len_le HV.out HOr.out
        have HRI := Lib.hid (HRB.out rs[i] (List.getElem_mem hil))
        obtain ⟨ad, rfl, hadb, hcell, hrow⟩ := (HY.out.below HB.out).at_ hil
        have HGI := Lib.hid (HGD.out i hil)
        have HROW := Lib.hid hrow
        obtain ⟨zs, hzs⟩ : ∃ zs, zs = rs[i].2.2 := ⟨_, rfl⟩
        obtain ⟨Az, hAz⟩ : ∃ Az, Az = rs[i].1 := ⟨_, rfl⟩
        obtain ⟨cz, hcz⟩ : ∃ cz, cz = rs[i].2.1 := ⟨_, rfl⟩
        rw [← hzs] at hcell HGI HROW HRI hk ⊢
        rw [← hAz, ← hcz] at hcell HROW
        clear hrow hzs hAz hcz
        have hzl : zs.length ≤ 6 := HRI.out
        by_cases hkl : k < zs.length
        · have hkli : (k : Int) < zs.length := by omega
          have hone := one_any 3 w.heap.size A c cs (40 * i + 4 * k) wr HS.out (by omega) (by omega)
          have hkd : k < ((dat rs).getD i []).length := by rw [HGI.out]; exact hkl
          have HKD := Lib.hid hkd
          have HNG : Hid (blk (some (⟨gb, 0, none⟩ : Addr)) ≠ some w.heap.size) := Lib.hid (fun e => by have := (HO.out.blk_lt _ e).1; omega)
          clear hkd
          go_wp2_with fail
          refine hone.mono ?_
          rintro e w2 ⟨q, rfl, hS2, hF2⟩
          have HS2 := Lib.hid hS2
          have HF2 := Lib.hid hF2
          have HO2 := Lib.hid (hF2.own HO.out HNG.out)
          have hszr : w.heap.size ≤ wr.heap.size := HB.out.size
          have HB2 := Lib.hid (HB.out.trans (hF2.below (B := w.heap.size) hszr (Nat.le_refl _)))
          have hs2 := hF2.size
          have hcell2 := (HB2.out.cell (p := ad.add i) (by rw [block_of_add]; exact hadb)).trans (show w.cell? (ad.add i) = some (.slice Az zs.length cz) from by rw [← HB.out.cell (p := ad.add i) (by rw [block_of_add]; exact hadb)]; exact hcell)
          clear hone hS2 hF2
          cases q
          · have hpk := pick_any ((o.length : Int) + 1) w.heap.size A c cs (40 * i + 4 * k + 2) w2 HS2.out (by omega) (by omega)
            go_wp2_with fail
            refine hpk.mono ?_
            rintro e w3 ⟨v, rfl, hv0, hv1, hS3, hF3⟩
            obtain ⟨a, rfl⟩ : ∃ a : Nat, v = (a : Int) := ⟨v.toNat, by omega⟩
            have ha : a ≤ o.length := by omega
            have hai : (a : Int) ≤ o.length := by omega
            have HS3 := Lib.hid hS3
            have HO3 := Lib.hid (hF3.own HO2.out HNG.out)
            have HB3 := Lib.hid (HB2.out.trans (hF3.below (B := w.heap.size) (by omega) (Nat.le_refl _)))
            have hs3 := hF3.size
            have hcell3 := (HB3.out.cell (p := ad.add i) (by rw [block_of_add]; exact hadb)).trans (show w.cell? (ad.add i) = some (.slice Az zs.length cz) from by rw [← HB.out.cell (p := ad.add i) (by rw [block_of_add]; exact hadb)]; exact hcell)
            obtain ⟨az, rfl, hazb, hcz⟩ := (((HROW.out.below (Below.refl _ _)))).int hkl
            obtain ⟨x, hx⟩ : ∃ x, x = zs[k] := ⟨_, rfl⟩
            have HXE := Lib.hid hx
            rw [← hx] at hcz
            have hcz3 := (HB3.out.cell (p := az.add k) (by rw [block_of_add]; exact hazb)).trans (show w.cell? (az.add k) = some (.int .i64 x) from by rw [← HB.out.cell (p := az.add k) (by rw [block_of_add]; exact hazb)]; exact hcz)
            have had := HO3.out.le
            have hadi : (o.length : Int) ≤ d := by omega
            have had2 : a ≤ d := by omega
            have hdcap : d ≤ 9223372036854775807 := by have := HO3.out.cap; unfold maxLen at this; omega
            have hbz : w1.heap.size ≤ w3.heap.size := by omega
            have hown : ∀ W, Rd LI W w3.heap.size (some ⟨gb, 0, none⟩) d o → w3.heap.size ≤ W.heap.size → Calls Tryd.prog 36 #[.slice (some ⟨gb, 0, none⟩) a d] W fun e w' => ∃ A' c', e = .returned (.slice A' a c') ∧ Own LI 2 w' W.heap.size A' c' (o.take a) ∧ Below W.heap.size W w' := fun W h1 h2 => by
              have h := l00Own_any (some ⟨gb, 0, none⟩) d (o.take a) w3.heap.size W (h1.take a) h2 (by rw [List.length_take]; omega) (fun e => by cases e)
              rw [List.length_take, Nat.min_eq_left ha] at h
              exact h
            have HOWN := Lib.hid hown
            clear hpk hS3 hF3 hx hown
            go_upto_region 11 with fail
            refine wp_region_noPanic ?_
            refine startS (S := fun W => W.cell? (ad.add i) = some (.slice (some az) zs.length cz) ∧ W.cell? (az.add k) = some (.int .i64 x)) 14 (by kernel_rfl) (by kernel_rfl) ⟨hcell3, hcz3⟩ (fun hHeld => ?_)
            refine withS 14 [0, 1, 2, 4, 5, 6, 7, 8, 9, 10, 13] (by as_aux_lemma => kernel_rfl) (by kernel_rfl) (by kernel_rfl) (fun _ _ _ _ _ h => h) ?_
            intro HFR HNS HSZ HQP
            focus
              refine takeS (i := 0) (v := ?_) HFR.out HNS.out HSZ.out HQP.out rfl (by kernel_rfl) (by kernel_rfl) (by decide) (by kernel_rfl) (Or.inl ⟨by rfl, ?_⟩) hHeld rfl (by dsimp only [List.set_cons_succ, List.set_cons_zero]) ?_
              rotate_left
              · intro w hSw; clear hSw; go_simp; (try with_reducible rfl)
            focus
              refine takeS (i := 1) (v := ?_) HFR.out HNS.out HSZ.out HQP.out rfl (by kernel_rfl) (by kernel_rfl) (by decide) (by kernel_rfl) (Or.inl ⟨by rfl, ?_⟩) hHeld rfl (by dsimp only [List.set_cons_succ, List.set_cons_zero]) ?_
              rotate_left
              · intro w hSw; clear hSw; go_simp; (try with_reducible rfl)
            focus
              refine takeS (i := 2) (v := ?_) HFR.out HNS.out HSZ.out HQP.out rfl (by kernel_rfl) (by kernel_rfl) (by decide) (by kernel_rfl) (Or.inl ⟨by rfl, ?_⟩) hHeld rfl (by dsimp only [List.set_cons_succ, List.set_cons_zero]) ?_
              rotate_left
              · intro w hSw; clear hSw; go_simp; (try with_reducible rfl)
            focus
              refine takeS (i := 4) (v := ?_) HFR.out HNS.out HSZ.out HQP.out rfl (by kernel_rfl) (by kernel_rfl) (by decide) (by kernel_rfl) (Or.inl ⟨by rfl, ?_⟩) hHeld rfl (by dsimp only [List.set_cons_succ, List.set_cons_zero]) ?_
              rotate_left
              · intro w hSw; clear hSw; go_simp; (try with_reducible rfl)
            focus
              refine takeS (i := 5) (v := ?_) HFR.out HNS.out HSZ.out HQP.out rfl (by kernel_rfl) (by kernel_rfl) (by decide) (by kernel_rfl) (Or.inl ⟨by rfl, ?_⟩) hHeld rfl (by dsimp only [List.set_cons_succ, List.set_cons_zero]) ?_
              rotate_left
              · intro w hSw; clear hSw; go_simp; (try with_reducible rfl)
            focus
              refine takeS (i := 6) (v := ?_) HFR.out HNS.out HSZ.out HQP.out rfl (by kernel_rfl) (by kernel_rfl) (by decide) (by kernel_rfl) (Or.inl ⟨by rfl, ?_⟩) hHeld rfl (by dsimp only [List.set_cons_succ, List.set_cons_zero]) ?_
              rotate_left
              · intro w hSw; clear hSw; go_simp; (try with_reducible rfl)
            focus
              refine takeS (i := 7) (v := ?_) HFR.out HNS.out HSZ.out HQP.out rfl (by kernel_rfl) (by kernel_rfl) (by decide) (by kernel_rfl) (Or.inl ⟨by rfl, ?_⟩) hHeld rfl (by dsimp only [List.set_cons_succ, List.set_cons_zero]) ?_
              rotate_left
              · intro w hSw; obtain ⟨hS0, hS1⟩ := hSw; go_simp; (try with_reducible rfl)
            focus
              refine takeS (i := 8) (v := ?_) HFR.out HNS.out HSZ.out HQP.out rfl (by kernel_rfl) (by kernel_rfl) (by decide) (by kernel_rfl) (Or.inl ⟨by rfl, ?_⟩) hHeld rfl (by dsimp only [List.set_cons_succ, List.set_cons_zero]) ?_
              rotate_left
              · intro w hSw; clear hSw; go_simp; (try with_reducible rfl)
            focus
              refine takeS (i := 9) (v := ?_) HFR.out HNS.out HSZ.out HQP.out rfl (by kernel_rfl) (by kernel_rfl) (by decide) (by kernel_rfl) (Or.inl ⟨by rfl, ?_⟩) hHeld rfl (by dsimp only [List.set_cons_succ, List.set_cons_zero]) ?_
              rotate_left
              · intro w hSw; clear hSw; go_simp; (try with_reducible rfl)
            focus
              refine takeS (i := 10) (v := ?_) HFR.out HNS.out HSZ.out HQP.out rfl (by kernel_rfl) (by kernel_rfl) (by decide) (by kernel_rfl) (Or.inl ⟨by rfl, ?_⟩) hHeld rfl (by dsimp only [List.set_cons_succ, List.set_cons_zero]) ?_
              rotate_left
              · intro w hSw; obtain ⟨hS0, hS1⟩ := hSw; go_simp; (try with_reducible rfl)
            have HB := Lib.hid ((Below.refl w3.heap.size w3).drew)
            generalize w3.drew = W0 at *
            refine callS2 (i := 3) (j := 11) HSZ.out (by kernel_rfl) (by kernel_rfl) rfl rfl (fun K hK => ?_) (fun K hK => ?_)
            · skip
              go_simp
              (with_reducible refine (HOWN.out _ ((HO3.out.rd.below HB.out) : Rd LI _ _ _ _ _) HB.out.size).mono ?_)
              rintro e W1 ⟨A4, c4, rfl, ho4, hbs⟩
              have HB4 := Lib.hid (bthen HB.out (Nat.le_refl _) hbs)
              refine hK.out _ _ ⟨(HB4.out.cell (p := ad.add i) (by rw [block_of_add]; omega)).trans hcell3, (HB4.out.cell (p := az.add k) (by rw [block_of_add]; omega)).trans hcz3⟩ (fun hHeldN => ?_)
              clear hK K hHeld
              try simp only [Act.put, List.setIfInBounds_toArray, List.set_cons_zero, List.set_cons_succ]
              have hHeld := hHeldN
              clear hHeldN
              have HC := Lib.hid (ho4.lower HB.out.size)
              clear HB
              have HB := HB4
              clear HB4 hbs ho4
              refine callS (i := 11) HSZ.out (by kernel_rfl) (by kernel_rfl) rfl (fun K hK => ?_)
              go_simp
              have hbs : Below W1.heap.size W1 (W1.alloc (.cells #[.int .i64 x] 2)) := (Below.refl _ _).alloc (Nat.le_refl _) _
              have HB4 := Lib.hid (bthen HB.out (Nat.le_refl _) hbs)
              refine hK.out _ _ ⟨(HB4.out.cell (p := ad.add i) (by rw [block_of_add]; omega)).trans hcell3, (HB4.out.cell (p := az.add k) (by rw [block_of_add]; omega)).trans hcz3⟩ (fun hHeldN => ?_)
              clear hK K hHeld
              try simp only [Act.put, List.setIfInBounds_toArray, List.set_cons_zero, List.set_cons_succ]
              have hHeld := hHeldN
              clear hHeldN
              have HC9 := Lib.hid (show ∀ (j : Nat) (v : Value), (LI.f x)[j]? = some v → (W1.alloc (.cells #[.int .i64 x] 2)).cell? ⟨W1.heap.size, j, none⟩ = some v from fun j v hv => by rw [World.cell?_alloc_at (hn := rfl)]; simpa [LI] using hv)
              have HC' := Lib.hid (HC.out.below hbs)
              clear HC HB
              have HC := HC'
              have HB := HB4
              clear HC' HB4 hbs
              generalize W1.alloc (.cells #[.int .i64 x] 2) = W2 at *
              refine callS (i := 12) HSZ.out (by kernel_rfl) (by kernel_rfl) rfl (fun K hK => ?_)
              refine stepL_app1m (L := LI) rowI rfl rfl _ _ rfl (xs := o.take a) (n := a) (by rw [List.length_take, Nat.min_eq_left ha]) rfl HC.out x rfl HC9.out (by unfold maxLen; omega) (by omega) HB.out.size ?_
              intro A7 c7 W7 ho7 hg7
              have HB4 := Lib.hid (Grew.below HB.out hg7 HB.out.size (fun b e => (HC.out.blk_lt b e).1))
              refine hK.out _ _ ⟨(HB4.out.cell (p := ad.add i) (by rw [block_of_add]; omega)).trans hcell3, (HB4.out.cell (p := az.add k) (by rw [block_of_add]; omega)).trans hcz3⟩ (fun hHeldN => ?_)
              clear hK K hHeld
              try simp only [Act.put, List.setIfInBounds_toArray, List.set_cons_zero, List.set_cons_succ]
              have hHeld := hHeldN
              clear hHeldN
              have HA := Lib.hid ho7
              clear HB
              have HB := HB4
              clear HB4 HC HC9 ho7 hg7
              focus
                refine takeS (i := 13) (v := ?_) HFR.out HNS.out HSZ.out HQP.out rfl (by kernel_rfl) (by kernel_rfl) (by decide) (by kernel_rfl) (Or.inl ⟨by rfl, ?_⟩) hHeld rfl (by dsimp only [List.set_cons_succ, List.set_cons_zero]) ?_
                rotate_left
                · intro w hSw; clear hSw; go_simp; (try with_reducible rfl)
              refine doneS HSZ.out (by kernel_rfl) (by kernel_rfl) (NoPanic.normal ?_)
              have HO7 := Lib.hid (HO3.out.below HB.out)
              have HBW := Lib.hid (HB3.out.trans (HB.out.mono (show w.heap.size ≤ w3.heap.size by omega)))
              have HS7 := Lib.hid (HS3.out.below HB.out)
              have hsz7 := HB.out.size
              by_cases hda : d = a
              · have hX : (⟨gb, 0, none⟩ : Addr) = if d = a then ⟨gb, 0, none⟩ else (⟨gb, 0, none⟩ : Addr).add a := by rw [if_pos hda]
                have HDK := Lib.hid (HO7.out.rd.drK a ha hX)
                clear hX
                go_wp2_with (at_builtin; refine wpL_appm (L := LI) rowI rfl rfl _ _ rfl (xs := o.take a ++ [x]) (n := a + 1) (by rw [List.length_append, List.length_take, Nat.min_eq_left ha]; rfl) rfl HA.out _ (o.length - a) _ (o.drop a) rfl (by rw [List.length_drop]) (fun e => by cases e) HDK.out (by unfold maxLen; omega) (by omega) hsz7 ?_; intro A8 c8 w8 ho8 hg8)
                obtain ⟨g8, rfl, hg8b, hg8s⟩ := ho8.ptr (by simp <;> omega)
                have HB8 := Lib.hid (Grew.below HBW.out hg8 HBW.out.size (fun b e => by have := (HA.out.blk_lt b e).1; omega))
                have HBQ := Lib.hid (show Below w3.heap.size W7 w8 from Grew.below (Below.refl _ W7) hg8 hsz7 (fun b e => (HA.out.blk_lt b e).1))
                have HS8 := Lib.hid (HS7.out.belowB HBQ.out (show w.heap.size < w3.heap.size by omega))
                have hs8 := HB8.out.size
                have hs8b := HBQ.out.size
                go_roundw
                case rel => exact ⟨k + 1, g8, c8, o.take a ++ [x] ++ o.drop a, by omega, by simp; omega, by go_num, Lib.hid (by have h := HOr.out.put (a := a) HV.out (by rw [HX.out]; exact hil) HKD.out; rw [HXE.out]; simpa only [HGI.out] using h), Lib.hid (ho8.lower hbz), Lib.hid (HS8.out.more (by omega)), HB8, by omega⟩
                case measure => simp [intOf]; omega
              · have hX : (⟨gb, a, none⟩ : Addr) = if d = a then ⟨gb, 0, none⟩ else (⟨gb, 0, none⟩ : Addr).add a := by rw [if_neg hda, add_lit]
                have HDK := Lib.hid (HO7.out.rd.drK a ha hX)
                clear hX
                go_wp2_with (at_builtin; refine wpL_appm (L := LI) rowI rfl rfl _ _ rfl (xs := o.take a ++ [x]) (n := a + 1) (by rw [List.length_append, List.length_take, Nat.min_eq_left ha]; rfl) rfl HA.out _ (o.length - a) _ (o.drop a) rfl (by rw [List.length_drop]) (fun e => by cases e) HDK.out (by unfold maxLen; omega) (by omega) hsz7 ?_; intro A8 c8 w8 ho8 hg8)
                obtain ⟨g8, rfl, hg8b, hg8s⟩ := ho8.ptr (by simp <;> omega)
                have HB8 := Lib.hid (Grew.below HBW.out hg8 HBW.out.size (fun b e => by have := (HA.out.blk_lt b e).1; omega))
                have HBQ := Lib.hid (show Below w3.heap.size W7 w8 from Grew.below (Below.refl _ W7) hg8 hsz7 (fun b e => (HA.out.blk_lt b e).1))
                have HS8 := Lib.hid (HS7.out.belowB HBQ.out (show w.heap.size < w3.heap.size by omega))
                have hs8 := HB8.out.size
                have hs8b := HBQ.out.size
                go_roundw
                case rel => exact ⟨k + 1, g8, c8, o.take a ++ [x] ++ o.drop a, by omega, by simp; omega, by go_num, Lib.hid (by have h := HOr.out.put (a := a) HV.out (by rw [HX.out]; exact hil) HKD.out; rw [HXE.out]; simpa only [HGI.out] using h), Lib.hid (ho8.lower hbz), Lib.hid (HS8.out.more (by omega)), HB8, by omega⟩
                case measure => simp [intOf]; omega
            · skip
              go_simp
              have hbs : Below W0.heap.size W0 (W0.alloc (.cells #[.int .i64 x] 2)) := (Below.refl _ _).alloc (Nat.le_refl _) _
              have HB4 := Lib.hid (bthen HB.out (Nat.le_refl _) hbs)
              refine hK.out _ _ ⟨(HB4.out.cell (p := ad.add i) (by rw [block_of_add]; omega)).trans hcell3, (HB4.out.cell (p := az.add k) (by rw [block_of_add]; omega)).trans hcz3⟩ (fun hHeldN => ?_)
              clear hK K hHeld
              try simp only [Act.put, List.setIfInBounds_toArray, List.set_cons_zero, List.set_cons_succ]
              have hHeld := hHeldN
              clear hHeldN
              have HC9 := Lib.hid (show ∀ (j : Nat) (v : Value), (LI.f x)[j]? = some v → (W0.alloc (.cells #[.int .i64 x] 2)).cell? ⟨W0.heap.size, j, none⟩ = some v from fun j v hv => by rw [World.cell?_alloc_at (hn := rfl)]; simpa [LI] using hv)
              have HL9 : Hid (W0.heap.size < (W0.alloc (.cells #[.int .i64 x] 2)).heap.size) := Lib.hid (by simp)
              clear HB
              have HB := HB4
              clear HB4 hbs
              generalize W0.alloc (.cells #[.int .i64 x] 2) = W1 at *
              refine callS (i := 3) HSZ.out (by kernel_rfl) (by kernel_rfl) rfl (fun K hK => ?_)
              go_simp
              (with_reducible refine (HOWN.out _ ((HO3.out.rd.below HB.out) : Rd LI _ _ _ _ _) HB.out.size).mono ?_)
              rintro e W2 ⟨A4, c4, rfl, ho4, hbs⟩
              have HB4 := Lib.hid (bthen HB.out (Nat.le_refl _) hbs)
              refine hK.out _ _ ⟨(HB4.out.cell (p := ad.add i) (by rw [block_of_add]; omega)).trans hcell3, (HB4.out.cell (p := az.add k) (by rw [block_of_add]; omega)).trans hcz3⟩ (fun hHeldN => ?_)
              clear hK K hHeld
              try simp only [Act.put, List.setIfInBounds_toArray, List.set_cons_zero, List.set_cons_succ]
              have hHeld := hHeldN
              clear hHeldN
              have HC9' := Lib.hid (fun j v hv => (hbs.cell (p := ⟨W0.heap.size, j, none⟩) HL9.out).trans (HC9.out j v hv))
              have HC := Lib.hid (ho4.lower HB.out.size)
              clear HC9 HB
              have HC9 := HC9'
              have HB := HB4
              clear HC9' HB4 hbs ho4 HL9
              refine callS (i := 12) HSZ.out (by kernel_rfl) (by kernel_rfl) rfl (fun K hK => ?_)
              refine stepL_app1m (L := LI) rowI rfl rfl _ _ rfl (xs := o.take a) (n := a) (by rw [List.length_take, Nat.min_eq_left ha]) rfl HC.out x rfl HC9.out (by unfold maxLen; omega) (by omega) HB.out.size ?_
              intro A7 c7 W7 ho7 hg7
              have HB4 := Lib.hid (Grew.below HB.out hg7 HB.out.size (fun b e => (HC.out.blk_lt b e).1))
              refine hK.out _ _ ⟨(HB4.out.cell (p := ad.add i) (by rw [block_of_add]; omega)).trans hcell3, (HB4.out.cell (p := az.add k) (by rw [block_of_add]; omega)).trans hcz3⟩ (fun hHeldN => ?_)
              clear hK K hHeld
              try simp only [Act.put, List.setIfInBounds_toArray, List.set_cons_zero, List.set_cons_succ]
              have hHeld := hHeldN
              clear hHeldN
              have HA := Lib.hid ho7
              clear HB
              have HB := HB4
              clear HB4 HC HC9 ho7 hg7
              focus
                refine takeS (i := 13) (v := ?_) HFR.out HNS.out HSZ.out HQP.out rfl (by kernel_rfl) (by kernel_rfl) (by decide) (by kernel_rfl) (Or.inl ⟨by rfl, ?_⟩) hHeld rfl (by dsimp only [List.set_cons_succ, List.set_cons_zero]) ?_
                rotate_left
                · intro w hSw; clear hSw; go_simp; (try with_reducible rfl)
              refine doneS HSZ.out (by kernel_rfl) (by kernel_rfl) (NoPanic.normal ?_)
              have HO7 := Lib.hid (HO3.out.below HB.out)
              have HBW := Lib.hid (HB3.out.trans (HB.out.mono (show w.heap.size ≤ w3.heap.size by omega)))
              have HS7 := Lib.hid (HS3.out.below HB.out)
              have hsz7 := HB.out.size
              by_cases hda : d = a
              · have hX : (⟨gb, 0, none⟩ : Addr) = if d = a then ⟨gb, 0, none⟩ else (⟨gb, 0, none⟩ : Addr).add a := by rw [if_pos hda]
                have HDK := Lib.hid (HO7.out.rd.drK a ha hX)
                clear hX
                go_wp2_with (at_builtin; refine wpL_appm (L := LI) rowI rfl rfl _ _ rfl (xs := o.take a ++ [x]) (n := a + 1) (by rw [List.length_append, List.length_take, Nat.min_eq_left ha]; rfl) rfl HA.out _ (o.length - a) _ (o.drop a) rfl (by rw [List.length_drop]) (fun e => by cases e) HDK.out (by unfold maxLen; omega) (by omega) hsz7 ?_; intro A8 c8 w8 ho8 hg8)
                obtain ⟨g8, rfl, hg8b, hg8s⟩ := ho8.ptr (by simp <;> omega)
                have HB8 := Lib.hid (Grew.below HBW.out hg8 HBW.out.size (fun b e => by have := (HA.out.blk_lt b e).1; omega))
                have HBQ := Lib.hid (show Below w3.heap.size W7 w8 from Grew.below (Below.refl _ W7) hg8 hsz7 (fun b e => (HA.out.blk_lt b e).1))
                have HS8 := Lib.hid (HS7.out.belowB HBQ.out (show w.heap.size < w3.heap.size by omega))
                have hs8 := HB8.out.size
                have hs8b := HBQ.out.size
                go_roundw
                case rel => exact ⟨k + 1, g8, c8, o.take a ++ [x] ++ o.drop a, by omega, by simp; omega, by go_num, Lib.hid (by have h := HOr.out.put (a := a) HV.out (by rw [HX.out]; exact hil) HKD.out; rw [HXE.out]; simpa only [HGI.out] using h), Lib.hid (ho8.lower hbz), Lib.hid (HS8.out.more (by omega)), HB8, by omega⟩
                case measure => simp [intOf]; omega
              · have hX : (⟨gb, a, none⟩ : Addr) = if d = a then ⟨gb, 0, none⟩ else (⟨gb, 0, none⟩ : Addr).add a := by rw [if_neg hda, add_lit]
                have HDK := Lib.hid (HO7.out.rd.drK a ha hX)
                clear hX
                go_wp2_with (at_builtin; refine wpL_appm (L := LI) rowI rfl rfl _ _ rfl (xs := o.take a ++ [x]) (n := a + 1) (by rw [List.length_append, List.length_take, Nat.min_eq_left ha]; rfl) rfl HA.out _ (o.length - a) _ (o.drop a) rfl (by rw [List.length_drop]) (fun e => by cases e) HDK.out (by unfold maxLen; omega) (by omega) hsz7 ?_; intro A8 c8 w8 ho8 hg8)
                obtain ⟨g8, rfl, hg8b, hg8s⟩ := ho8.ptr (by simp <;> omega)
                have HB8 := Lib.hid (Grew.below HBW.out hg8 HBW.out.size (fun b e => by have := (HA.out.blk_lt b e).1; omega))
                have HBQ := Lib.hid (show Below w3.heap.size W7 w8 from Grew.below (Below.refl _ W7) hg8 hsz7 (fun b e => (HA.out.blk_lt b e).1))
                have HS8 := Lib.hid (HS7.out.belowB HBQ.out (show w.heap.size < w3.heap.size by omega))
                have hs8 := HB8.out.size
                have hs8b := HBQ.out.size
                go_roundw
                case rel => exact ⟨k + 1, g8, c8, o.take a ++ [x] ++ o.drop a, by omega, by simp; omega, by go_num, Lib.hid (by have h := HOr.out.put (a := a) HV.out (by rw [HX.out]; exact hil) HKD.out; rw [HXE.out]; simpa only [HGI.out] using h), Lib.hid (ho8.lower hbz), Lib.hid (HS8.out.more (by omega)), HB8, by omega⟩
                case measure => simp [intOf]; omega
          · go_wp2_with fail
            go_roundw
            case rel => exact ⟨k + 1, gb, d, o, by omega, rfl, by go_num, Lib.hid (HOr.out.skip HKD.out), HO2, Lib.hid (HS2.out.more (by omega)), HB2, by omega⟩
            case measure => simp [intOf]; omega
        · have hgk : (zs.length : Int) ≤ k := by omega
          have hke : k = zs.length := by omega
          have HRN : Hid (Ord (dat rs) (i + 1) 0 o) := Lib.hid (by have h := HOr.out; rw [hke, ← HGI.out] at h; exact h.next (by rw [HX.out]; exact hil))
          clear hke
          go_wp2_with fail
          go_roundw
          case rel => exact ⟨i + 1, gb, d, o, by omega, rfl, by go_num, HRN, HO, Lib.hid (HS.out.more (by omega)), HB, hsz⟩
          case measure => simp [intOf]; omega
    · have hgi : (rs.length : Int) ≤ i := by omega
      have HIV : Hid (Inv (dat rs) o) := Lib.hid (by
        have e : i = (dat rs).length := by rw [HX.out]; omega
        have h := HOr.out
        rw [e] at h
        exact h.fin HV.out)
      go_wp2_with fail
      go_ret
      exact ⟨some ⟨gb, 0, none⟩, d, o, rfl, HO.out.lower hs1, HIV.out, HB.out⟩
end Go.Proofs.YtiefiikheaiekaaDoor
/-
  Drawn moves of a yard.
-/
namespace Go.Proofs.YtiefiikheaiekaaDoor
open Go.ChangeShapes Go.WideShapes Go.RowKit

/-- what holds while moves are drawn -/
structure DrM (X : List (List Int)) (o : List Int) (w w1 wr : World) (g : Nat) (A : Option Addr) (c : Nat) (cs : List Int) (m : Nat) (A3 : Option Addr) (c3 : Nat) (os : List (Row Int)) (B : Option Addr) (d : Nat) (L : List (Int × Int)) (i : Nat) : Prop where
  drn : Drn X o (dat os) i L
  now : OwnR LI 23 2 wr w1.heap.size A3 c3 os
  out : Own LMove 45 wr w1.heap.size B d L
  src : Sr wr g A c cs m
  bel : Below w.heap.size w wr
section
variable {X : List (List Int)} {o : List Int} {w w1 wr w' : World} {g c m c3 d i : Nat} {A A3 B : Option Addr} {cs : List Int} {os : List (Row Int)} {L : List (Int × Int)}
theorem DrM.rows (h : DrM X o w w1 wr g A c cs m A3 c3 os B d L i) (hx : X.length ≤ 4) : os.length = X.length ∧ os.length ≤ 4 ∧ ∀ r ∈ os, r.2.2.length ≤ 6 := by
  have h1 := h.drn.len
  rw [dat_len] at h1
  exact ⟨h1, by omega, fun r hr => (vy_rows h.drn.inv.vy).2 _ (List.mem_map.2 ⟨r, hr, rfl⟩)⟩
theorem DrM.below (h : DrM X o w w1 wr g A c cs m A3 c3 os B d L i) (hb : Below wr.heap.size wr w') : DrM X o w w1 w' g A c cs m A3 c3 os B d L i :=
  ⟨h.drn, h.now.below hb, h.out.below hb, h.src.below hb, bthen h.bel (Nat.le_refl _) hb⟩
theorem DrM.fs (h : DrM X o w w1 wr g A c cs m A3 c3 os B d L i) (hg : g < w1.heap.size) (hw : w.heap.size ≤ g) (hf : Fs g wr w') {m' : Nat} (hs : Sr w' g A c cs m') : DrM X o w w1 w' g A c cs m' A3 c3 os B d L i :=
  ⟨h.drn, hf.ownRY h.now hg, hf.own h.out (fun e => by have := (h.out.blk_lt _ e).1; omega), hs, h.bel.trans (hf.below (B := w.heap.size) h.bel.size hw)⟩
end
set_option maxRecDepth 100000 in
set_option maxHeartbeats 6400000 in
theorem specA2Moves_any (A : Option Addr) (c : Nat) (cs : List Int) (A2 : Option Addr) (c2 : Nat) (ds : List Int) (A1 : Option Addr) (c1 : Nat) (rs : List (Row Int)) (Ao : Option Addr) (co : Nat) (o : List Int) (w : World) (hr : Rd LU w w.heap.size A c cs) (hr2 : Rd LU w w.heap.size A2 c2 ds) (hb : ∀ x ∈ cs, 0 ≤ x ∧ x ≤ 255) (hb2 : ∀ x ∈ ds, 0 ≤ x ∧ x ≤ 255) (hl1 : cs.length ≤ 3000) (hl2 : ds.length ≤ 3000)
    (hn1 : A = none → c = 0) (hn2 : A2 = none → c2 = 0) (hy : RdR LI w w.heap.size A1 c1 rs) (hnil : ∀ r ∈ rs, r.1 = none → r.2.1 = 0) (ho : Rd LI w w.heap.size Ao co o) (hv : Inv (dat rs) o) :
    Calls Tryd.prog 25 #[.slice A cs.length c, .slice A2 ds.length c2, .slice A1 rs.length c1, .slice Ao o.length co] w fun e w' => ∃ (B : Option Addr) (d : Nat) (L : List (Int × Int)), e = .returned (.slice B L.length d) ∧ Own LMove 45 w' w.heap.size B d L ∧ (rs.length ≤ 1 ∧ L = [] ∨ Sol (dat rs) o L (cntM L)) ∧ L.length ≤ 100 ∧ (∀ m ∈ L, OkMove m) ∧ Below w.heap.size w w' := by
  have hlen := hy.len63
  have holen := ho.len63
  have ho6 := ord_len hv
  obtain ⟨vr4, vr6⟩ := vy_rows hv.vy
  have HX4 := Lib.hid vr4
  rw [dat_len] at vr4
  have HX := Lib.hid (dat_len rs)
  have HV := Lib.hid hv
  have HO := Lib.hid ho
  have hcp := fun (W : World) (h : RdR LI W W.heap.size A1 c1 rs) => l20Copy_any A1 c1 rs W.heap.size W h (Nat.le_refl _) hnil (by omega) (fun r hr => by have := vr6 _ (List.mem_map.2 ⟨r, hr, rfl⟩); omega)
  have HCP := Lib.hid hcp
  have HRY := Lib.hid hy
  have HR1 := Lib.hid hr
  have HR2 := Lib.hid hr2
  have HFL1 := Lib.hid ((hr.alloc (Nat.le_refl _) (.cells #[] 5)).flat)
  have HN1 := Lib.hid (show A = none → cs.length = 0 ∧ c = 0 from fun e => ⟨by subst e; rw [hr.none_len]; rfl, hn1 e⟩)
  have HN2 := Lib.hid (show A2 = none → ds.length = 0 ∧ c2 = 0 from fun e => ⟨by subst e; rw [hr2.none_len]; rfl, hn2 e⟩)
  have HBB : Hid (∀ x ∈ cs ++ ds, 0 ≤ x ∧ x ≤ 255) := Lib.hid (fun x hx => (List.mem_append.1 hx).elim (hb x) (hb2 x))
  clear hr hr2 hb hb2 hy ho hcp vr6 hnil hn1 hn2 hv
  go_enter Tryd.func25, Tryd.ntmps25
  go_upto_region 1 with fail
  go_wp2_with (first
    | (at_builtin; refine wpL_appm (L := LU) (o := ⟨some 20, _, _, _, _, _⟩) rowU rfl rfl _ _ rfl (xs := []) (n := 0) rfl rfl (Own.lit0 w (Nat.le_refl _) rfl) A cs.length c cs rfl rfl HN1.out HFL1.out (by unfold maxLen; omega) (by omega) (by simp) ?_; intro Aa ca wa hoa hga; have HBa := Lib.hid (Grew.below ((Below.refl w.heap.size w).alloc (Nat.le_refl _) (.cells #[] 5)) hga (by simp) (fun b e => by simp [blk] at e; omega)); have hsa := HBa.out.size; have HFL2 := Lib.hid ((HR2.out.below HBa.out).flat))
    | (at_builtin; refine wpL_appm (L := LU) (o := ⟨some 22, _, _, _, _, _⟩) rowU rfl rfl _ _ rfl (xs := [] ++ cs) (n := cs.length) (by simp) rfl hoa A2 ds.length c2 ds rfl rfl HN2.out HFL2.out (by unfold maxLen; omega) (by omega) hsa ?_; intro Ab cb wb hob hgb))
  have hob2 : Own LU 5 wb w.heap.size Ab cb (cs ++ ds) := by simpa using hob
  have hfr := from_at wb.heap.size Ab cb (cs ++ ds) wb rfl hob2.rd (Nat.le_refl _) HBB.out
  rw [List.length_append] at hfr
  have HBb := Lib.hid (Grew.below HBa.out hgb hsa (fun b e => (hoa.blk_lt b e).1))
  have hsb := HBb.out.size
  clear hob hob2 hoa hga hgb HBa HFL2 HFL1 HBB
  refine hfr.mono ?_
  rintro e w1 ⟨rfl, hS, hb1⟩
  have hs1 := hb1.size
  have hg1 := hS.g1
  have HB1 := Lib.hid (bthen HBb.out (Nat.le_refl _) hb1)
  have HS1 := Lib.hid hS
  have hcq := HCP.out w1 ((HRY.out.below HB1.out).more HB1.out.size)
  clear hfr hS hb1
  go_wp2_with fail
  refine hcq.mono ?_
  rintro e w2 ⟨A3, c3, os, rfl, ho3, hd3, hb2⟩
  have hs2 := hb2.size
  have hol3 := ho3.len63
  have HD0 : Hid (DrM (dat rs) o w w1 (w2.alloc (.cells #[] 45)) wb.heap.size Ab cb (cs ++ ds) 0 A3 c3 os (some ⟨w2.heap.size, 0, none⟩) 0 [] 0) := Lib.hid
    (DrM.below (wr := w2.alloc (.cells #[] 45)) ⟨by rw [hd3]; exact Drn.start HV.out, ho3.al _, Own.lit0 w2 hs2 rfl, (HS1.out.below hb2).below ((Below.refl _ _).alloc (Nat.le_refl _) _), (bthen HB1.out (Nat.le_refl _) hb2).alloc (by omega) _⟩ (Below.refl _ _))
  clear hcq ho3 hd3 hb2 HS1 HB1
  go_wp2_with fail
  go_loopw [10, 11, 12] (fun now out idx wr => ∃ (i : Nat) (A3 : Option Addr) (c3 : Nat) (os : List (Row Int)) (B : Option Addr) (d : Nat) (L : List (Int × Int)), i ≤ o.length ∧ now = .slice A3 os.length c3 ∧ out = .slice B L.length d ∧ idx = .int .i64 i ∧ Hid (DrM (dat rs) o w w1 wr wb.heap.size Ab cb (cs ++ ds) (20 * i) A3 c3 os B d L i) ∧ L.length ≤ 8 * i ∧ Hid (L = [] ∨ 1 < rs.length) ∧ Hid (∀ m ∈ L, OkMove m)) (fun _ _ idx _ => o.length - (intOf idx).toNat)
  case atStart => exact ⟨0, A3, c3, os, some ⟨w2.heap.size, 0, none⟩, 0, [], by omega, rfl, rfl, rfl, HD0, by simp, Lib.hid (.inl rfl), Lib.hid (fun m h => by cases h)⟩
  case round =>
    clear HD0 hol3 hs2
    obtain ⟨i, A3, c3, os, B, d, L, hi, rfl, rfl, rfl, HD, hLl, HL, HLO⟩ := hrel
    obtain ⟨hr1, hr4, hr6⟩ := HD.out.rows HX4.out
    have HRL : Hid (os.length = rs.length) := Lib.hid (by rw [hr1, HX.out])
    have HR6 := Lib.hid hr6
    have hsw : w.heap.size ≤ wr.heap.size := HD.out.bel.size
    have hgw1 : wb.heap.size < w1.heap.size := hg1
    have hsw1 : w.heap.size ≤ w1.heap.size := by omega
    clear hr1 hr6
    by_cases hil : i < o.length
    rotate_left
    · have HSOL := Lib.hid (HD.out.drn.fin (by omega))
      have hgi : (o.length : Int) ≤ i := by omega
      go_wp2_with fail
      go_ret
      exact ⟨B, d, L, rfl, HD.out.out.lower (by omega), .inr HSOL.out, by omega, HLO.out, HD.out.bel⟩
    have hili : (i : Int) < o.length := by omega
    by_cases h1 : 1 < os.length
    rotate_left
    · have h1i : (os.length : Int) ≤ 1 := by omega
      have HLN : Hid (L = []) := Lib.hid (HL.out.elim id (fun h => by have := HRL.out; omega))
      have HRE : Hid (rs.length ≤ 1) := Lib.hid (by have := HRL.out; omega)
      go_wp2_with fail
      go_ret
      exact ⟨B, d, L, rfl, HD.out.out.lower (by omega), .inl ⟨HRE.out, HLN.out⟩, by omega, HLO.out, HD.out.bel⟩
    have h1i : (1 : Int) < os.length := by omega
    obtain ⟨p, hp⟩ : ∃ p, p = o[i] := ⟨_, rfl⟩
    have HP := Lib.hid hp
    obtain ⟨ao, rfl, haob, hco0⟩ := HO.out.int hil
    rw [← hp] at hco0
    have hco := (HD.out.bel.cell (p := ao.add i) (by rw [block_of_add]; exact haob)).trans hco0
    obtain ⟨a, h0, ha, hh, hfd, hpa⟩ := fd_in (X := dat os) (p := p) (by have h := HD.out.drn.inv.mem p; rw [drop_at hil, ← hp] at h; exact h List.mem_cons_self)
    have hal : a < os.length := by rw [dat_len] at ha; exact ha
    have hali : (a : Int) < os.length := by omega
    have hfind := l20Find_any A3 c3 os p wr.heap.size wr HD.out.now.rd
    rw [hfd] at hfind
    have HPA : Hid (((dat os).getD a [])[h0]? = some p) := Lib.hid (by rw [getD_lt _ [] ha, List.getElem?_eq_getElem hh, hpa])
    have HLEN : Hid (((dat os).getD a []).length ≤ 6) := Lib.hid (by rw [getD_datY os a hal]; exact HR6.out _ (List.getElem_mem hal))
    clear hp hfd hpa hh ha
    obtain ⟨wo, rfl⟩ : ∃ wo : World, wo = wr := ⟨_, rfl⟩
    go_wp2_with fail
    refine hfind.mono ?_
    rintro e wx ⟨rfl, rfl⟩
    clear hfind
    dsimp only
    go_wp2_with fail
    obtain ⟨nr, hnr⟩ : ∃ nr, nr = os.length := ⟨_, rfl⟩
    have HNR := Lib.hid hnr
    rw [← hnr] at hal hali h1 h1i hr4
    clear hnr
    go_loopg [10, 11] (((dat os).getD a []).length) (fun k now out wr => ∃ (r : Nat) (A3 : Option Addr) (c3 : Nat) (os : List (Row Int)) (B : Option Addr) (d : Nat) (L : List (Int × Int)), k = ((dat os).getD a []).length ∧ k + r ≤ 6 ∧ now = .slice A3 os.length c3 ∧ out = .slice B L.length d ∧ Hid (os.length = nr) ∧ Hid (((dat os).getD a [])[h0]? = some p) ∧ Hid (DrM (dat rs) o w w1 wr wb.heap.size Ab cb (cs ++ ds) (20 * i + 2 * r) A3 c3 os B d L i) ∧ L.length ≤ 8 * i + r ∧ Hid (∀ m ∈ L, OkMove m))
    case atStart => exact ⟨0, A3, c3, os, B, d, L, rfl, HLEN.out, rfl, rfl, Lib.hid HNR.out.symm, HPA, HD, by omega, HLO⟩
    case round =>
      clear HD HPA HLEN HR6 HLO HL hco hLl
      obtain ⟨r, A3, c3, os, B, d, L, rfl, hkr, rfl, rfl, HNS, HPA, HD, hLl, HLO⟩ := hrel
      obtain ⟨hr1, _, hr6⟩ := HD.out.rows HX4.out
      have HR6 := Lib.hid hr6
      have hol : os.length ≤ 9223372036854775807 := HD.out.now.len63
      have hosl : os.length ≤ 4 := by rw [HNS.out]; exact hr4
      have hosg : 1 < os.length := by rw [HNS.out]; exact h1
      have haol : a < os.length := by rw [HNS.out]; exact hal
      have haoli : (a : Int) < os.length := by omega
      have had : a < (dat os).length := by rw [dat_len]; exact haol
      have hco := (HD.out.bel.cell (p := ao.add i) (by rw [block_of_add]; exact haob)).trans hco0
      obtain ⟨gA, rfl, _, hgAs, hcA, _, hrowA⟩ := HD.out.now.at_ haol
      have HDA : Hid ((dat os).getD a [] = os[a].2.2) := Lib.hid (getD_datY os a haol)
      have HNK : Hid ((topL os[a].2.2 = p → nextK (dat os) p = some a) ∧ (topL os[a].2.2 ≠ p → nextK (dat os) p = none)) := Lib.hid (by
        have h2 := HPA.out
        rw [HDA.out] at h2
        obtain ⟨hh, he⟩ := List.getElem?_eq_some_iff.1 h2
        have h3 := nextK_at HD.out.drn.inv.vy had (k := h0) (p := p) (by rw [dat_get os a haol]; exact hh) (by simp only [dat_get os a haol]; exact he)
        rw [dat_get os a haol] at h3
        exact h3)
      have HLT : Hid (0 < os[a].2.2.length) := Lib.hid (by
        have h2 := HPA.out
        rw [HDA.out] at h2
        obtain ⟨hh, _⟩ := List.getElem?_eq_some_iff.1 h2
        omega)
      have htp := fun n => l20TopY_any os[a].1 os[a].2.1 os[a].2.2 wr.heap.size (wr.drewN n) (hrowA.rd.drewN n)
      obtain ⟨tz, htz⟩ : ∃ tz, tz = topL os[a].2.2 := ⟨_, rfl⟩
      rw [← htz] at htp HNK
      obtain ⟨zs, hzs⟩ : ∃ zs, zs = os[a].2.2 := ⟨_, rfl⟩
      obtain ⟨Az, hAz⟩ : ∃ Az, Az = os[a].1 := ⟨_, rfl⟩
      obtain ⟨cz, hcz⟩ : ∃ cz, cz = os[a].2.1 := ⟨_, rfl⟩
      rw [← hzs] at hcA htp HDA HLT
      have HZS := Lib.hid hzs
      have HTZ := Lib.hid htz
      rw [← hAz, ← hcz] at hcA htp
      clear hr1 hr6 hrowA htz hzs hAz hcz
      have hnm : ∀ (W : World) (b : Int), RdR LI W W.heap.size (some ⟨gA, 0, none⟩) c3 os → mvOk (dat os) a b = true → _ := fun W b h1 h2 => l20Move_any (some ⟨gA, 0, none⟩) c3 os a b W h1 (nil_of HD.out.now) (by omega) (fun q hq => by have := HR6.out q hq; omega) h2
      have HNM := Lib.hid hnm
      clear hnm
      by_cases hto : tz = p
      · have y1 : (tz != p) = false := by rw [bne_eq_false_iff_eq]; exact hto
        have HK := Lib.hid (HNK.out.1 hto)
        clear hto
        go_wp2_with fail
        go_quiet ((go_at_call 43; exact quiet_left (htp _)))
        obtain ⟨wd, hwd⟩ : ∃ wd, wd = wr.drewN nq := ⟨_, rfl⟩
        rw [← hwd]
        have HDd : Hid (DrM (dat rs) o w w1 wd wb.heap.size Ab cb (cs ++ ds) (20 * i + 2 * r) (some ⟨gA, 0, none⟩) c3 os B d L i) := Lib.hid (by rw [hwd]; exact HD.out.below (below_drewN (Below.refl _ _) _))
        clear hwd hcA htp y1 hco
        have hbd : w1.heap.size ≤ wd.heap.size := by
          have h1 := HDd.out.src.g1
          have h2 := (HDd.out.now.out.blk_lt gA rfl)
          omega
        have hsd : w.heap.size ≤ wd.heap.size := HDd.out.bel.size
        have hBne : blk B ≠ some wd.heap.size := fun e => by have := (HDd.out.out.blk_lt _ e).2; omega
        have HGO := Lib.hid HDd.out
        go_wp2_with (first
          | (at_builtin; refine wpL_app1 (L := LMove) rowMv rfl rfl _ _ rfl rfl (HDd.out.out.alloc (.cells #[.int .i64 a, .int .i64 (-1)] 45)) ((a : Int), (-1)) _ rfl rfl (by simp) (by unfold maxLen; omega) (by omega) (by simp; omega) ?_; intro A8 c8 w8 ho8 hg8; have n0 := (hg8.cell ⟨wd.heap.size, 0, none⟩ (by simp) hBne).trans (show _ = some (.int .i64 a) by go_simp); have n1 := (hg8.cell ⟨wd.heap.size, 1, none⟩ (by simp) hBne).trans (show _ = some (.int .i64 (-1)) by go_simp)))
        have hba : Below wd.heap.size wd (wd.alloc (.cells #[.int .i64 a, .int .i64 (-1)] 45)) := (Below.refl _ _).alloc (Nat.le_refl _) _
        have HNW8 := Lib.hid (((HDd.out.now.below hba).keepBlk (w' := w8) (fun b e => hg8.block b (by have := (HDd.out.now.blk_lt.1 b e).2; simp; omega) (fun e2 => own_types HDd.out.now.out HDd.out.out (by decide) b e e2.symm)) (fun q hq b e => hg8.block b (by have := (HDd.out.now.blk_lt.2 q hq b e).2; simp; omega) (fun e2 => own_types (HDd.out.now.inn q hq) HDd.out.out (by decide) b e e2.symm))))
        have hb8 : Below w1.heap.size wd w8 := Grew.below (hba.mono hbd) hg8 (by simp; omega) (fun b e => (HDd.out.out.blk_lt b e).1)
        have HB8 := Lib.hid (HDd.out.bel.trans (hb8.mono hsw1))
        have HS8 := Lib.hid (HDd.out.src.belowB hb8 hgw1)
        have hs8 := hg8.size
        simp at hs8
        have hmv := HNM.out w8 (-1) HNW8.out.rd (mvOk_off had (by rw [dat_get os a haol, ← HZS.out]; exact HLT.out))
        have HO8 := Lib.hid ho8
        clear hba hb8 hg8 ho8
        go_wp2_with fail
        refine hmv.mono ?_
        rintro e w9 ⟨A9, c9, os9, rfl, ho9, hd9, hb9⟩
        have hs9 := hb9.size
        have HDN : Hid (DrM (dat rs) o w w1 w9 wb.heap.size Ab cb (cs ++ ds) (20 * (i + 1)) A9 c9 os9 A8 c8 (L ++ [((a : Int), (-1))]) (i + 1)) := Lib.hid
          ⟨by rw [hd9]; exact HDd.out.drn.load hil (by rw [← HP.out]; exact HK.out), ho9.lower (by omega), HO8.out.below hb9, (HS8.out.below hb9).more (by omega), bthen HB8.out (Nat.le_refl _) hb9⟩
        have HN9 : Hid (os9.length = nr) := Lib.hid (by have h := congrArg List.length hd9; rw [dat_len, mvX_len, dat_len] at h; rw [h]; exact HNS.out)
        have HD9 := Lib.hid hd9
        have HLO9 : Hid (∀ m ∈ L ++ [((a : Int), (-1))], OkMove m) := Lib.hid (fun m hm => by
          rcases List.mem_append.1 hm with hm | hm
          · exact HLO.out m hm
          · rw [List.mem_singleton] at hm; subst hm; exact ⟨by unfold I64; simp only; omega, by unfold I64; simp only; omega⟩)
        clear hmv ho9 hd9 hb9 n0 n1
        go_wp2_with fail
        go_roundw
        case rel => exact ⟨i + 1, A9, c9, os9, A8, c8, L ++ [((a : Int), -1)], by omega, rfl, by simp, by go_num, HDN, by simp; omega, Lib.hid (.inr (by have h2 := HNR.out; have h3 := HRL.out; omega)), HLO9⟩
        case measure => simp [intOf]; omega
      · have y1 : (tz != p) = true := by rw [bne_iff_ne]; exact hto
        have HK := Lib.hid (HNK.out.2 hto)
        have HTNE : Hid (topL zs ≠ p) := Lib.hid (by rw [HZS.out, ← HTZ.out]; exact hto)
        clear hto
        go_wp2_with fail
        go_quiet ((go_at_call 43; exact quiet_left (htp _)))
        obtain ⟨we, hwe⟩ : ∃ we, we = wr.drewN nq := ⟨_, rfl⟩
        rw [← hwe]
        have HDe : Hid (DrM (dat rs) o w w1 we wb.heap.size Ab cb (cs ++ ds) (20 * i + 2 * r) (some ⟨gA, 0, none⟩) c3 os B d L i) := Lib.hid (by rw [hwe]; exact HD.out.below (below_drewN (Below.refl _ _) _))
        clear hwe hcA htp y1 hco
        have hpk := pick_any ((os.length : Int) - 1) wb.heap.size Ab cb (cs ++ ds) (20 * i + 2 * r) we HDe.out.src (by omega) (by omega)
        go_wp2_with fail
        refine hpk.mono ?_
        rintro e wd ⟨v, rfl, hv0, hv1, hSd, hFd⟩
        have HDd := Lib.hid (HDe.out.fs hgw1 hsb hFd hSd)
        have hsFd := hFd.size
        have hbd : w1.heap.size ≤ wd.heap.size := by
          have h1 := (HDe.out.now.out.blk_lt gA rfl)
          omega
        have hsd : w.heap.size ≤ wd.heap.size := HDd.out.bel.size
        clear hpk hSd hFd HDe
        obtain ⟨vN, rfl⟩ : ∃ vN : Nat, v = (vN : Int) := ⟨v.toNat, by omega⟩
        have hvn : vN + 2 ≤ os.length := by omega
        by_cases hva : a ≤ vN
        · have hvai : (a : Int) ≤ vN := by omega
          obtain ⟨b, hb⟩ : ∃ b : Nat, b = vN + 1 := ⟨_, rfl⟩
          have HBI : Hid ((vN : Int) + 1 = b) := Lib.hid (by omega)
          have hbn : b < os.length := by omega
          have hba2 : b ≠ a := by omega
          clear hb
          go_upto_region 12 with fail
          rw [HBI.out]
          have HOKM : Hid (mvOk (dat os) a b = true) := Lib.hid (by rw [mvOk_at had (by rw [dat_len]; exact hbn), decide_eq_true hba2, dat_get os a haol, ← HZS.out, decide_eq_true HLT.out]; rfl)
          have hBne : blk B ≠ some wd.heap.size := fun e => by have := (HDd.out.out.blk_lt _ e).2; omega
          have HGO := Lib.hid HDd.out
          go_wp2_with (first
            | (at_builtin; refine wpL_app1 (L := LMove) rowMv rfl rfl _ _ rfl rfl (HDd.out.out.alloc (.cells #[.int .i64 a, .int .i64 (b : Int)] 45)) ((a : Int), (b : Int)) _ rfl rfl (by simp) (by unfold maxLen; omega) (by omega) (by simp; omega) ?_; intro A8 c8 w8 ho8 hg8; have n0 := (hg8.cell ⟨wd.heap.size, 0, none⟩ (by simp) hBne).trans (show _ = some (.int .i64 a) by go_simp); have n1 := (hg8.cell ⟨wd.heap.size, 1, none⟩ (by simp) hBne).trans (show _ = some (.int .i64 (b : Int)) by go_simp)))
          have hba : Below wd.heap.size wd (wd.alloc (.cells #[.int .i64 a, .int .i64 (b : Int)] 45)) := (Below.refl _ _).alloc (Nat.le_refl _) _
          have HNW8 := Lib.hid (((HDd.out.now.below hba).keepBlk (w' := w8) (fun b e => hg8.block b (by have := (HDd.out.now.blk_lt.1 b e).2; simp; omega) (fun e2 => own_types HDd.out.now.out HDd.out.out (by decide) b e e2.symm)) (fun q hq b e => hg8.block b (by have := (HDd.out.now.blk_lt.2 q hq b e).2; simp; omega) (fun e2 => own_types (HDd.out.now.inn q hq) HDd.out.out (by decide) b e e2.symm))))
          have hb8 : Below w1.heap.size wd w8 := Grew.below (hba.mono hbd) hg8 (by simp; omega) (fun b e => (HDd.out.out.blk_lt b e).1)
          have HB8 := Lib.hid (HDd.out.bel.trans (hb8.mono hsw1))
          have HS8 := Lib.hid (HDd.out.src.belowB hb8 hgw1)
          have hs8 := hg8.size
          simp at hs8
          have hmv := HNM.out w8 (b : Int) HNW8.out.rd HOKM.out
          have HO8 := Lib.hid ho8
          clear hba hb8 hg8 ho8
          go_wp2_with fail
          refine hmv.mono ?_
          rintro e w9 ⟨A9, c9, os9, rfl, ho9, hd9, hb9⟩
          have hs9 := hb9.size
          have HDN : Hid (DrM (dat rs) o w w1 w9 wb.heap.size Ab cb (cs ++ ds) (20 * i + 2 * (r + 1)) A9 c9 os9 A8 c8 (L ++ [((a : Int), (b : Int))]) i) := Lib.hid
            ⟨by rw [hd9]; exact HDd.out.drn.move hil (by rw [← HP.out]; exact HK.out) had (by rw [dat_len]; exact hbn) HOKM.out, ho9.lower (by omega), HO8.out.below hb9, (HS8.out.below hb9).more (by omega), bthen HB8.out (Nat.le_refl _) hb9⟩
          have HN9 : Hid (os9.length = nr) := Lib.hid (by have h := congrArg List.length hd9; rw [dat_len, mvX_len, dat_len] at h; rw [h]; exact HNS.out)
          have HD9 := Lib.hid hd9
          have HLO9 : Hid (∀ m ∈ L ++ [((a : Int), (b : Int))], OkMove m) := Lib.hid (fun m hm => by
            rcases List.mem_append.1 hm with hm | hm
            · exact HLO.out m hm
            · rw [List.mem_singleton] at hm; subst hm; exact ⟨by unfold I64; simp only; omega, by unfold I64; simp only; omega⟩)
          clear hmv ho9 hd9 hb9 n0 n1
          go_wp2_with fail
          have HGD9 : Hid ((dat os9).getD a [] = zs.take (zs.length - 1)) := Lib.hid (by
            rw [HD9.out, getD_lt _ [] (by rw [mvX_len]; exact had), mv_at had (by rw [dat_len]; exact hbn) hba2 (by rw [dat_get os a haol, ← HZS.out]; exact HLT.out), dat_get os a haol, ← HZS.out])
          have HPA9 : Hid (((dat os9).getD a [])[h0]? = some p ∧ h0 + 1 < zs.length) := Lib.hid (by
            have h2 := HPA.out
            rw [HDA.out] at h2
            have hne := top_ne HD.out.drn.inv.vy had (by rw [dat_get os a haol, ← HZS.out]) h2 HTNE.out
            refine ⟨?_, by omega⟩
            rw [HGD9.out, List.getElem?_take, if_pos (by omega)]
            exact h2)
          go_roundg (((dat os9).getD a []).length)
          case measure => rw [HGD9.out, HDA.out, List.length_take]; have := HLT.out; omega
          case rel => exact ⟨r + 1, A9, c9, os9, A8, c8, L ++ [((a : Int), (b : Int))], rfl, by rw [HGD9.out, List.length_take]; have h2 := HLT.out; have h3 := hkr; rw [HDA.out] at h3; omega, rfl, by simp, HN9, Lib.hid HPA9.out.1, HDN, by simp; omega, HLO9⟩
        · have hvai : (vN : Int) < a := by omega
          obtain ⟨b, hb⟩ : ∃ b : Nat, b = vN := ⟨_, rfl⟩
          have hbn : b < os.length := by omega
          have hba2 : b ≠ a := by omega
          rw [← hb]
          rw [← hb] at hvai hv0
          clear hb
          go_upto_region 12 with fail
          have HOKM : Hid (mvOk (dat os) a b = true) := Lib.hid (by rw [mvOk_at had (by rw [dat_len]; exact hbn), decide_eq_true hba2, dat_get os a haol, ← HZS.out, decide_eq_true HLT.out]; rfl)
          have hBne : blk B ≠ some wd.heap.size := fun e => by have := (HDd.out.out.blk_lt _ e).2; omega
          have HGO := Lib.hid HDd.out
          go_wp2_with (first
            | (at_builtin; refine wpL_app1 (L := LMove) rowMv rfl rfl _ _ rfl rfl (HDd.out.out.alloc (.cells #[.int .i64 a, .int .i64 (b : Int)] 45)) ((a : Int), (b : Int)) _ rfl rfl (by simp) (by unfold maxLen; omega) (by omega) (by simp; omega) ?_; intro A8 c8 w8 ho8 hg8; have n0 := (hg8.cell ⟨wd.heap.size, 0, none⟩ (by simp) hBne).trans (show _ = some (.int .i64 a) by go_simp); have n1 := (hg8.cell ⟨wd.heap.size, 1, none⟩ (by simp) hBne).trans (show _ = some (.int .i64 (b : Int)) by go_simp)))
          have hba : Below wd.heap.size wd (wd.alloc (.cells #[.int .i64 a, .int .i64 (b : Int)] 45)) := (Below.refl _ _).alloc (Nat.le_refl _) _
          have HNW8 := Lib.hid (((HDd.out.now.below hba).keepBlk (w' := w8) (fun b e => hg8.block b (by have := (HDd.out.now.blk_lt.1 b e).2; simp; omega) (fun e2 => own_types HDd.out.now.out HDd.out.out (by decide) b e e2.symm)) (fun q hq b e => hg8.block b (by have := (HDd.out.now.blk_lt.2 q hq b e).2; simp; omega) (fun e2 => own_types (HDd.out.now.inn q hq) HDd.out.out (by decide) b e e2.symm))))
          have hb8 : Below w1.heap.size wd w8 := Grew.below (hba.mono hbd) hg8 (by simp; omega) (fun b e => (HDd.out.out.blk_lt b e).1)
          have HB8 := Lib.hid (HDd.out.bel.trans (hb8.mono hsw1))
          have HS8 := Lib.hid (HDd.out.src.belowB hb8 hgw1)
          have hs8 := hg8.size
          simp at hs8
          have hmv := HNM.out w8 (b : Int) HNW8.out.rd HOKM.out
          have HO8 := Lib.hid ho8
          clear hba hb8 hg8 ho8
          go_wp2_with fail
          refine hmv.mono ?_
          rintro e w9 ⟨A9, c9, os9, rfl, ho9, hd9, hb9⟩
          have hs9 := hb9.size
          have HDN : Hid (DrM (dat rs) o w w1 w9 wb.heap.size Ab cb (cs ++ ds) (20 * i + 2 * (r + 1)) A9 c9 os9 A8 c8 (L ++ [((a : Int), (b : Int))]) i) := Lib.hid
            ⟨by rw [hd9]; exact HDd.out.drn.move hil (by rw [← HP.out]; exact HK.out) had (by rw [dat_len]; exact hbn) HOKM.out, ho9.lower (by omega), HO8.out.below hb9, (HS8.out.below hb9).more (by omega), bthen HB8.out (Nat.le_refl _) hb9⟩
          have HN9 : Hid (os9.length = nr) := Lib.hid (by have h := congrArg List.length hd9; rw [dat_len, mvX_len, dat_len] at h; rw [h]; exact HNS.out)
          have HD9 := Lib.hid hd9
          have HLO9 : Hid (∀ m ∈ L ++ [((a : Int), (b : Int))], OkMove m) := Lib.hid (fun m hm => by
            rcases List.mem_append.1 hm with hm | hm
            · exact HLO.out m hm
            · rw [List.mem_singleton] at hm; subst hm; exact ⟨by unfold I64; simp only; omega, by unfold I64; simp only; omega⟩)
          clear hmv ho9 hd9 hb9 n0 n1
          go_wp2_with fail
          have HGD9 : Hid ((dat os9).getD a [] = zs.take (zs.length - 1)) := Lib.hid (by
            rw [HD9.out, getD_lt _ [] (by rw [mvX_len]; exact had), mv_at had (by rw [dat_len]; exact hbn) hba2 (by rw [dat_get os a haol, ← HZS.out]; exact HLT.out), dat_get os a haol, ← HZS.out])
          have HPA9 : Hid (((dat os9).getD a [])[h0]? = some p ∧ h0 + 1 < zs.length) := Lib.hid (by
            have h2 := HPA.out
            rw [HDA.out] at h2
            have hne := top_ne HD.out.drn.inv.vy had (by rw [dat_get os a haol, ← HZS.out]) h2 HTNE.out
            refine ⟨?_, by omega⟩
            rw [HGD9.out, List.getElem?_take, if_pos (by omega)]
            exact h2)
          go_roundg (((dat os9).getD a []).length)
          case measure => rw [HGD9.out, HDA.out, List.length_take]; have := HLT.out; omega
          case rel => exact ⟨r + 1, A9, c9, os9, A8, c8, L ++ [((a : Int), (b : Int))], rfl, by rw [HGD9.out, List.length_take]; have h2 := HLT.out; have h3 := hkr; rw [HDA.out] at h3; omega, rfl, by simp, HN9, Lib.hid HPA9.out.1, HDN, by simp; omega, HLO9⟩
end Go.Proofs.YtiefiikheaiekaaDoor
