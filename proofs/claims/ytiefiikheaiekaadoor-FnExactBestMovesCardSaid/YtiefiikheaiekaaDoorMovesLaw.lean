/-
  Loading an order, the plain part: what is in the way is a lower bound; a list exists.
-/
import Derived.Test.YtiefiikheaiekaaDoorMovesPlain
import Derived.Test.YtiefiikheaiekaaDoorYardsLaw
namespace Go.Proofs.YtiefiikheaiekaaDoor

/-- a yard and what is still to be loaded from it -/
structure Inv (X : List (List Int)) (o : List Int) : Prop where
  vy : vyB X = true
  mem : ∀ p ∈ o, p ∈ X.flatten
  nd : o.Nodup
theorem Inv.pos {X : List (List Int)} {o : List Int} (h : Inv X o) {p : Int} (hp : p ∈ o) : 1 ≤ p := ((dB_true h.vy).2.2.1 p (h.mem p hp)).1
theorem Inv.next {X : List (List Int)} {p : Int} {r : List Int} {k : Nat} (h : Inv X (p :: r)) (hk : nextK X p = some k) : ∃ hk : k < X.length, topL X[k] = p ∧ 0 < X[k].length := by
  obtain ⟨h1, h2⟩ := nextK_some hk
  refine ⟨h1, h2, ?_⟩
  by_cases h3 : X[k].length = 0
  · rw [top_none h3] at h2
    have := h.pos (p := p) List.mem_cons_self
    omega
  · omega
theorem Inv.load {X : List (List Int)} {p : Int} {r : List Int} {k : Nat} (h : Inv X (p :: r)) (hk : nextK X p = some k) : Inv (mvX X k (-1)) r ∧ p ∉ (mvX X k (-1)).flatten := by
  obtain ⟨h1, h2, h3⟩ := h.next hk
  have hp := perm_drop h1 h3
  rw [h2] at hp
  have hn := hp.nodup_iff.2 (dB_true h.vy).2.2.2
  have hpn : p ∉ (mvX X k (-1)).flatten := fun hm => (List.nodup_append.1 hn).2.2 p hm p (by simp) rfl
  have hnd := List.nodup_cons.1 h.nd
  refine ⟨⟨vy_drop h.vy h1 h3, fun q hq => ?_, hnd.2⟩, hpn⟩
  have hm := hp.mem_iff.2 (h.mem q (List.mem_cons_of_mem _ hq))
  rcases List.mem_append.1 hm with hm | hm
  · exact hm
  · simp at hm
    subst hm
    exact absurd hq hnd.1
theorem mvOk_parts {X : List (List Int)} {i k : Nat} (hi : i < X.length) (hk : k < X.length) (h : mvOk X i k = true) : k ≠ i ∧ 0 < X[i].length := by
  rw [mvOk_at hi hk, Bool.and_eq_true, decide_eq_true_eq, decide_eq_true_eq] at h
  exact h
theorem Inv.move {X : List (List Int)} {o : List Int} {i k : Nat} (h : Inv X o) (hi : i < X.length) (hk : k < X.length) (hm : mvOk X i k = true) : Inv (mvX X i k) o := by
  obtain ⟨h1, h2⟩ := mvOk_parts hi hk hm
  exact ⟨vy_both h.vy hi hk h1 h2, fun p hp => (perm_both hi hk h1 h2).mem_iff.2 (h.mem p hp), h.nd⟩

/-! ## in the way -/
theorem inWay_pre {o r1 r2 : List Int} {m k : Nat} (h1 : m ≤ r1.length) (h2 : m ≤ r2.length) (e : r1.take m = r2.take m) (hk : k < m) : inWay o r1 k = inWay o r2 k := by
  have e1 : r1.take k = r2.take k := by
    have := congrArg (List.take k) e
    rw [List.take_take, List.take_take, Nat.min_eq_left (by omega)] at this
    exact this
  have e2 : r1.getD k 0 = r2.getD k 0 := by
    have := congrArg (fun l => l.getD k 0) e
    rw [getD_lt _ 0 (by rw [List.length_take]; omega), getD_lt _ 0 (by rw [List.length_take]; omega), List.getElem_take, List.getElem_take] at this
    rw [getD_lt _ 0 (by omega), getD_lt _ 0 (by omega)]
    exact this
  unfold inWay
  rw [e1, e2]
theorem wayR_pre {o r1 r2 : List Int} {m : Nat} (h1 : m ≤ r1.length) (h2 : m ≤ r2.length) (e : r1.take m = r2.take m) : wayR o r1 m = wayR o r2 m := by
  unfold wayR
  congr 1
  apply List.filter_congr
  intro k hk
  exact inWay_pre h1 h2 e (List.mem_range.1 hk)
theorem wayR_top {o r : List Int} (h : 0 < r.length) : wayR o r r.length = wayR o (r.take (r.length - 1)) (r.take (r.length - 1)).length + if inWay o r (r.length - 1) = true then 1 else 0 := by
  have h1 : (r.take (r.length - 1)).length = r.length - 1 := by rw [List.length_take]; omega
  obtain ⟨m, hm⟩ : ∃ m, r.length = m + 1 := ⟨r.length - 1, by omega⟩
  have h2 := wayR_succ o r m
  rw [h1, hm]
  rw [hm] at h1
  simp only [Nat.add_sub_cancel] at h1 ⊢
  rw [h2, wayR_pre (o := o) (r1 := r) (r2 := r.take m) (m := m) (by omega) (by omega) (by rw [List.take_take, Nat.min_self])]
theorem wayR_snoc (o r : List Int) (q : Int) : wayR o r r.length ≤ wayR o (r ++ [q]) (r ++ [q]).length := by
  have h := wayR_top (o := o) (r := r ++ [q]) (by simp)
  rw [h]
  have e : (r ++ [q]).take ((r ++ [q]).length - 1) = r := by simp
  rw [e]
  omega
theorem wayX_set (o : List Int) {X : List (List Int)} {i : Nat} (hi : i < X.length) (a : List Int) : wayX o (X.set i a) + wayR o X[i] X[i].length = wayX o X + wayR o a a.length := by
  induction X generalizing i with
  | nil => simp at hi
  | cons r Y ih =>
    cases i with
    | zero =>
      simp only [wayX, List.set_cons_zero, List.map_cons, List.sum_cons, List.getElem_cons_zero]
      omega
    | succ i =>
      have := ih (i := i) (by simpa using hi)
      simp only [wayX, List.set_cons_succ, List.map_cons, List.sum_cons, List.getElem_cons_succ] at this ⊢
      omega
theorem way_move (o : List Int) {X : List (List Int)} {i k : Nat} (hi : i < X.length) (hk : k < X.length) (hne : k ≠ i) (h : 0 < X[i].length) : wayX o X ≤ wayX o (mvX X i k) + 1 := by
  rw [mvX_both X hi hk hne, getD_lt X [] hi, getD_lt X [] hk]
  have h1 := wayX_set o hi (X[i].take (X[i].length - 1))
  have hk2 : k < (X.set i (X[i].take (X[i].length - 1))).length := by rw [List.length_set]; exact hk
  have h2 := wayX_set o hk2 (X[k] ++ [topL X[i]])
  have e : (X.set i (X[i].take (X[i].length - 1)))[k] = X[k] := List.getElem_set_ne (Ne.symm hne) _
  rw [e] at h2
  have h3 := wayR_snoc o X[k] (topL X[i])
  have h4 := wayR_top (o := o) h
  split at h4 <;> omega
theorem plc_cons (p : Int) (r : List Int) (b : Int) : plc (p :: r) b = if b = p then 0 else plc r b + 1 := by
  unfold plc
  rw [List.findIdx?_cons]
  by_cases h : b = p
  · subst h; simp
  · have h2 : (p == b) = false := by rw [beq_eq_false_iff_ne]; exact fun e => h e.symm
    rw [h2, if_neg h]
    cases r.findIdx? (fun x => x == b) <;> simp
theorem way_drop {p : Int} {r : List Int} {X : List (List Int)} (h : p ∉ X.flatten) : wayX (p :: r) X = wayX r X := by
  unfold wayX
  congr 1
  apply List.map_congr_left
  intro s hs
  unfold wayR
  congr 1
  apply List.filter_congr
  intro k hk
  have hk' := List.mem_range.1 hk
  have hne : ∀ b ∈ s, b ≠ p := fun b hb e => h (List.mem_flatten.2 ⟨s, hs, e ▸ hb⟩)
  unfold inWay
  rw [Bool.eq_iff_iff, List.any_eq_true, List.any_eq_true]
  have hkb : s.getD k 0 ≠ p := by
    rw [getD_lt _ 0 hk']
    exact hne _ (List.getElem_mem _)
  constructor
  · rintro ⟨b, hb, hd⟩
    refine ⟨b, hb, ?_⟩
    rw [decide_eq_true_eq, plc_cons, plc_cons, if_neg (hne b (List.mem_of_mem_take hb)), if_neg hkb] at hd
    rw [decide_eq_true_eq]
    omega
  · rintro ⟨b, hb, hd⟩
    refine ⟨b, hb, ?_⟩
    rw [decide_eq_true_eq] at hd
    rw [decide_eq_true_eq, plc_cons, plc_cons, if_neg (hne b (List.mem_of_mem_take hb)), if_neg hkb]
    omega
theorem way_load {X : List (List Int)} {p : Int} {r : List Int} {k : Nat} (h : Inv X (p :: r)) (hk : nextK X p = some k) : wayX (p :: r) X = wayX r (mvX X k (-1)) := by
  obtain ⟨h1, h2, h3⟩ := h.next hk
  rw [← way_drop (h.load hk).2, mvX_drop X h1, getD_lt X [] h1]
  have h4 := wayX_set (p :: r) h1 (X[k].take (X[k].length - 1))
  have h5 := wayR_top (o := p :: r) h3
  have h6 : inWay (p :: r) X[k] (X[k].length - 1) = false := by
    unfold inWay
    rw [List.any_eq_false]
    intro b _
    have h7 : X[k].getD (X[k].length - 1) 0 = p := by
      unfold topL at h2
      rw [if_neg (by omega)] at h2
      exact h2
    rw [h7, plc_cons, plc_cons p r p, if_pos rfl]
    simp
  rw [h6, if_neg (by simp)] at h5
  omega
theorem wayNil : ∀ X : List (List Int), (X.map fun r => wayR [] r r.length).sum = 0
  | [] => rfl
  | s :: X => by
    have h0 : wayR [] s s.length = 0 := by
      unfold wayR
      rw [List.length_eq_zero_iff, List.filter_eq_nil_iff]
      intro k _
      unfold inWay plc
      simp
    rw [List.map_cons, List.sum_cons, h0, wayNil X]
/-- no list has fewer moves than packs are in the way -/
theorem way_le {X : List (List Int)} {o : List Int} {L : List (Int × Int)} {n : Nat} (s : Sol X o L n) (h : Inv X o) : wayX o X ≤ n := by
  induction s with
  | @done X =>
    have : wayX [] X = 0 := by
      exact wayNil X
    omega
  | load hk _ ih =>
    rw [way_load h hk]
    exact ih (h.load hk).1
  | @move X p r L n i k _ hi hk hm _ ih =>
    obtain ⟨h1, h2⟩ := mvOk_parts hi hk hm
    have := way_move (p :: r) hi hk h1 h2
    have := ih (h.move hi hk hm)
    omega
end Go.Proofs.YtiefiikheaiekaaDoor
