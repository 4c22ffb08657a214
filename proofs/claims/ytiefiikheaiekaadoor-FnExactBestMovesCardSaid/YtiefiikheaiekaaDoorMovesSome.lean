/-
  Loading an order, the plain part: when there is a list of moves; how many yards there are.
-/
import Derived.Test.YtiefiikheaiekaaDoorMovesBfs
namespace Go.Proofs.YtiefiikheaiekaaDoor

/-! ## a list is there -/
theorem sol_two : ∀ {o : List Int} {X : List (List Int)}, Inv X o → 2 ≤ X.length → ∃ L n, Sol X o L n ∧ n ≤ 6 * o.length
  | [], X, _, _ => ⟨[], 0, .done, by simp⟩
  | p :: r, X, hv, h2 => by
    have key : ∀ (m : Nat) (X : List (List Int)), Inv X (p :: r) → 2 ≤ X.length → (∃ a, ∃ ha : a < X.length, ∃ j, ∃ hj : j < X[a].length, X[a][j] = p ∧ X[a].length - 1 - j = m) → ∃ L n, Sol X (p :: r) L n ∧ n ≤ m + 6 * r.length := by
      intro m
      induction m with
      | zero =>
        rintro X hv h2 ⟨a, ha, j, hj, he, hm⟩
        have ht := (top_at hv.vy ha hj).2 (by omega)
        cases hk : nextK X p with
        | none => exact absurd (ht.trans he) (nextK_none hk a ha)
        | some k =>
          obtain ⟨L, n, hs, hn⟩ := sol_two (hv.load hk).1 (by rw [mvX_len]; exact h2)
          exact ⟨_, n, .load hk hs, by omega⟩
      | succ m ih =>
        rintro X hv h2 ⟨a, ha, j, hj, he, hm⟩
        cases hk : nextK X p with
        | some k =>
          obtain ⟨L, n, hs, hn⟩ := sol_two (hv.load hk).1 (by rw [mvX_len]; exact h2)
          exact ⟨_, n, .load hk hs, by omega⟩
        | none =>
          obtain ⟨b, hb, hne⟩ : ∃ b, b < X.length ∧ b ≠ a := by
            by_cases h0 : a = 0
            · exact ⟨1, by omega, by omega⟩
            · exact ⟨0, by omega, by omega⟩
          have h0 : 0 < X[a].length := by omega
          have hok : mvOk X a b = true := by rw [mvOk_at ha hb, decide_eq_true hne, decide_eq_true h0]; rfl
          have hl := mvX_len X a b
          have e : ∀ h' : a < (mvX X a b).length, (mvX X a b)[a] = X[a].take (X[a].length - 1) := by
            intro h'
            have hbo := mvX_both X ha hb hne
            rw [getD_lt X [] ha, getD_lt X [] hb] at hbo
            have h3 : (mvX X a b)[a]? = some (X[a].take (X[a].length - 1)) := by
              rw [hbo, List.getElem?_set_ne hne, List.getElem?_set_self ha]
            rw [List.getElem?_eq_getElem h'] at h3
            exact Option.some.inj h3
          have ha' : a < (mvX X a b).length := by omega
          obtain ⟨L, n, hs, hn⟩ := ih (mvX X a b) (hv.move ha hb hok) (by omega) ⟨a, ha', j, by rw [e ha', List.length_take]; omega, by simp only [e ha', List.getElem_take]; exact he, by rw [e ha', List.length_take]; omega⟩
          exact ⟨_, n + 1, .move hk ha hb hok hs, by omega⟩
    have hp := hv.mem p List.mem_cons_self
    obtain ⟨s, hs, hps⟩ := List.mem_flatten.1 hp
    obtain ⟨a, ha, rfl⟩ := List.getElem_of_mem hs
    obtain ⟨j, hj, he⟩ := List.getElem_of_mem hps
    have h6 := (vy_rows hv.vy).2 _ hs
    obtain ⟨L, n, h1, h3⟩ := key _ X hv h2 ⟨a, ha, j, hj, he, rfl⟩
    exact ⟨L, n, h1, by simp only [List.length_cons]; omega⟩
theorem wayR_of (o : List Int) {X : List (List Int)} {a : Nat} (ha : a < X.length) : wayR o X[a] X[a].length ≤ wayX o X := by
  have := wayX_set o ha []
  simp only [List.length_nil] at this
  have e : wayR o [] 0 = 0 := rfl
  omega
theorem sol_zero : ∀ {o : List Int} {X : List (List Int)}, Inv X o → wayX o X = 0 → ∃ L, Sol X o L 0
  | [], X, _, _ => ⟨[], .done⟩
  | p :: r, X, hv, h0 => by
    cases hk : nextK X p with
    | some k =>
      obtain ⟨L, hs⟩ := sol_zero (hv.load hk).1 (by rw [← way_load hv hk]; exact h0)
      exact ⟨_, .load hk hs⟩
    | none =>
      exfalso
      have hp := hv.mem p List.mem_cons_self
      obtain ⟨s, hs, hps⟩ := List.mem_flatten.1 hp
      obtain ⟨a, ha, rfl⟩ := List.getElem_of_mem hs
      obtain ⟨j, hj, he⟩ := List.getElem_of_mem hps
      have hnt := nextK_none hk a ha
      have hjt : j ≠ X[a].length - 1 := fun e => hnt (((top_at hv.vy ha hj).2 e).trans he)
      have hw := wayR_top (o := p :: r) (r := X[a]) (by omega)
      have hin : inWay (p :: r) X[a] (X[a].length - 1) = true := by
        unfold inWay
        rw [List.any_eq_true]
        refine ⟨p, by rw [List.mem_take_iff_getElem]; exact ⟨j, by omega, he⟩, ?_⟩
        have h7 : X[a].getD (X[a].length - 1) 0 = topL X[a] := by
          unfold topL
          rw [if_neg (by omega)]
        rw [h7, plc_cons, plc_cons, if_pos rfl, if_neg hnt]
        simp
      rw [hin] at hw
      have := wayR_of (p :: r) ha
      simp at hw
      omega
theorem sol_one {o : List Int} {X : List (List Int)} {L : List (Int × Int)} {n : Nat} (h : Sol X o L n) : X.length = 1 → n = 0 := by
  induction h with
  | done => intro _; rfl
  | load _ _ ih => intro h1; exact ih (by rw [mvX_len]; exact h1)
  | move _ hi hk hm _ _ =>
    intro h1
    obtain ⟨m1, _⟩ := mvOk_parts hi hk hm
    omega
/-- with one stack and packs in the way there is none -/
theorem no_sol {o : List Int} {X : List (List Int)} (hv : Inv X o) (h1 : X.length = 1) (hw : 0 < wayX o X) : ∀ L n, ¬ Sol X o L n := fun L n h => by
  have := sol_one h h1
  have := way_le h hv
  omega
theorem cands_one {o : List Int} {X : List (List Int)} (hv : Inv X o) (h1 : X.length = 1) {c : Nat} {K : List (List (List Int))} {L : List St} (h : Lev X o c K L) : cands o X.length L = [] := by
  rw [List.eq_nil_iff_forall_not_mem]
  intro t ht
  obtain ⟨s, i, k, hs, hi, hk, hm, rfl⟩ := mem_cands.1 ht
  have hl := ((h.path s hs).good hv).len
  obtain ⟨m1, _⟩ := mvOk_parts (X := s.Y) (i := i) (k := k) (by omega) (by omega) hm
  omega
theorem Sol.len {X : List (List Int)} {o : List Int} {L : List (Int × Int)} {n : Nat} (h : Sol X o L n) : L.length = n + o.length := by
  induction h with
  | done => rfl
  | load _ _ ih => simp only [List.length_cons, ih]; omega
  | move _ _ _ _ _ ih => simp only [List.length_cons] at ih ⊢; omega

/-! ## how many yards -/
theorem card_le : ∀ (N : Nat) (l : List Nat), l.Nodup → (∀ x ∈ l, x < N) → l.length ≤ N
  | 0, [], _, _ => Nat.le_refl _
  | 0, x :: l, _, h => absurd (h x List.mem_cons_self) (by omega)
  | N + 1, l, hn, h => by
    by_cases hm : N ∈ l
    · have h1 := card_le N (l.erase N) (hn.erase N) (fun x hx => by
        have h2 := h x (List.mem_of_mem_erase hx)
        have h3 : x ≠ N := fun e => by
          subst e
          exact absurd hx (by rw [hn.mem_erase_iff]; simp)
        omega)
      have h2 := List.length_erase_of_mem hm
      omega
    · have := card_le N l hn (fun x hx => by
        have h2 := h x hx
        have h3 : x ≠ N := fun e => by subst e; exact hm hx
        omega)
      omega
def numL : List Nat → Nat
  | [] => 0
  | d :: l => numL l * 8 + d
theorem numL_inj : ∀ {l l' : List Nat}, (∀ d ∈ l, 1 ≤ d ∧ d ≤ 7) → (∀ d ∈ l', 1 ≤ d ∧ d ≤ 7) → numL l = numL l' → l = l'
  | [], [], _, _, _ => rfl
  | [], d :: l, _, h, e => by
    have := h d List.mem_cons_self
    simp only [numL] at e
    omega
  | d :: l, [], h, _, e => by
    have := h d List.mem_cons_self
    simp only [numL] at e
    omega
  | d :: l, d' :: l', h, h', e => by
    have h1 := h d List.mem_cons_self
    have h2 := h' d' List.mem_cons_self
    simp only [numL] at e
    have e2 : d = d' := by omega
    have e3 : numL l = numL l' := by omega
    rw [e2, numL_inj (fun x hx => h x (List.mem_cons_of_mem _ hx)) (fun x hx => h' x (List.mem_cons_of_mem _ hx)) e3]
theorem numL_lt : ∀ {l : List Nat}, (∀ d ∈ l, d ≤ 7) → numL l < 8 ^ l.length
  | [], _ => by simp [numL]
  | d :: l, h => by
    have h1 := h d List.mem_cons_self
    have h2 := numL_lt (l := l) (fun x hx => h x (List.mem_cons_of_mem _ hx))
    simp only [numL, List.length_cons, Nat.pow_succ]
    omega
theorem plc_mem {F : List Int} {p : Int} (h : p ∈ F) : F[plc F p]? = some p := by
  obtain ⟨j, hj, e⟩ := List.getElem_of_mem h
  cases hf : F.findIdx? (fun x => x == p) with
  | none =>
    have := List.findIdx?_eq_none_iff.1 hf p h
    simp at this
  | some i =>
    obtain ⟨hi, h2, _⟩ := List.findIdx?_eq_some_iff_getElem.1 hf
    have e2 : plc F p = i := by unfold plc; rw [hf]; rfl
    rw [e2, List.getElem?_eq_getElem hi]
    simp only [beq_iff_eq] at h2
    rw [h2]
def digs (F : List Int) (Y : List (List Int)) : List Nat := Y.flatMap fun r => r.map (fun p => plc F p + 1) ++ [7]
theorem sep_inj : ∀ {l l' t t' : List Nat}, 7 ∉ l → 7 ∉ l' → l ++ 7 :: t = l' ++ 7 :: t' → l = l' ∧ t = t'
  | [], [], _, _, _, _, e => ⟨rfl, by simpa using e⟩
  | [], a :: l', _, _, _, h, e => by
    simp only [List.nil_append, List.cons_append, List.cons.injEq] at e
    exact absurd (List.mem_cons.2 (.inl e.1)) h
  | a :: l, [], _, _, h, _, e => by
    simp only [List.nil_append, List.cons_append, List.cons.injEq] at e
    exact absurd (List.mem_cons.2 (.inl e.1.symm)) h
  | a :: l, b :: l', _, _, h, h', e => by
    simp only [List.cons_append, List.cons.injEq] at e
    obtain ⟨rfl, e⟩ := e
    obtain ⟨rfl, rfl⟩ := sep_inj (fun hm => h (List.mem_cons_of_mem _ hm)) (fun hm => h' (List.mem_cons_of_mem _ hm)) e
    exact ⟨rfl, rfl⟩
theorem map_plc_inj {F : List Int} : ∀ {r r' : List Int}, (∀ p ∈ r, p ∈ F) → (∀ p ∈ r', p ∈ F) → r.map (fun p => plc F p + 1) = r'.map (fun p => plc F p + 1) → r = r'
  | [], [], _, _, _ => rfl
  | [], _ :: _, _, _, e => by simp at e
  | _ :: _, [], _, _, e => by simp at e
  | p :: r, q :: r', h, h', e => by
    simp only [List.map_cons, List.cons.injEq] at e
    have h1 := plc_mem (h p List.mem_cons_self)
    have h2 := plc_mem (h' q List.mem_cons_self)
    have e1 : plc F p = plc F q := by omega
    rw [e1, h2] at h1
    rw [(Option.some.inj h1).symm, map_plc_inj (fun x hx => h x (List.mem_cons_of_mem _ hx)) (fun x hx => h' x (List.mem_cons_of_mem _ hx)) e.2]
theorem no7 {F r : List Int} (hF : F.length ≤ 6) (h : ∀ p ∈ r, p ∈ F) : 7 ∉ r.map (fun p => plc F p + 1) := fun hm => by
  obtain ⟨p, hp, e⟩ := List.mem_map.1 hm
  have h1 := plc_mem (h p hp)
  obtain ⟨h2, _⟩ := List.getElem?_eq_some_iff.1 h1
  omega
theorem digs_inj {F : List Int} (hF : F.length ≤ 6) : ∀ {Y Y' : List (List Int)}, (∀ p ∈ Y.flatten, p ∈ F) → (∀ p ∈ Y'.flatten, p ∈ F) → digs F Y = digs F Y' → Y = Y'
  | [], [], _, _, _ => rfl
  | [], _ :: _, _, _, e => by simp [digs] at e
  | _ :: _, [], _, _, e => by simp [digs] at e
  | r :: Y, r' :: Y', h, h', e => by
    have e2 : r.map (fun p => plc F p + 1) ++ 7 :: digs F Y = r'.map (fun p => plc F p + 1) ++ 7 :: digs F Y' := by
      simpa [digs] using e
    have m1 : ∀ p ∈ r, p ∈ F := fun p hp => h p (by rw [List.flatten_cons]; exact List.mem_append_left _ hp)
    have m2 : ∀ p ∈ r', p ∈ F := fun p hp => h' p (by rw [List.flatten_cons]; exact List.mem_append_left _ hp)
    obtain ⟨e3, e4⟩ := sep_inj (no7 hF m1) (no7 hF m2) e2
    rw [map_plc_inj m1 m2 e3, digs_inj hF (fun p hp => h p (by rw [List.flatten_cons]; exact List.mem_append_right _ hp)) (fun p hp => h' p (by rw [List.flatten_cons]; exact List.mem_append_right _ hp)) e4]
theorem digs_ok {F : List Int} (hF : F.length ≤ 6) : ∀ {Y : List (List Int)}, (∀ p ∈ Y.flatten, p ∈ F) → (∀ d ∈ digs F Y, 1 ≤ d ∧ d ≤ 7) ∧ (digs F Y).length = Y.flatten.length + Y.length
  | [], _ => ⟨fun d hd => by simp [digs] at hd, rfl⟩
  | r :: Y, h => by
    obtain ⟨h1, h2⟩ := digs_ok hF (Y := Y) (fun p hp => h p (by rw [List.flatten_cons]; exact List.mem_append_right _ hp))
    have e : digs F (r :: Y) = r.map (fun p => plc F p + 1) ++ 7 :: digs F Y := by simp [digs]
    rw [e]
    constructor
    · intro d hd
      rcases List.mem_append.1 hd with hd | hd
      · obtain ⟨p, hp, rfl⟩ := List.mem_map.1 hd
        have h3 := plc_mem (h p (by rw [List.flatten_cons]; exact List.mem_append_left _ hp))
        obtain ⟨h4, _⟩ := List.getElem?_eq_some_iff.1 h3
        omega
      · rcases List.mem_cons.1 hd with rfl | hd
        · omega
        · exact h1 d hd
    · simp only [List.length_append, List.length_map, List.length_cons, h2, List.flatten_cons]
      omega
/-- there are not too many yards -/
theorem card_yards {X : List (List Int)} (hF : X.flatten.length ≤ 6) {K : List (List (List Int))} (hn : K.Nodup) (hg : ∀ Y ∈ K, (∀ p ∈ Y.flatten, p ∈ X.flatten) ∧ Y.flatten.length ≤ 6 ∧ Y.length ≤ 4) : K.length ≤ 1073741824 := by
  have := card_le 1073741824 (K.map fun Y => numL (digs X.flatten Y)) (by
    refine List.pairwise_map.2 ?_
    refine List.Pairwise.imp_of_mem ?_ hn
    intro a b ha hb hne e
    have g1 := hg a ha
    have g2 := hg b hb
    exact hne (digs_inj hF g1.1 g2.1 (numL_inj (digs_ok hF g1.1).1 (digs_ok hF g2.1).1 e))) (fun x hx => by
    obtain ⟨Y, hY, rfl⟩ := List.mem_map.1 hx
    have g1 := hg Y hY
    have g2 := digs_ok hF g1.1
    have g3 := numL_lt (l := digs X.flatten Y) (fun d hd => (g2.1 d hd).2)
    have g4 : (8 : Nat) ^ (digs X.flatten Y).length ≤ 8 ^ 10 := Nat.pow_le_pow_right (by omega) (by omega)
    have g5 : (8 : Nat) ^ 10 = 1073741824 := by decide
    omega)
  simpa using this
/-- a valid yard of the packs of X -/
def YG (X Y : List (List Int)) : Prop := vyB Y = true ∧ ∀ p ∈ Y.flatten, p ∈ X.flatten
theorem YG.card {X : List (List Int)} (hv : vyB X = true) {K : List (List (List Int))} (hn : K.Nodup) (hg : ∀ Y ∈ K, YG X Y) : K.length ≤ 1073741824 :=
  card_yards (dB_true hv).2.1 hn (fun Y hY => ⟨(hg Y hY).2, (dB_true (hg Y hY).1).2.1, (dB_true (hg Y hY).1).1.2⟩)
theorem Good.yg {X : List (List Int)} {o : List Int} {s : St} (h : Good X o s) : YG X s.Y := ⟨h.inv.vy, h.sub⟩

/-! ## the best list -/
noncomputable def bestP (X : List (List Int)) (o : List Int) : Option (List (Int × Int) × Nat) := by
  classical
  exact if h : ∃ p : List (Int × Int) × Nat, Best X o p.1 p.2 then some (Classical.choose h) else none
theorem bestP_some {X : List (List Int)} {o : List Int} {L : List (Int × Int)} {n : Nat} (h : Best X o L n) : bestP X o = some (L, n) := by
  have hx : ∃ p : List (Int × Int) × Nat, Best X o p.1 p.2 := ⟨(L, n), h⟩
  unfold bestP
  rw [dif_pos hx]
  obtain ⟨e1, e2⟩ := (Classical.choose_spec hx).unique h
  rw [← e1, ← e2]
theorem bestP_none {X : List (List Int)} {o : List Int} (h : ∀ L n, ¬ Sol X o L n) : bestP X o = none := by
  unfold bestP
  rw [dif_neg]
  rintro ⟨p, hp⟩
  exact h _ _ hp.sol
/-- the least number is there, and small -/
theorem least_some {X : List (List Int)} {o : List Int} (hv : Inv X o) (hX : X.length = 1 → wayX o X = 0) : ∃ L n, Sol X o L n ∧ (∀ L' n', Sol X o L' n' → n ≤ n') ∧ n ≤ 6 * o.length := by
  have h1 : ∃ L n, Sol X o L n ∧ n ≤ 6 * o.length := by
    by_cases h2 : 2 ≤ X.length
    · exact sol_two hv h2
    · have h3 := (dB_true hv.vy).1.1
      obtain ⟨L, hL⟩ := sol_zero hv (hX (by omega))
      exact ⟨L, 0, hL, by omega⟩
  obtain ⟨L, n, hs, hn⟩ := h1
  obtain ⟨m, L', h2, h3⟩ := best_of hs
  exact ⟨L', m, h2, h3, Nat.le_trans (h3 _ _ hs) hn⟩
theorem ord_len {X : List (List Int)} {o : List Int} (hv : Inv X o) : o.length ≤ 6 := by
  have hX := dB_true hv.vy
  have h1 : o.length ≤ X.flatten.length := by
    have h2 := card_le X.flatten.length (o.map fun p => plc X.flatten p) (by
      refine List.pairwise_map.2 ?_
      refine List.Pairwise.imp_of_mem ?_ hv.nd
      intro a b ha hb hne e
      have g1 := plc_mem (hv.mem a ha)
      rw [e, plc_mem (hv.mem b hb)] at g1
      exact hne (Option.some.inj g1).symm) (fun x hx => by
      obtain ⟨p, hp, rfl⟩ := List.mem_map.1 hx
      exact (List.getElem?_eq_some_iff.1 (plc_mem (hv.mem p hp))).1)
    simpa using h2
  have := hX.2.1
  omega
end Go.Proofs.YtiefiikheaiekaaDoor
