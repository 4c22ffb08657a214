/-
  Loading an order, the plain part: the levels of the program's search.
-/
import Derived.Test.YtiefiikheaiekaaDoorMovesSrch
namespace Go.Proofs.YtiefiikheaiekaaDoor

/-- a yard, what has been loaded, the moves that led to it -/
structure St where
  Y : List (List Int)
  d : Nat
  M : List (Int × Int)
def stl (o : List Int) : Nat → St → St
  | 0, s => s
  | f + 1, s => match o[s.d]? with
    | none => s
    | some p => match nextK s.Y p with
      | none => s
      | some k => stl o f ⟨mvX s.Y k (-1), s.d + 1, s.M ++ [((k : Int), -1)]⟩
/-- all is loaded that is the next one and on top -/
def settle (o : List Int) (s : St) : St := stl o (o.length - s.d) s
theorem settle_next {o : List Int} {s : St} {k : Nat} (h : s.d < o.length) (hk : nextK s.Y o[s.d] = some k) : settle o s = settle o ⟨mvX s.Y k (-1), s.d + 1, s.M ++ [((k : Int), -1)]⟩ := by
  unfold settle
  obtain ⟨m, hm⟩ : ∃ m, o.length - s.d = m + 1 := ⟨o.length - s.d - 1, by omega⟩
  have h2 : o.length - (s.d + 1) = m := by omega
  rw [hm]
  simp only [stl]
  rw [List.getElem?_eq_getElem h]
  simp only [hk]
  rw [h2]
theorem settle_stop {o : List Int} {s : St} (h : ∀ hd : s.d < o.length, nextK s.Y o[s.d] = none) : settle o s = s := by
  unfold settle
  cases hm : o.length - s.d with
  | zero => rfl
  | succ m =>
    have hd : s.d < o.length := by omega
    simp only [stl]
    rw [List.getElem?_eq_getElem hd]
    simp only [h hd]
theorem settle_ind {o : List Int} {C : St → St → Prop} (hstop : ∀ s : St, (∀ hd : s.d < o.length, nextK s.Y o[s.d] = none) → C s s)
    (hnext : ∀ (s : St) (k : Nat) (hd : s.d < o.length), nextK s.Y o[s.d] = some k → C ⟨mvX s.Y k (-1), s.d + 1, s.M ++ [((k : Int), -1)]⟩ (settle o ⟨mvX s.Y k (-1), s.d + 1, s.M ++ [((k : Int), -1)]⟩) → C s (settle o ⟨mvX s.Y k (-1), s.d + 1, s.M ++ [((k : Int), -1)]⟩)) : ∀ s : St, C s (settle o s) := by
  suffices ∀ (n : Nat) (s : St), o.length - s.d = n → C s (settle o s) from fun s => this _ s rfl
  intro n
  induction n with
  | zero =>
    intro s hs
    rw [settle_stop (fun hd => by omega)]
    exact hstop s (fun hd => by omega)
  | succ n ih =>
    intro s hs
    have hd : s.d < o.length := by omega
    cases hk : nextK s.Y o[s.d] with
    | none =>
      rw [settle_stop (fun _ => hk)]
      exact hstop s (fun _ => hk)
    | some k =>
      rw [settle_next hd hk]
      exact hnext s k hd hk (ih _ (by show o.length - (s.d + 1) = n; omega))
theorem settle_set (o : List Int) (s : St) : ∀ hd : (settle o s).d < o.length, nextK (settle o s).Y o[(settle o s).d] = none :=
  settle_ind (o := o) (C := fun _ t => ∀ hd : t.d < o.length, nextK t.Y o[t.d] = none) (fun _ h => h) (fun _ _ _ _ h => h) s
theorem drop_at {o : List Int} {d : Nat} (h : d < o.length) : o.drop d = o[d] :: o.drop (d + 1) := List.drop_eq_getElem_cons h
/-- what settling does -/
def Shape (o : List Int) (s t : St) : Prop := ∃ T : List (Int × Int), t.M = s.M ++ T ∧ (∀ M2, settle o ⟨s.Y, s.d, M2⟩ = ⟨t.Y, t.d, M2 ++ T⟩) ∧ t.d = s.d + T.length ∧
  (∀ L n, Sol t.Y (o.drop t.d) L n → Sol s.Y (o.drop s.d) (T ++ L) n) ∧ (∀ L n, Sol s.Y (o.drop s.d) L n → ∃ L', L = T ++ L' ∧ Sol t.Y (o.drop t.d) L' n)
theorem settle_shape (o : List Int) (s : St) : Shape o s (settle o s) := by
  refine settle_ind (o := o) (C := Shape o) ?_ ?_ s
  · intro s hs
    exact ⟨[], by simp, fun M2 => by rw [settle_stop (s := ⟨s.Y, s.d, M2⟩) hs]; simp, by simp, fun L n h => h, fun L n h => ⟨L, rfl, h⟩⟩
  · rintro s k hd hk ⟨T, h1, h2, h3, h4, h5⟩
    refine ⟨((k : Int), -1) :: T, by rw [h1]; simp, fun M2 => ?_, by rw [h3]; simp only [List.length_cons]; omega, fun L n h => ?_, fun L n h => ?_⟩
    · rw [settle_next (s := ⟨s.Y, s.d, M2⟩) hd hk]
      have := h2 (M2 ++ [((k : Int), -1)])
      simp only at this
      rw [this]
      simp
    · rw [drop_at hd]
      exact .load hk (h4 L n h)
    · rw [drop_at hd] at h
      cases h with
      | @load _ _ _ L' _ k2 hk2 s2 =>
        rw [hk] at hk2
        cases hk2
        obtain ⟨L2, rfl, h6⟩ := h5 _ _ s2
        exact ⟨L2, rfl, h6⟩
      | move hn => rw [hk] at hn; cases hn

/-! ## what holds of a state -/
structure Good (X : List (List Int)) (o : List Int) (s : St) : Prop where
  inv : Inv s.Y (o.drop s.d)
  dle : s.d ≤ o.length
  len : s.Y.length = X.length
  fl : s.Y.flatten.length + s.d = X.flatten.length
  sub : ∀ p ∈ s.Y.flatten, p ∈ X.flatten
theorem Good.load {X : List (List Int)} {o : List Int} {s : St} (h : Good X o s) {k : Nat} (hd : s.d < o.length) (hk : nextK s.Y o[s.d] = some k) (M : List (Int × Int)) : Good X o ⟨mvX s.Y k (-1), s.d + 1, M⟩ := by
  have hi := h.inv
  rw [drop_at hd] at hi
  obtain ⟨h1, h2, h3⟩ := hi.next hk
  have hp := perm_drop h1 h3
  have hl := hp.length_eq
  have hfl := h.fl
  simp only [List.length_append, List.length_cons, List.length_nil] at hl
  exact ⟨(hi.load hk).1, hd, (mvX_len _ _ _).trans h.len, by show (mvX s.Y k (-1)).flatten.length + (s.d + 1) = _; omega, fun p hp2 => h.sub p (hp.mem_iff.1 (List.mem_append_left _ hp2))⟩
theorem Good.move {X : List (List Int)} {o : List Int} {s : St} (h : Good X o s) {i k : Nat} (hi : i < X.length) (hk : k < X.length) (hm : mvOk s.Y i k = true) (M : List (Int × Int)) : Good X o ⟨mvX s.Y i k, s.d, M⟩ := by
  have hi2 : i < s.Y.length := by rw [h.len]; exact hi
  have hk2 : k < s.Y.length := by rw [h.len]; exact hk
  obtain ⟨h1, h2⟩ := mvOk_parts hi2 hk2 hm
  have hp := perm_both hi2 hk2 h1 h2
  exact ⟨h.inv.move hi2 hk2 hm, h.dle, (mvX_len _ _ _).trans h.len, by show (mvX s.Y i k).flatten.length + s.d = _; rw [hp.length_eq]; exact h.fl, fun p hp2 => h.sub p (hp.mem_iff.1 hp2)⟩
theorem Good.settle {X : List (List Int)} {o : List Int} {s : St} (h : Good X o s) : Good X o (settle o s) := by
  refine settle_ind (o := o) (C := fun s t => Good X o s → Good X o t) (fun _ _ h => h) (fun s k hd hk ih h => ih (h.load hd hk _)) s h
theorem Good.start {X : List (List Int)} {o : List Int} (h : Inv X o) : Good X o ⟨X, 0, []⟩ := ⟨h, Nat.zero_le _, rfl, rfl, fun _ h => h⟩

/-! ## paths -/
/-- the state behind a move between stacks -/
def child (o : List Int) (s : St) (i k : Nat) : St := settle o ⟨mvX s.Y i k, s.d, s.M ++ [((i : Int), (k : Int))]⟩
inductive Path (X : List (List Int)) (o : List Int) : Nat → St → Prop
  | base : Path X o 0 (settle o ⟨X, 0, []⟩)
  | step {c : Nat} {s : St} {i k : Nat} (h : Path X o c s) (hd : s.d < o.length) (hi : i < X.length) (hk : k < X.length) (hm : mvOk s.Y i k = true) : Path X o (c + 1) (child o s i k)
theorem Path.good {X : List (List Int)} {o : List Int} (hv : Inv X o) {c : Nat} {s : St} (h : Path X o c s) : Good X o s := by
  induction h with
  | base => exact (Good.start hv).settle
  | step _ _ hi hk hm ih => exact (ih.move hi hk hm _).settle
theorem Path.set {X : List (List Int)} {o : List Int} {c : Nat} {s : St} (h : Path X o c s) : ∀ hd : s.d < o.length, nextK s.Y o[s.d] = none := by
  cases h with
  | base => exact settle_set _ _
  | step => exact settle_set _ _
theorem Path.mlen {X : List (List Int)} {o : List Int} {c : Nat} {s : St} (h : Path X o c s) : s.M.length = c + s.d := by
  induction h with
  | base =>
    obtain ⟨T, h1, _, h3, _⟩ := settle_shape o ⟨X, 0, []⟩
    rw [h1, h3]; simp
  | @step c s i k _ _ _ _ _ ih =>
    obtain ⟨T, h1, _, h3, _⟩ := settle_shape o ⟨mvX s.Y i k, s.d, s.M ++ [((i : Int), (k : Int))]⟩
    unfold child
    rw [h1, h3]
    simp only [List.length_append, List.length_cons, List.length_nil, ih]
    omega
theorem Path.sol {X : List (List Int)} {o : List Int} (hv : Inv X o) {c : Nat} {s : St} (h : Path X o c s) : ∀ {L : List (Int × Int)} {n : Nat}, Sol s.Y (o.drop s.d) L n → Sol X o (s.M ++ L) (c + n) := by
  induction h with
  | base =>
    intro L n hs
    obtain ⟨T, h1, _, _, h4, _⟩ := settle_shape o ⟨X, 0, []⟩
    have := h4 _ _ hs
    rw [h1]
    simpa using this
  | @step c s i k h hd hi hk hm ih =>
    intro L n hs
    obtain ⟨T, h1, _, _, h4, _⟩ := settle_shape o ⟨mvX s.Y i k, s.d, s.M ++ [((i : Int), (k : Int))]⟩
    have h5 := h4 _ _ hs
    have hg := h.good hv
    have h6 := h.set hd
    have h7 : Sol s.Y (o.drop s.d) (((i : Int), (k : Int)) :: (T ++ L)) (n + 1) := by
      simp only at h5
      rw [drop_at hd] at h5 ⊢
      exact .move h6 (by rw [hg.len]; exact hi) (by rw [hg.len]; exact hk) hm h5
    have h8 := ih h7
    unfold child
    rw [h1, show c + 1 + n = c + (n + 1) by omega]
    simpa using h8
theorem Path.ext {X : List (List Int)} {o : List Int} (hv : Inv X o) : ∀ {n c : Nat} {s : St} {L : List (Int × Int)}, Path X o c s → Sol s.Y (o.drop s.d) L n → ∃ t, Path X o (c + n) t ∧ t.d = o.length ∧ t.M = s.M ++ L := by
  intro n
  induction n with
  | zero =>
    intro c s L h hs
    by_cases hd : s.d < o.length
    · have h6 := h.set hd
      rw [drop_at hd] at hs
      cases hs with
      | load hk _ => rw [h6] at hk; cases hk
    · have hg := h.good hv
      have e : s.d = o.length := by have := hg.dle; omega
      rw [e, List.drop_length] at hs
      cases hs
      exact ⟨s, h, e, by simp⟩
  | succ n ih =>
    intro c s L h hs
    have hg := h.good hv
    by_cases hd : s.d < o.length
    · have h6 := h.set hd
      rw [drop_at hd] at hs
      cases hs with
      | load hk _ => rw [h6] at hk; cases hk
      | @move _ _ _ L' _ i k _ hi hk hm s2 =>
        rw [← drop_at hd] at s2
        rw [hg.len] at hi hk
        obtain ⟨T, h1, _, _, _, h5⟩ := settle_shape o ⟨mvX s.Y i k, s.d, s.M ++ [((i : Int), (k : Int))]⟩
        obtain ⟨L2, rfl, h7⟩ := h5 _ _ s2
        obtain ⟨t, t1, t2, t3⟩ := ih (h.step hd hi hk hm) h7
        refine ⟨t, by rw [show c + (n + 1) = c + 1 + n by omega]; exact t1, t2, ?_⟩
        rw [t3]
        unfold child
        rw [h1]
        simp
    · have e : s.d = o.length := by have := hg.dle; omega
      rw [e, List.drop_length] at hs
      cases hs
theorem Path.done {X : List (List Int)} {o : List Int} (hv : Inv X o) {c : Nat} {s : St} (h : Path X o c s) (hd : s.d = o.length) : Sol X o s.M c := by
  have := h.sol hv (L := []) (n := 0) (by rw [hd, List.drop_length]; exact .done)
  simpa using this
theorem sol_path {X : List (List Int)} {o : List Int} (hv : Inv X o) {L : List (Int × Int)} {n : Nat} (h : Sol X o L n) : ∃ t, Path X o n t ∧ t.d = o.length ∧ t.M = L := by
  obtain ⟨T, h1, _, _, _, h5⟩ := settle_shape o ⟨X, 0, []⟩
  obtain ⟨L2, rfl, h7⟩ := h5 L n h
  obtain ⟨t, t1, t2, t3⟩ := Path.ext hv (Path.base (X := X) (o := o)) h7
  refine ⟨t, by rw [Nat.zero_add] at t1; exact t1, t2, ?_⟩
  rw [t3, h1]
  rfl
theorem Path.split {X : List (List Int)} {o : List Int} (hv : Inv X o) : ∀ (m : Nat) {c j : Nat} {t : St} {L : List (Int × Int)}, Path X o (c + m) t → Sol t.Y (o.drop t.d) L j → ∃ s L', Path X o c s ∧ Sol s.Y (o.drop s.d) L' (j + m) := by
  intro m
  induction m with
  | zero => intro c j t L h hs; exact ⟨t, L, h, hs⟩
  | succ m ih =>
    intro c j t L h hs
    generalize hcm : c + (m + 1) = N at h
    cases h with
    | base => omega
    | @step c2 s i k h hd hi hk hm =>
      have e : c2 = c + m := by omega
      subst e
      obtain ⟨T, _, _, _, h4, _⟩ := settle_shape o ⟨mvX s.Y i k, s.d, s.M ++ [((i : Int), (k : Int))]⟩
      have h5 := h4 _ _ hs
      have hg := h.good hv
      have h7 : Sol s.Y (o.drop s.d) (((i : Int), (k : Int)) :: (T ++ L)) (j + 1) := by
        have h6 := h.set hd
        simp only at h5
        rw [drop_at hd] at h5 ⊢
        exact .move h6 (by rw [hg.len]; exact hi) (by rw [hg.len]; exact hk) hm h5
      obtain ⟨s2, L2, p1, p2⟩ := ih h h7
      exact ⟨s2, L2, p1, by rw [show j + (m + 1) = j + 1 + m by omega]; exact p2⟩
/-- what has been loaded is told by what is left -/
theorem told {X : List (List Int)} {o : List Int} (hv : Inv X o) {c c' : Nat} {s s' : St} (h : Path X o c s) (h' : Path X o c' s') (e : s.Y = s'.Y) : s.d = s'.d := by
  have h1 := (h.good hv).fl
  have h2 := (h'.good hv).fl
  rw [e] at h1
  omega
theorem child_eq (o : List Int) {s s' : St} (e : s.Y = s'.Y) (e2 : s.d = s'.d) (i k : Nat) : (child o s i k).Y = (child o s' i k).Y ∧ ∃ T, (child o s i k).M = s.M ++ ((i : Int), (k : Int)) :: T ∧ (child o s' i k).M = s'.M ++ ((i : Int), (k : Int)) :: T := by
  obtain ⟨T, h1, h2, _⟩ := settle_shape o ⟨mvX s.Y i k, s.d, s.M ++ [((i : Int), (k : Int))]⟩
  have h3 := h2 (s'.M ++ [((i : Int), (k : Int))])
  simp only at h3
  unfold child
  rw [← e, ← e2, h3]
  exact ⟨rfl, T, by rw [h1]; simp, by simp⟩
theorem LexLe.app {l l' : List (Int × Int)} (h : LexLe l l') (x : List (Int × Int)) : LexLe (l ++ x) (l' ++ x) := by
  rcases h with rfl | h
  · exact .inl rfl
  · exact .inr (h.app x x)

/-! ## a level -/
def cand (o : List Int) (s : St) (i k : Nat) : List St := if mvOk s.Y i k = true then [child o s i k] else []
def candI (o : List Int) (s : St) (i n : Nat) : List St := (List.range n).flatMap (cand o s i)
def candS (o : List Int) (n : Nat) (s : St) (m : Nat) : List St := (List.range m).flatMap fun i => candI o s i n
def cands (o : List Int) (n : Nat) (L : List St) : List St := L.flatMap fun s => candS o n s n
theorem candI_succ (o : List Int) (s : St) (i n : Nat) : candI o s i (n + 1) = candI o s i n ++ cand o s i n := by
  unfold candI
  rw [List.range_succ, List.flatMap_append]
  simp
theorem candS_succ (o : List Int) (n : Nat) (s : St) (m : Nat) : candS o n s (m + 1) = candS o n s m ++ candI o s m n := by
  unfold candS
  rw [List.range_succ, List.flatMap_append]
  simp
theorem cands_snoc (o : List Int) (n : Nat) (L : List St) (s : St) : cands o n (L ++ [s]) = cands o n L ++ candS o n s n := by
  unfold cands
  rw [List.flatMap_append]
  simp
theorem mem_cands {o : List Int} {n : Nat} {L : List St} {c : St} : c ∈ cands o n L ↔ ∃ s i k, s ∈ L ∧ i < n ∧ k < n ∧ mvOk s.Y i k = true ∧ c = child o s i k := by
  unfold cands candS candI cand
  simp only [List.mem_flatMap, List.mem_range]
  constructor
  · rintro ⟨s, hs, i, hi, k, hk, hc⟩
    split at hc
    · rename_i hm
      exact ⟨s, i, k, hs, hi, hk, hm, by simpa using hc⟩
    · cases hc
  · rintro ⟨s, i, k, hs, hi, hk, hm, rfl⟩
    exact ⟨s, hs, i, hi, k, hk, by rw [if_pos hm]; simp⟩
def MLt (a b : St) : Prop := LexLt a.M b.M
theorem child_M (o : List Int) (s : St) (i k : Nat) : ∃ T, (child o s i k).M = s.M ++ ((i : Int), (k : Int)) :: T := by
  obtain ⟨_, T, h, _⟩ := child_eq o (rfl : s.Y = s.Y) rfl i k
  exact ⟨T, h⟩
theorem mem_cand {o : List Int} {s c : St} {i k : Nat} (h : c ∈ cand o s i k) : c = child o s i k := by
  unfold cand at h
  split at h
  · simpa using h
  · cases h
theorem sort_candI (o : List Int) (s : St) (i n : Nat) : (candI o s i n).Pairwise MLt := by
  induction n with
  | zero => exact List.Pairwise.nil
  | succ n ih =>
    rw [candI_succ]
    refine List.pairwise_append.2 ⟨ih, ?_, fun a ha b hb => ?_⟩
    · unfold cand
      split
      · exact List.pairwise_singleton _ _
      · exact List.Pairwise.nil
    · obtain ⟨k, hk, ha⟩ := List.mem_flatMap.1 ha
      have hk := List.mem_range.1 hk
      rw [mem_cand ha, mem_cand hb]
      obtain ⟨T, h1⟩ := child_M o s i k
      obtain ⟨T2, h2⟩ := child_M o s i n
      unfold MLt
      rw [h1, h2]
      exact (LexLt.head (a := ((i : Int), (k : Int))) (b := ((i : Int), (n : Int))) (.inr ⟨rfl, by show (k : Int) < n; omega⟩) _ _).pre _
theorem sort_candS (o : List Int) (n : Nat) (s : St) (m : Nat) : (candS o n s m).Pairwise MLt := by
  induction m with
  | zero => exact List.Pairwise.nil
  | succ m ih =>
    rw [candS_succ]
    refine List.pairwise_append.2 ⟨ih, sort_candI o s m n, fun a ha b hb => ?_⟩
    obtain ⟨i, hi, ha⟩ := List.mem_flatMap.1 ha
    obtain ⟨k, _, ha⟩ := List.mem_flatMap.1 ha
    obtain ⟨k2, _, hb⟩ := List.mem_flatMap.1 hb
    have hi := List.mem_range.1 hi
    rw [mem_cand ha, mem_cand hb]
    obtain ⟨T, h1⟩ := child_M o s i k
    obtain ⟨T2, h2⟩ := child_M o s m k2
    unfold MLt
    rw [h1, h2]
    exact (LexLt.head (a := ((i : Int), (k : Int))) (b := ((m : Int), (k2 : Int))) (.inl (by show (i : Int) < m; omega)) _ _).pre _
theorem sort_cands (o : List Int) (n : Nat) {L : List St} (h : L.Pairwise MLt) : (cands o n L).Pairwise MLt := by
  induction L with
  | nil => exact List.Pairwise.nil
  | cons s L ih =>
    obtain ⟨h1, h2⟩ := List.pairwise_cons.1 h
    show (candS o n s n ++ cands o n L).Pairwise MLt
    refine List.pairwise_append.2 ⟨sort_candS o n s n, ih h2, fun a ha b hb => ?_⟩
    obtain ⟨i, _, ha⟩ := List.mem_flatMap.1 ha
    obtain ⟨k, _, ha⟩ := List.mem_flatMap.1 ha
    obtain ⟨t, i2, k2, ht, _, _, _, rfl⟩ := mem_cands.1 hb
    rw [mem_cand ha]
    obtain ⟨T, e1⟩ := child_M o s i k
    obtain ⟨T2, e2⟩ := child_M o t i2 k2
    unfold MLt
    rw [e1, e2]
    exact (h1 t ht).app _ _
def stepc (kn : List (List (List Int)) × List St) (c : St) : List (List (List Int)) × List St := if c.Y ∈ kn.1 then kn else (kn.1 ++ [c.Y], kn.2 ++ [c])
def runc (K : List (List (List Int))) (cs : List St) : List (List (List Int)) × List St := cs.foldl stepc (K, [])
theorem runc_app (K : List (List (List Int))) (cs ds : List St) : runc K (cs ++ ds) = ds.foldl stepc (runc K cs) := by
  unfold runc
  rw [List.foldl_append]
theorem fold_spec : ∀ (cs : List St) (K : List (List (List Int))) (N : List St), cs.Pairwise MLt → ∃ S : List St, cs.foldl stepc (K, N) = (K ++ S.map St.Y, N ++ S) ∧ S.Sublist cs ∧ (∀ s ∈ S, s.Y ∉ K) ∧ (S.map St.Y).Nodup ∧ (∀ c ∈ cs, c.Y ∈ K ∨ ∃ s ∈ S, s.Y = c.Y ∧ LexLe s.M c.M)
  | [], K, N, _ => ⟨[], by simp, by simp, by simp, by simp, by simp⟩
  | a :: cs, K, N, h => by
    obtain ⟨h1, h2⟩ := List.pairwise_cons.1 h
    by_cases hm : a.Y ∈ K
    · obtain ⟨S, e, s1, s2, s3, s4⟩ := fold_spec cs K N h2
      refine ⟨S, ?_, s1.cons _, s2, s3, fun c hc => ?_⟩
      · rw [List.foldl_cons, stepc, if_pos hm, e]
      · rcases List.mem_cons.1 hc with rfl | hc
        · exact .inl hm
        · exact s4 c hc
    · obtain ⟨S, e, s1, s2, s3, s4⟩ := fold_spec cs (K ++ [a.Y]) (N ++ [a]) h2
      have hna : ∀ s ∈ S, s.Y ≠ a.Y ∧ s.Y ∉ K := fun s hs => by
        have := s2 s hs
        simp only [List.mem_append, List.mem_singleton, not_or] at this
        exact ⟨this.2, this.1⟩
      refine ⟨a :: S, ?_, s1.cons_cons _, fun s hs => ?_, ?_, fun c hc => ?_⟩
      · rw [List.foldl_cons, stepc, if_neg hm, e]
        simp
      · rcases List.mem_cons.1 hs with rfl | hs
        · exact hm
        · exact (hna s hs).2
      · rw [List.map_cons, List.nodup_cons]
        refine ⟨fun hmm => ?_, s3⟩
        obtain ⟨s, hs, e2⟩ := List.mem_map.1 hmm
        exact (hna s hs).1 e2
      · by_cases he : c.Y = a.Y
        · refine .inr ⟨a, List.mem_cons_self, he.symm, ?_⟩
          rcases List.mem_cons.1 hc with rfl | hc
          · exact .inl rfl
          · exact .inr (h1 c hc)
        · rcases List.mem_cons.1 hc with rfl | hc
          · exact absurd rfl he
          · rcases s4 c hc with h3 | ⟨s, hs, h3⟩
            · rcases List.mem_append.1 h3 with h3 | h3
              · exact .inl h3
              · exact absurd (by simpa using h3) he
            · exact .inr ⟨s, List.mem_cons_of_mem _ hs, h3⟩
/-- what holds of a level and of what is known -/
structure Lev (X : List (List Int)) (o : List Int) (c : Nat) (K : List (List (List Int))) (L : List St) : Prop where
  path : ∀ s ∈ L, Path X o c s
  sort : L.Pairwise MLt
  know : ∀ Y, Y ∈ K ↔ ∃ c' s, c' ≤ c ∧ Path X o c' s ∧ s.Y = Y
  all : ∀ s, Path X o c s → (∀ c' s', c' < c → Path X o c' s' → s'.Y ≠ s.Y) → ∃ t ∈ L, t.Y = s.Y ∧ LexLe t.M s.M
  nod : ∀ c' s, c' < c → Path X o c' s → s.d ≠ o.length
  nodup : K.Nodup
  le : L.length ≤ K.length
theorem Lev.start (X : List (List Int)) (o : List Int) : Lev X o 0 [(settle o ⟨X, 0, []⟩).Y] [settle o ⟨X, 0, []⟩] := by
  have h0 : ∀ s, Path X o 0 s → s = settle o ⟨X, 0, []⟩ := fun s h => by cases h; rfl
  refine ⟨fun s hs => ?_, List.pairwise_singleton _ _, fun Y => ⟨fun h => ?_, ?_⟩, fun s hs _ => ?_, fun c' s h => by omega, by simp, by simp⟩
  · rw [List.mem_singleton] at hs
    subst hs
    exact .base
  · rw [List.mem_singleton] at h
    exact ⟨0, _, Nat.le_refl _, .base, h.symm⟩
  · rintro ⟨c', s, hc, hp, rfl⟩
    have : c' = 0 := by omega
    subst this
    rw [h0 s hp]
    simp
  · rw [h0 s hs]
    exact ⟨_, List.mem_singleton.2 rfl, rfl, .inl rfl⟩
theorem Lev.step {X : List (List Int)} {o : List Int} (hv : Inv X o) {c : Nat} {K : List (List (List Int))} {L : List St} (h : Lev X o c K L) (hd : ∀ s ∈ L, s.d ≠ o.length) : Lev X o (c + 1) (runc K (cands o X.length L)).1 (runc K (cands o X.length L)).2 := by
  obtain ⟨S, e, s1, s2, s3, s4⟩ := fold_spec (cands o X.length L) K [] (sort_cands o X.length h.sort)
  have hsc := sort_cands o X.length h.sort
  unfold runc
  rw [e]
  simp only [List.nil_append]
  have hlt : ∀ s ∈ L, s.d < o.length := fun s hs => by
    have h1 := ((h.path s hs).good hv).dle
    have h2 := hd s hs
    omega
  have hcp : ∀ t ∈ cands o X.length L, Path X o (c + 1) t := fun t ht => by
    obtain ⟨s, i, k, hs, hi, hk, hm, rfl⟩ := mem_cands.1 ht
    exact (h.path s hs).step (hlt s hs) hi hk hm
  -- a state one move on whose parent is new is among the candidates, with a list that is not after
  have hcand : ∀ s i k, Path X o c s → i < X.length → k < X.length → mvOk s.Y i k = true → (∀ c' s', c' < c → Path X o c' s' → s'.Y ≠ s.Y) → ∃ t ∈ cands o X.length L, t.Y = (child o s i k).Y ∧ LexLe t.M (child o s i k).M := by
    intro s i k hp hi hk hm hno
    obtain ⟨t, ht, e1, e2⟩ := h.all s hp hno
    have e3 := told hv (h.path t ht) hp e1
    obtain ⟨c1, T, c2, c3⟩ := child_eq o e1 e3 i k
    refine ⟨child o t i k, mem_cands.2 ⟨t, i, k, ht, hi, hk, by rw [e1]; exact hm, rfl⟩, c1, ?_⟩
    rw [c2, c3]
    exact e2.app _
  have hdn : ∀ s, Path X o c s → s.d ≠ o.length := fun s hp hds => by
    obtain ⟨t, ht, e1, _⟩ := h.all s hp (fun c' s' hc hp' e1 => h.nod c' s' hc hp' (by rw [told hv hp' hp e1]; exact hds))
    exact hd t ht (by rw [told hv (h.path t ht) hp e1]; exact hds)
  refine ⟨fun s hs => hcp s (s1.subset hs), hsc.sublist s1, fun Y => ⟨fun hY => ?_, ?_⟩, fun s hs hno => ?_, fun c' s hc hp => ?_, ?_, ?_⟩
  · rcases List.mem_append.1 hY with hY | hY
    · obtain ⟨c', s, h1, h2, h3⟩ := (h.know Y).1 hY
      exact ⟨c', s, by omega, h2, h3⟩
    · obtain ⟨s, hs, rfl⟩ := List.mem_map.1 hY
      exact ⟨c + 1, s, Nat.le_refl _, hcp s (s1.subset hs), rfl⟩
  · rintro ⟨c', s, hc, hp, rfl⟩
    by_cases hc2 : c' ≤ c
    · exact List.mem_append_left _ ((h.know _).2 ⟨c', s, hc2, hp, rfl⟩)
    · have e2 : c' = c + 1 := by omega
      subst e2
      cases hp with
      | @step _ p i k hp hdp hi hk hm =>
        by_cases hno : ∀ c' s', c' < c → Path X o c' s' → s'.Y ≠ p.Y
        · obtain ⟨t, ht, e1, _⟩ := hcand p i k hp hi hk hm hno
          rw [← e1]
          rcases s4 t ht with h5 | ⟨u, hu, h5, _⟩
          · exact List.mem_append_left _ h5
          · exact List.mem_append_right _ (List.mem_map.2 ⟨u, hu, h5⟩)
        · have ⟨c2, s2', q1, q2, q3⟩ : ∃ c2 s2', c2 < c ∧ Path X o c2 s2' ∧ s2'.Y = p.Y := by
            apply Classical.byContradiction
            intro hx
            exact hno fun c' s' a b e3 => hx ⟨c', s', a, b, e3⟩
          have e4 := told hv q2 hp q3
          obtain ⟨e5, _⟩ := child_eq o q3 e4 i k
          rw [← e5]
          exact List.mem_append_left _ ((h.know _).2 ⟨c2 + 1, _, by omega, q2.step (by rw [e4]; exact hdp) hi hk (by rw [q3]; exact hm), rfl⟩)
  · cases hs with
    | @step _ p i k hp hdp hi hk hm =>
      have hno2 : ∀ c' s', c' < c → Path X o c' s' → s'.Y ≠ p.Y := fun c' s' hc hp' q3 => by
        have e4 := told hv hp' hp q3
        obtain ⟨e5, _⟩ := child_eq o q3 e4 i k
        exact hno (c' + 1) _ (by omega) (hp'.step (by rw [e4]; exact hdp) hi hk (by rw [q3]; exact hm)) e5
      obtain ⟨t, ht, e1, e2⟩ := hcand p i k hp hi hk hm hno2
      rcases s4 t ht with h5 | ⟨u, hu, h5, h6⟩
      · obtain ⟨c', s', q1, q2, q3⟩ := (h.know _).1 h5
        exact absurd (q3.trans e1) (hno c' s' (by omega) q2)
      · exact ⟨u, hu, h5.trans e1, h6.trans e2⟩
  · by_cases hc2 : c' < c
    · exact h.nod c' s hc2 hp
    · have e2 : c' = c := by omega
      subst e2
      exact hdn s hp
  · refine List.nodup_append.2 ⟨h.nodup, s3, fun a ha b hb e2 => ?_⟩
    subst e2
    obtain ⟨s, hs, rfl⟩ := List.mem_map.1 hb
    exact s2 s hs ha
  · simp
theorem Lev.best {X : List (List Int)} {o : List Int} (hv : Inv X o) {c : Nat} {K : List (List (List Int))} {L : List St} (h : Lev X o c K L) {j : Nat} (hj : j < L.length) (hd : L[j].d = o.length) (hno : ∀ m (hm : m < L.length), m < j → L[m].d ≠ o.length) : Best X o L[j].M c := by
  refine ⟨(h.path _ (List.getElem_mem hj)).done hv hd, fun L' n' hs => ?_, fun L' hs => ?_⟩
  · obtain ⟨t, t1, t2, _⟩ := sol_path hv hs
    by_cases hc : c ≤ n'
    · exact hc
    · exact absurd t2 (h.nod n' t (by omega) t1)
  · obtain ⟨t, t1, t2, rfl⟩ := sol_path hv hs
    obtain ⟨u, hu, e1, e2⟩ := h.all t t1 (fun c' s' hc hp e => h.nod c' s' hc hp (by rw [told hv hp t1 e]; exact t2))
    have hud : u.d = o.length := by rw [told hv (h.path u hu) t1 e1]; exact t2
    obtain ⟨m, hm, rfl⟩ := List.getElem_of_mem hu
    by_cases hmj : m < j
    · exact absurd hud (hno m hm hmj)
    · refine LexLe.trans ?_ e2
      by_cases e3 : m = j
      · subst e3
        exact .inl rfl
      · exact .inr (List.pairwise_iff_getElem.1 h.sort j m hj hm (by omega))
/-- while the least number is not reached the level is not empty -/
theorem Lev.alive {X : List (List Int)} {o : List Int} (hv : Inv X o) {c : Nat} {K : List (List (List Int))} {L : List St} (h : Lev X o c K L) {Lb : List (Int × Int)} {n : Nat} (hb : Sol X o Lb n) (hl : ∀ L' n', Sol X o L' n' → n ≤ n') (hc : c ≤ n) : 0 < L.length ∧ (c = n → ∃ j, ∃ hj : j < L.length, L[j].d = o.length) := by
  obtain ⟨t, t1, t2, _⟩ := sol_path hv hb
  have t1' : Path X o (c + (n - c)) t := by rw [show c + (n - c) = n by omega]; exact t1
  obtain ⟨s, L', p1, p2⟩ := Path.split hv (n - c) t1' (L := []) (j := 0) (by rw [t2, List.drop_length]; exact .done)
  have hno : ∀ c' s', c' < c → Path X o c' s' → s'.Y ≠ s.Y := fun c' s' h1 h2 e => by
    have e2 := told hv h2 p1 e
    have := hl _ _ (h2.sol hv (L := L') (n := 0 + (n - c)) (by rw [e, e2]; exact p2))
    omega
  obtain ⟨u, hu, e1, _⟩ := h.all s p1 hno
  refine ⟨List.length_pos_of_mem hu, fun e => ?_⟩
  subst e
  have hno2 : ∀ c' s', c' < c → Path X o c' s' → s'.Y ≠ t.Y := fun c' s' h1 h2 e => h.nod c' s' h1 h2 (by rw [told hv h2 t1 e]; exact t2)
  obtain ⟨v, hv2, e3, _⟩ := h.all t t1 hno2
  obtain ⟨j, hj, rfl⟩ := List.getElem_of_mem hv2
  exact ⟨j, hj, by rw [told hv (h.path _ hv2) t1 e3]; exact t2⟩
end Go.Proofs.YtiefiikheaiekaaDoor
