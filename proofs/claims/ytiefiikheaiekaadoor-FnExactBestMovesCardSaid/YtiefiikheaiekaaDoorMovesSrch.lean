/-
  Loading an order, the plain part: a list exists; the search in depth finds the first of the least.
-/
import Derived.Test.YtiefiikheaiekaaDoorMovesLaw
namespace Go.Proofs.YtiefiikheaiekaaDoor

/-! ## two moves of one pack -/
theorem mv_comp {X : List (List Int)} {i k j : Nat} (hi : i < X.length) (hk : k < X.length) (hj : j < X.length) (h1 : k ≠ i) (h2 : j ≠ k) (h3 : j ≠ i) : mvX (mvX X i k) k j = mvX X i j := by
  have hl := mvX_len X i k
  have hb := mvX_both X hi hk h1
  rw [getD_lt X [] hi, getD_lt X [] hk] at hb
  have g1 : (mvX X i k).getD k [] = X[k] ++ [topL X[i]] := by
    rw [hb, List.getD_eq_getElem?_getD, List.getElem?_set_self (by simpa using hk)]
    rfl
  have g2 : (mvX X i k).getD j [] = X[j] := by
    rw [hb, List.getD_eq_getElem?_getD, List.getElem?_set_ne (Ne.symm h2), List.getElem?_set_ne (Ne.symm h3), List.getElem?_eq_getElem hj]
    rfl
  rw [mvX_both (mvX X i k) (f := k) (t := j) (by omega) (by omega) h2, g1, g2, topL_snoc, mvX_both X hi hj h3, getD_lt X [] hi, getD_lt X [] hj]
  rw [show (X[k] ++ [topL X[i]]).take ((X[k] ++ [topL X[i]]).length - 1) = X[k] by simp, hb]
  apply List.ext_getElem
  · simp
  · intro m m1 m2
    simp only [List.getElem_set]
    by_cases e1 : j = m
    · subst e1; simp
    · by_cases e2 : k = m
      · subst e2
        rw [if_neg e1, if_pos rfl, if_neg e1, if_neg (fun e => h1 e.symm)]
      · rw [if_neg e1, if_neg e2, if_neg e2, if_neg e1]
/-- no pack is moved that has just been moved -/
inductive SolC : List (List Int) → List Int → Int → List (Int × Int) → Nat → Prop
  | done {X : List (List Int)} {last : Int} : SolC X [] last [] 0
  | load {X : List (List Int)} {p : Int} {r : List Int} {last : Int} {L : List (Int × Int)} {n k : Nat} (h : nextK X p = some k) (s : SolC (mvX X k (-1)) r (-1) L n) : SolC X (p :: r) last (((k : Int), -1) :: L) n
  | move {X : List (List Int)} {p : Int} {r : List Int} {last : Int} {L : List (Int × Int)} {n i k : Nat} (h : nextK X p = none) (hi : i < X.length) (hk : k < X.length) (hm : mvOk X i k = true) (hl : (i : Int) ≠ last) (s : SolC (mvX X i k) (p :: r) (k : Int) L n) : SolC X (p :: r) last (((i : Int), (k : Int)) :: L) (n + 1)
theorem SolC.sol {X : List (List Int)} {o : List Int} {last : Int} {L : List (Int × Int)} {n : Nat} (h : SolC X o last L n) : Sol X o L n := by
  induction h with
  | done => exact .done
  | load h _ ih => exact .load h ih
  | move h hi hk hm _ _ ih => exact .move h hi hk hm ih
/-- a least one moves no pack twice -/
theorem Sol.clean {X : List (List Int)} {o : List Int} {L : List (Int × Int)} {n : Nat} (s : Sol X o L n) : ∀ last : Int, (∀ L' n', Sol X o L' n' → n ≤ n') → (∀ (i k : Nat) (L' : List (Int × Int)) , L = ((i : Int), (k : Int)) :: L' → (i : Int) ≠ last) → SolC X o last L n := by
  induction s with
  | done => intro last _ _; exact .done
  | @load X p r L n k h s ih =>
    intro last hmin _
    refine .load h (ih (-1) (fun L' n' s' => hmin _ _ (.load h s')) (fun i k' L' _ => ?_))
    omega
  | @move X p r L n i k h hi hk hm s ih =>
    intro last hmin hlast
    obtain ⟨m1, m2⟩ := mvOk_parts hi hk hm
    refine .move h hi hk hm (hlast i k L rfl) (ih k (fun L' n' s' => ?_) (fun a b L' e => ?_))
    · have := hmin _ _ (.move h hi hk hm s')
      omega
    · subst e
      intro e
      have ea : a = k := by omega
      subst ea
      cases s with
      | @move _ _ _ _ n2 _ _ _ hi2 hk2 hmm s2 =>
        obtain ⟨q1, q2⟩ := mvOk_parts hi2 hk2 hmm
        have hb : b < X.length := by rw [mvX_len] at hk2; exact hk2
        by_cases e3 : b = i
        · subst e3
          rw [mv_back hi hk m1 m2] at s2
          have := hmin _ _ s2
          omega
        · rw [mv_comp hi hk hb m1 q1 e3] at s2
          have hm3 : mvOk X i b = true := by rw [mvOk_at hi hb, decide_eq_true e3, decide_eq_true m2]; rfl
          have := hmin _ _ (.move h hi hb hm3 s2)
          omega

/-! ## the search in depth -/
def tryAt (X : List (List Int)) (more : Nat) (last : Int) (f : List (List Int) → Int → Option (List (Int × Int))) (i k : Nat) : Option (List (Int × Int)) :=
  if mvOk X i k = true ∧ more ≠ 0 ∧ (i : Int) ≠ last then (f (mvX X i k) k).map (((i : Int), (k : Int)) :: ·) else none
def tryRow (X : List (List Int)) (more : Nat) (last : Int) (f : List (List Int) → Int → Option (List (Int × Int))) (i : Nat) (ks : List Nat) : Option (List (Int × Int)) := ks.findSome? (tryAt X more last f i)
def tryAll (X : List (List Int)) (more : Nat) (last : Int) (f : List (List Int) → Int → Option (List (Int × Int))) (is : List Nat) : Option (List (Int × Int)) := is.findSome? fun i => tryRow X more last f i (List.range X.length)
def srch : Nat → List (List Int) → List Int → Nat → Int → Option (List (Int × Int))
  | _, _, [], _, _ => some []
  | 0, _, _ :: _, _, _ => none
  | f + 1, X, p :: r, more, last =>
    if more < wayX (p :: r) X then none else
    match nextK X p with
    | some k => (srch f (mvX X k (-1)) r more (-1)).map (((k : Int), -1) :: ·)
    | none => tryAll X more last (fun Y l => srch f Y (p :: r) (more - 1) l) (List.range X.length)
theorem try_some {X : List (List Int)} {more : Nat} {last : Int} {f : List (List Int) → Int → Option (List (Int × Int))} {is : List Nat} {L : List (Int × Int)} (h : tryAll X more last f is = some L) :
    ∃ i k M, i ∈ is ∧ k < X.length ∧ mvOk X i k = true ∧ more ≠ 0 ∧ (i : Int) ≠ last ∧ f (mvX X i k) k = some M ∧ L = ((i : Int), (k : Int)) :: M := by
  obtain ⟨l1, i, l2, e, h1, _⟩ := List.findSome?_eq_some_iff.1 h
  obtain ⟨l3, k, l4, e2, h2, _⟩ := List.findSome?_eq_some_iff.1 h1
  unfold tryAt at h2
  split at h2
  · rename_i hc
    obtain ⟨M, hM, rfl⟩ := Option.map_eq_some_iff.1 h2
    exact ⟨i, k, M, by rw [e]; simp, List.mem_range.1 (by rw [e2]; simp), hc.1, hc.2.1, hc.2.2, hM, rfl⟩
  · cases h2
theorem srch_sound : ∀ (f : Nat) {X : List (List Int)} {o : List Int} {m : Nat} {last : Int} {L : List (Int × Int)}, srch f X o m last = some L → ∃ n, n ≤ m ∧ SolC X o last L n
  | f, X, [], m, last, L, h => by
    have : L = [] := by
      cases f <;> simp [srch] at h <;> exact h
    subst this
    exact ⟨0, by omega, .done⟩
  | 0, X, p :: r, m, last, L, h => by simp [srch] at h
  | f + 1, X, p :: r, m, last, L, h => by
    unfold srch at h
    split at h
    · cases h
    · split at h
      · rename_i k hk
        obtain ⟨M, hM, rfl⟩ := Option.map_eq_some_iff.1 h
        obtain ⟨n, hn, s⟩ := srch_sound f hM
        exact ⟨n, hn, .load hk s⟩
      · rename_i hk
        obtain ⟨i, k, M, hi, hkl, hm, hm0, hl, hM, rfl⟩ := try_some h
        obtain ⟨n, hn, s⟩ := srch_sound f hM
        exact ⟨n + 1, by omega, .move hk (List.mem_range.1 hi) hkl hm hl s⟩
/-- the first that is found is not after one that is there -/
theorem find_first {α : Type} (f : Nat → Option α) (n i : Nat) (hi : i < n) {a : α} (h : f i = some a) : ∃ j b, j ≤ i ∧ f j = some b ∧ (List.range n).findSome? f = some b ∧ ∀ m, m < j → f m = none := by
  cases hf : (List.range n).findSome? f with
  | none =>
    have := List.findSome?_eq_none_iff.1 hf i (List.mem_range.2 hi)
    rw [h] at this
    cases this
  | some b =>
    obtain ⟨l1, j, l2, e, h1, h2⟩ := List.findSome?_eq_some_iff.1 hf
    have hj : j = l1.length := by
      have := congrArg (fun l => l[l1.length]?) e
      simp only [List.getElem?_append_right (Nat.le_refl _), Nat.sub_self, List.getElem?_cons_zero] at this
      obtain ⟨hlt, e2⟩ := List.getElem?_eq_some_iff.1 this
      rw [List.getElem_range] at e2
      exact e2.symm
    have hl1 : l1 = List.range j := by
      have h3 := congrArg (List.take j) e
      rw [List.take_append_of_le_length (by omega), List.take_of_length_le (l := l1) (by omega)] at h3
      have hjn : j ≤ n := by
        have := congrArg List.length e
        simp at this
        omega
      rw [← h3, List.take_range, Nat.min_eq_left hjn]
    refine ⟨j, b, ?_, h1, rfl, fun m hm => h2 m (by rw [hl1]; exact List.mem_range.2 hm)⟩
    by_cases hij : j ≤ i
    · exact hij
    · have := h2 i (by rw [hl1]; exact List.mem_range.2 (by omega))
      rw [h] at this
      cases this
theorem srch_first : ∀ (f : Nat) {X : List (List Int)} {o : List Int} {m : Nat} {last : Int} {L' : List (Int × Int)} {n' : Nat}, m + o.length ≤ f → Inv X o → SolC X o last L' n' → n' ≤ m → ∃ L, srch f X o m last = some L ∧ LexLe L L'
  | f, X, [], m, last, L', n', _, _, s, _ => by
    cases s
    exact ⟨[], by cases f <;> rfl, LexLe.refl _⟩
  | 0, X, p :: r, m, last, L', n', hf, _, _, _ => by simp at hf
  | f + 1, X, p :: r, m, last, L', n', hf, hv, s, hn => by
    have hw := way_le s.sol hv
    unfold srch
    rw [if_neg (by omega)]
    cases s with
    | @load _ _ _ _ L n k h s =>
      obtain ⟨M, hM, hle⟩ := srch_first f (by simp at hf; omega) (hv.load h).1 s hn
      rw [h]
      exact ⟨((k : Int), -1) :: M, by simp [hM], hle.cons _⟩
    | @move _ _ _ _ L n i k h hi hk hm hl s =>
      obtain ⟨M, hM, hle⟩ := srch_first f (m := m - 1) (by simp at hf ⊢; omega) (hv.move hi hk hm) s (by omega)
      rw [h]
      dsimp only
      have hat : tryAt X m last (fun Y l => srch f Y (p :: r) (m - 1) l) i k = some (((i : Int), (k : Int)) :: M) := by
        unfold tryAt
        rw [if_pos ⟨hm, by omega, hl⟩]
        show (srch f (mvX X i k) (p :: r) (m - 1) k).map _ = _
        rw [hM]
        rfl
      obtain ⟨k2, M2, hk2, hat2, hrow, _⟩ := find_first (tryAt X m last (fun Y l => srch f Y (p :: r) (m - 1) l) i) X.length k hk hat
      obtain ⟨i2, M3, hi2, hrow3, hall, hno⟩ := find_first (fun i => tryRow X m last (fun Y l => srch f Y (p :: r) (m - 1) l) i (List.range X.length)) X.length i hi hrow
      refine ⟨M3, hall, ?_⟩
      by_cases e : i2 = i
      · subst e
        have e3 : M3 = M2 := by
          have h4 : tryRow X m last (fun Y l => srch f Y (p :: r) (m - 1) l) i2 (List.range X.length) = some M2 := hrow
          rw [h4] at hrow3
          exact (Option.some.inj hrow3).symm
        subst e3
        by_cases e2 : k2 = k
        · subst e2
          rw [hat] at hat2
          cases hat2
          exact hle.cons _
        · unfold tryAt at hat2
          split at hat2
          · obtain ⟨N, _, rfl⟩ := Option.map_eq_some_iff.1 hat2
            exact .inr (LexLt.head (a := ((i2 : Int), (k2 : Int))) (b := ((i2 : Int), (k : Int))) (.inr ⟨rfl, by show (k2 : Int) < k; omega⟩) _ _)
          · cases hat2
      · obtain ⟨l3, k3, l4, _, h5, _⟩ := List.findSome?_eq_some_iff.1 hrow3
        unfold tryAt at h5
        split at h5
        · obtain ⟨N, _, rfl⟩ := Option.map_eq_some_iff.1 h5
          exact .inr (LexLt.head (a := ((i2 : Int), (k3 : Int))) (b := ((i : Int), (k : Int))) (.inl (by show (i2 : Int) < i; omega)) _ _)
        · cases h5
/-- the search at the least number finds the best list -/
theorem srch_best {X : List (List Int)} {o : List Int} {L0 : List (Int × Int)} {n f : Nat} (hv : Inv X o) (s : Sol X o L0 n) (hmin : ∀ L' n', Sol X o L' n' → n ≤ n') (hf : n + o.length ≤ f) : ∃ L, srch f X o n (-1) = some L ∧ Best X o L n := by
  have hcl : ∀ L', Sol X o L' n → SolC X o (-1) L' n := fun L' s' => s'.clean (-1) hmin (fun i k L'' _ => by omega)
  obtain ⟨L, hL, _⟩ := srch_first f hf hv (hcl _ s) (Nat.le_refl _)
  obtain ⟨m, hm, sc⟩ := srch_sound f hL
  have e : m = n := Nat.le_antisymm hm (hmin _ _ sc.sol)
  subst e
  refine ⟨L, hL, sc.sol, hmin, fun L' s' => ?_⟩
  obtain ⟨L2, hL2, hle⟩ := srch_first f hf hv (hcl _ s') (Nat.le_refl _)
  rw [hL] at hL2
  cases hL2
  exact hle
/-- below it there is none -/
theorem srch_none {X : List (List Int)} {o : List Int} {n m f : Nat} (hmin : ∀ L' n', Sol X o L' n' → n ≤ n') (hm : m < n) : srch f X o m (-1) = none := by
  cases h : srch f X o m (-1) with
  | none => rfl
  | some L =>
    obtain ⟨k, hk, s⟩ := srch_sound f h
    have := hmin _ _ s.sol
    omega
end Go.Proofs.YtiefiikheaiekaaDoor
