/-
  Rounds, in numbers: the lengths of all rounds over some places, the least of them; rounds over fewer places; the used places of a search.
-/
import Derived.Test.YtcookepklcbfeaaPlain
namespace Go.Proofs.Ytcookepklcbfeaa

theorem setP {α : Type} (s : List α) {k : Nat} (h : k < s.length) (v : α) : (s.set k v).Perm (v :: s.eraseIdx k) := by
  induction s generalizing k with
  | nil => simp at h
  | cons a s ih =>
    cases k with
    | zero => simp
    | succ k =>
      simp only [List.set_cons_succ, List.eraseIdx_cons_succ]
      exact ((ih (by simpa using h)).cons a).trans (List.Perm.swap _ _ _)
theorem getP {α : Type} (s : List α) {k : Nat} (h : k < s.length) : s.Perm (s[k] :: s.eraseIdx k) := by
  have := setP s h s[k]
  rwa [List.set_getElem_self] at this

/-- a round's rest: from a over all of l and back to 0 -/
inductive Tour (D : Int → Int → Int) : Int → List Int → Int → Prop
  | fin (a : Int) : 0 ≤ D a 0 → Tour D a [] (D a 0)
  | go (a p : Int) (l r : List Int) (L : Int) : l.Perm (p :: r) → 0 ≤ D a p → Tour D p r L → Tour D a l (D a p + L)
section
variable {D : Int → Int → Int}
theorem Tour.pos {a : Int} {l : List Int} {L : Int} (h : Tour D a l L) : 0 ≤ L := by
  induction h with
  | fin a h => exact h
  | go a p l r L _ h _ ih => omega
theorem Tour.perm {a : Int} {l l' : List Int} {L : Int} (h : Tour D a l L) (hp : l.Perm l') : Tour D a l' L := by
  cases h with
  | fin _ h => rw [List.nil_perm.1 hp]; exact Tour.fin a h
  | go _ p _ r L h1 h2 h3 => exact Tour.go a p l' r L (hp.symm.trans h1) h2 h3
theorem Tour.nil_ {a L : Int} (h : Tour D a [] L) : 0 ≤ D a 0 ∧ L = D a 0 := by
  cases h with
  | fin _ h => exact ⟨h, rfl⟩
  | go _ p _ r L h1 _ _ => exact absurd h1.symm (by simp)
theorem Tour.cons_ {a : Int} {l : List Int} {L : Int} (h : Tour D a l L) (hn : l ≠ []) : ∃ p r L', l.Perm (p :: r) ∧ 0 ≤ D a p ∧ Tour D p r L' ∧ L = D a p + L' := by
  cases h with
  | fin _ h => exact absurd rfl hn
  | go _ p _ r L h1 h2 h3 => exact ⟨p, r, L, h1, h2, h3, rfl⟩
theorem Tour.le {M : Int} (hD : ∀ a b, D a b ≤ M) {a : Int} {l : List Int} {L : Int} (h : Tour D a l L) : L ≤ M * (l.length + 1) := by
  induction h with
  | fin a h => have := hD a 0; simp; omega
  | go a p l r L h1 h _ ih =>
    have := hD a p
    have e := h1.length_eq
    rw [e, List.length_cons, Int.natCast_add, Int.mul_add, Int.mul_add]
    rw [Int.mul_add] at ih
    simp
    omega
/-- from elsewhere -/
theorem Tour.shift (tri : ∀ a b c, 0 ≤ D a b → 0 ≤ D b c → 0 ≤ D a c ∧ D a c ≤ D a b + D b c) {a p : Int} {l : List Int} {L : Int} (h : Tour D p l L) (h0 : 0 ≤ D a p) : ∃ L', Tour D a l L' ∧ L' ≤ D a p + L := by
  cases h with
  | fin _ h =>
    have t := tri a p 0 h0 h
    exact ⟨_, Tour.fin a t.1, t.2⟩
  | go _ q _ r L h1 h2 h3 =>
    have t := tri a p q h0 h2
    exact ⟨_, Tour.go a q l r L h1 t.1 h3, by omega⟩
/-- over fewer places -/
theorem Tour.drop (tri : ∀ a b c, 0 ≤ D a b → 0 ≤ D b c → 0 ≤ D a c ∧ D a c ≤ D a b + D b c) {a : Int} {l : List Int} {L : Int} (h : Tour D a l L) : ∀ {x : Int} {s : List Int}, l.Perm (x :: s) → ∃ L', Tour D a s L' ∧ L' ≤ L := by
  induction h with
  | fin a h => intro x s hp; exact absurd hp.symm (by simp)
  | go a p l r L h1 h2 h3 ih =>
    intro x s hp
    by_cases e : p = x
    · subst e
      have hr : r.Perm s := List.Perm.cons_inv (h1.symm.trans hp)
      obtain ⟨L', t1, t2⟩ := h3.shift tri h2
      exact ⟨L', t1.perm hr, t2⟩
    · have h5 := h1.symm.trans hp
      have hm : x ∈ r := by
        have : x ∈ p :: r := h5.mem_iff.2 (List.mem_cons_self ..)
        rcases List.mem_cons.1 this with h | h
        · exact absurd h.symm e
        · exact h
      obtain ⟨k, hk, rfl⟩ := List.getElem_of_mem hm
      have hr := getP r hk
      obtain ⟨L', t1, t2⟩ := ih hr
      refine ⟨D a p + L', Tour.go a p s _ L' ?_ h2 t1, by omega⟩
      have h6 : (r[k] :: s).Perm (p :: r[k] :: r.eraseIdx k) := h5.symm.trans (hr.cons p)
      exact List.Perm.cons_inv (h6.trans (List.Perm.swap _ _ _))
/-- the least, -1 if there is none -/
def Mn (D : Int → Int → Int) (a : Int) (l : List Int) (v : Int) : Prop := (v = -1 ∧ ∀ L, ¬ Tour D a l L) ∨ (0 ≤ v ∧ Tour D a l v ∧ ∀ L, Tour D a l L → v ≤ L)
theorem Mn.one {a : Int} {l : List Int} {v v' : Int} (h : Mn D a l v) (h' : Mn D a l v') : v = v' := by
  rcases h with ⟨h1, h2⟩ | ⟨h1, h2, h3⟩ <;> rcases h' with ⟨g1, g2⟩ | ⟨g1, g2, g3⟩
  · omega
  · exact absurd g2 (h2 _)
  · exact absurd h2 (g2 _)
  · have := h3 _ g2; have := g3 _ h2; omega
theorem Mn.lo {a : Int} {l : List Int} {v : Int} (h : Mn D a l v) : -1 ≤ v := by rcases h with ⟨h, _⟩ | ⟨h, _⟩ <;> omega
theorem Mn.hi {M : Int} (hM : 0 ≤ M) (hD : ∀ a b, D a b ≤ M) {a : Int} {l : List Int} {v : Int} (h : Mn D a l v) : v ≤ M * (l.length + 1) := by
  rcases h with ⟨h, _⟩ | ⟨_, h, _⟩
  · have : 0 ≤ M * ((l.length : Int) + 1) := Int.mul_nonneg hM (by omega)
    omega
  · exact h.le hD
theorem Mn.nil_ {a : Int} (h : -1 ≤ D a 0) : Mn D a [] (D a 0) := by
  by_cases e : 0 ≤ D a 0
  · exact .inr ⟨e, Tour.fin a e, fun L t => by have := t.nil_.2; omega⟩
  · exact .inl ⟨by omega, fun L t => e t.nil_.1⟩
/-- the works themselves need not be named -/
theorem Mn.zero (tri : ∀ a b c, 0 ≤ D a b → 0 ≤ D b c → 0 ≤ D a c ∧ D a c ≤ D a b + D b c) (h0 : D 0 0 = 0) {l : List Int} {v : Int} (h : Mn D 0 l v) : Mn D 0 (0 :: l) v := by
  have go : ∀ L, Tour D 0 l L → Tour D 0 (0 :: l) L := fun L t => by
    have := Tour.go 0 0 (0 :: l) l L (List.Perm.refl _) (by omega) t
    rwa [h0, Int.zero_add] at this
  rcases h with ⟨h1, h2⟩ | ⟨h1, h2, h3⟩
  · refine .inl ⟨h1, fun L t => ?_⟩
    obtain ⟨L', t1, _⟩ := t.drop tri (List.Perm.refl _)
    exact h2 L' t1
  · refine .inr ⟨h1, go _ h2, fun L t => ?_⟩
    obtain ⟨L', t1, t2⟩ := t.drop tri (List.Perm.refl _)
    have := h3 L' t1
    omega
/-- fewer places: no longer -/
theorem Mn.fewer (tri : ∀ a b c, 0 ≤ D a b → 0 ≤ D b c → 0 ≤ D a c ∧ D a c ≤ D a b + D b c) {a x : Int} {l : List Int} {v v' : Int} (h : Mn D a (x :: l) v) (h' : Mn D a l v') (h0 : 0 ≤ v) : 0 ≤ v' ∧ v' ≤ v := by
  rcases h with ⟨h1, h2⟩ | ⟨h1, h2, h3⟩
  · omega
  · obtain ⟨L', t1, t2⟩ := h2.drop tri (List.Perm.refl _)
    rcases h' with ⟨g1, g2⟩ | ⟨g1, g2, g3⟩
    · exact absurd t1 (g2 _)
    · have := g3 L' t1; omega

/-! the program's loop: the best of the first k -/
def RB (D : Int → Int → Int) (a : Int) (l : List Int) (k : Nat) (v : Int) : Prop :=
  (v = -1 ∧ ∀ i (h : i < l.length), i < k → 0 ≤ D a l[i] → ∀ L, ¬ Tour D l[i] (l.eraseIdx i) L) ∨
  (0 ≤ v ∧ (∃ i, ∃ h : i < l.length, 0 ≤ D a l[i] ∧ ∃ L, Tour D l[i] (l.eraseIdx i) L ∧ v = D a l[i] + L) ∧ ∀ i (h : i < l.length), i < k → 0 ≤ D a l[i] → ∀ L, Tour D l[i] (l.eraseIdx i) L → v ≤ D a l[i] + L)
theorem RB.start {a : Int} {l : List Int} : RB D a l 0 (-1) := .inl ⟨rfl, fun i _ h => by omega⟩
theorem RB.lo {a : Int} {l : List Int} {k : Nat} {v : Int} (h : RB D a l k v) : -1 ≤ v := by rcases h with ⟨h, _⟩ | ⟨h, _⟩ <;> omega
theorem RB.hi {M : Int} (hM : 0 ≤ M) (hD : ∀ a b, D a b ≤ M) {a : Int} {l : List Int} {k : Nat} {v : Int} (h : RB D a l k v) : v ≤ M * (l.length + 1) := by
  rcases h with ⟨h, _⟩ | ⟨_, ⟨i, hi, h0, L, t, e⟩, _⟩
  · have : 0 ≤ M * ((l.length : Int) + 1) := Int.mul_nonneg hM (by omega)
    omega
  · have := t.le hD
    have hl : ((l.eraseIdx i).length : Int) + 1 = l.length := by rw [List.length_eraseIdx_of_lt hi]; omega
    rw [hl] at this
    have := hD a l[i]
    rw [Int.mul_add]
    omega
theorem RB.skip {a : Int} {l : List Int} {k : Nat} {v : Int} (h : RB D a l k v) (hk : k < l.length) (hno : 0 ≤ D a l[k] → ∀ L, ¬ Tour D l[k] (l.eraseIdx k) L) : RB D a l (k + 1) v := by
  rcases h with ⟨h1, h2⟩ | ⟨h1, h2, h3⟩
  · refine .inl ⟨h1, fun i hi hk1 h0 => ?_⟩
    by_cases e : i = k
    · subst e; exact hno h0
    · exact h2 i hi (by omega) h0
  · refine .inr ⟨h1, h2, fun i hi hk1 h0 L t => ?_⟩
    by_cases e : i = k
    · subst e; exact absurd t (hno h0 L)
    · exact h3 i hi (by omega) h0 L t
theorem RB.keep {a : Int} {l : List Int} {k : Nat} {v x : Int} (h : RB D a l k v) (hk : k < l.length) (hx : Mn D l[k] (l.eraseIdx k) x) (h0 : 0 ≤ v) (hle : v ≤ D a l[k] + x) : RB D a l (k + 1) v := by
  rcases h with ⟨h1, h2⟩ | ⟨h1, h2, h3⟩
  · omega
  · refine .inr ⟨h1, h2, fun i hi hk1 h0 L t => ?_⟩
    by_cases e : i = k
    · subst e
      rcases hx with ⟨g1, g2⟩ | ⟨g1, g2, g3⟩
      · exact absurd t (g2 L)
      · have := g3 L t; omega
    · exact h3 i hi (by omega) h0 L t
theorem RB.new {a : Int} {l : List Int} {k : Nat} {v x : Int} (h : RB D a l k v) (hk : k < l.length) (hx : Mn D l[k] (l.eraseIdx k) x) (hx0 : 0 ≤ x) (hd : 0 ≤ D a l[k]) (hle : v < 0 ∨ D a l[k] + x < v) : RB D a l (k + 1) (D a l[k] + x) := by
  rcases hx with ⟨g1, g2⟩ | ⟨g1, g2, g3⟩
  · omega
  · refine .inr ⟨by omega, ⟨k, hk, hd, x, g2, rfl⟩, fun i hi hk1 h0 L t => ?_⟩
    by_cases e : i = k
    · subst e
      have := g3 L t; omega
    · rcases h with ⟨h1, h2⟩ | ⟨h1, h2, h3⟩
      · exact absurd t (h2 i hi (by omega) h0 L)
      · have := h3 i hi (by omega) h0 L t
        omega
theorem Tour.at_ {a : Int} {l : List Int} {L : Int} (h : Tour D a l L) (hn : l ≠ []) : ∃ i, ∃ hi : i < l.length, 0 ≤ D a l[i] ∧ ∃ L', Tour D l[i] (l.eraseIdx i) L' ∧ L = D a l[i] + L' := by
  obtain ⟨p, r, L', h1, h2, h3, h4⟩ := h.cons_ hn
  have hm : p ∈ l := h1.mem_iff.2 (List.mem_cons_self ..)
  obtain ⟨i, hi, rfl⟩ := List.getElem_of_mem hm
  exact ⟨i, hi, h2, L', h3.perm (List.Perm.cons_inv (h1.symm.trans (getP l hi))), h4⟩
theorem RB.done {a : Int} {l : List Int} {v : Int} (hn : l ≠ []) (h : RB D a l l.length v) : Mn D a l v := by
  rcases h with ⟨h1, h2⟩ | ⟨h1, ⟨i, hi, h0, L, t, e⟩, h3⟩
  · refine .inl ⟨h1, fun L t => ?_⟩
    obtain ⟨i, hi, h0, L', t', _⟩ := t.at_ hn
    exact h2 i hi hi h0 L' t'
  · refine .inr ⟨h1, ?_, fun L t => ?_⟩
    · rw [e]
      exact Tour.go a _ l _ L (getP l hi) h0 t
    · obtain ⟨i, hi, h0, L', t', e'⟩ := t.at_ hn
      have := h3 i hi hi h0 L' t'
      omega

/-! the reference's search -/
/-- the places that are not used -/
def unL : List Int → List Bool → List Int
  | x :: xs, u :: us => if u then unL xs us else x :: unL xs us
  | _, _ => []
theorem unL_set : ∀ {xs : List Int} {us : List Bool} {i : Nat} (hi : i < xs.length), us[i]? = some false → (unL xs us).Perm (xs[i] :: unL xs (us.set i true)) := by
  intro xs
  induction xs with
  | nil => intro us i hi; simp at hi
  | cons x xs ih =>
    intro us i hi hu
    cases us with
    | nil => simp at hu
    | cons u us =>
      cases i with
      | zero =>
        simp at hu
        subst hu
        simp [unL]
      | succ i =>
        have := ih (us := us) (i := i) (by simpa using hi) (by simpa using hu)
        cases u with
        | true => simpa [unL] using this
        | false =>
          simp only [unL, List.set_cons_succ, List.getElem_cons_succ]
          exact (this.cons x).trans (List.Perm.swap _ _ _)
theorem unL_mem : ∀ {xs : List Int} {us : List Bool} {p : Int}, p ∈ unL xs us → ∃ i, ∃ hi : i < xs.length, us[i]? = some false ∧ xs[i] = p := by
  intro xs
  induction xs with
  | nil => intro us p h; simp [unL] at h
  | cons x xs ih =>
    intro us p h
    cases us with
    | nil => simp [unL] at h
    | cons u us =>
      cases u with
      | true =>
        obtain ⟨i, hi, h1, h2⟩ := ih (us := us) (by simpa [unL] using h)
        exact ⟨i + 1, by simpa using hi, by simpa using h1, by simpa using h2⟩
      | false =>
        rcases List.mem_cons.1 (show p ∈ x :: unL xs us by simpa [unL] using h) with rfl | h
        · exact ⟨0, by simp, by simp, rfl⟩
        · obtain ⟨i, hi, h1, h2⟩ := ih (us := us) h
          exact ⟨i + 1, by simpa using hi, by simpa using h1, by simpa using h2⟩
theorem unL_all (xs : List Int) : unL xs (List.replicate xs.length false) = xs := by
  induction xs with
  | nil => rfl
  | cons x xs ih => simp [unL, List.replicate_succ, ih]
/-- what the search leaves -/
structure WkR (D : Int → Int → Int) (sum a : Int) (l : List Int) (least v : Int) : Prop where
  lo : -1 ≤ v
  how : v = least ∨ ∃ L, Tour D a l L ∧ v = sum + L
  le : 0 ≤ least → 0 ≤ v ∧ v ≤ least
  all : ∀ L, Tour D a l L → 0 ≤ v ∧ v ≤ sum + L
theorem WkR.prune {sum a : Int} {l : List Int} {least : Int} (h0 : 0 ≤ least) (h : least ≤ sum) : WkR D sum a l least least :=
  ⟨by omega, .inl rfl, fun _ => ⟨h0, Int.le_refl _⟩, fun L t => by have := t.pos; omega⟩
theorem WkR.fin {sum a least : Int} (hl : -1 ≤ least) (hs : 0 ≤ sum) (h0 : 0 ≤ D a 0) (h : least < 0 ∨ sum + D a 0 < least) : WkR D sum a [] least (sum + D a 0) :=
  ⟨by omega, .inr ⟨_, Tour.fin a h0, rfl⟩, fun _ => by omega, fun L t => by have := t.nil_.2; omega⟩
theorem WkR.finNo {sum a least : Int} (hl : -1 ≤ least) (h : ¬ 0 ≤ D a 0 ∨ (0 ≤ least ∧ least ≤ sum + D a 0)) : WkR D sum a [] least least :=
  ⟨hl, .inl rfl, fun h => ⟨h, Int.le_refl _⟩, fun L t => by have := t.nil_; omega⟩
/-- at the head of its loop's round k -/
structure WkI (D : Int → Int → Int) (sum a : Int) (xs : List Int) (us : List Bool) (k : Nat) (least v : Int) : Prop where
  lo : -1 ≤ v
  how : v = least ∨ ∃ L, Tour D a (unL xs us) L ∧ v = sum + L
  le : 0 ≤ least → 0 ≤ v ∧ v ≤ least
  all : ∀ i (hi : i < xs.length), i < k → us[i]? = some false → 0 ≤ D a xs[i] → ∀ L, Tour D xs[i] (unL xs (us.set i true)) L → 0 ≤ v ∧ v ≤ sum + (D a xs[i] + L)
theorem WkI.start {sum a : Int} {xs : List Int} {us : List Bool} {least : Int} (hl : -1 ≤ least) : WkI D sum a xs us 0 least least :=
  ⟨hl, .inl rfl, fun h => ⟨h, Int.le_refl _⟩, fun i _ h => by omega⟩
theorem WkI.skip {sum a : Int} {xs : List Int} {us : List Bool} {k : Nat} {least v : Int} (h : WkI D sum a xs us k least v) (hk : k < xs.length) (hno : us[k]? = some false → ¬ 0 ≤ D a xs[k]) : WkI D sum a xs us (k + 1) least v :=
  ⟨h.lo, h.how, h.le, fun i hi hik hu h0 L t => by
    by_cases e : i = k
    · subst e; exact absurd h0 (hno hu)
    · exact h.all i hi (by omega) hu h0 L t⟩
theorem WkI.step {sum a : Int} {xs : List Int} {us : List Bool} {k : Nat} {least v v' : Int} (h : WkI D sum a xs us k least v) (hk : k < xs.length) (hu : us[k]? = some false) (h0 : 0 ≤ D a xs[k])
    (hw : WkR D (sum + D a xs[k]) xs[k] (unL xs (us.set k true)) v v') : WkI D sum a xs us (k + 1) least v' := by
  refine ⟨hw.lo, ?_, fun hl => ?_, fun i hi hik hu1 h1 L t => ?_⟩
  · rcases hw.how with e | ⟨L, t, e⟩
    · rw [e]; exact h.how
    · exact .inr ⟨D a xs[k] + L, Tour.go a _ _ _ L (unL_set hk hu) h0 t, by omega⟩
  · have a1 := h.le hl
    have a2 := hw.le a1.1
    omega
  · by_cases e : i = k
    · subst e
      have := hw.all L t
      omega
    · have a1 := h.all i hi (by omega) hu1 h1 L t
      have a2 := hw.le a1.1
      omega
theorem WkI.done {sum a : Int} {xs : List Int} {us : List Bool} {least v : Int} (h : WkI D sum a xs us xs.length least v) (hn : unL xs us ≠ []) : WkR D sum a (unL xs us) least v := by
  refine ⟨h.lo, h.how, h.le, fun L t => ?_⟩
  obtain ⟨p, r, L', h1, h2, h3, h4⟩ := t.cons_ hn
  have hm : p ∈ unL xs us := h1.mem_iff.2 (List.mem_cons_self ..)
  obtain ⟨i, hi, hu, rfl⟩ := unL_mem hm
  have := h.all i hi hi hu h2 L' (h3.perm (List.Perm.cons_inv (h1.symm.trans (unL_set hi hu))))
  omega
theorem WkR.min {a : Int} {l : List Int} {v : Int} (h : WkR D 0 a l (-1) v) : Mn D a l v := by
  by_cases e : 0 ≤ v
  · rcases h.how with e1 | ⟨L, t, e1⟩
    · omega
    · refine .inr ⟨e, by rw [e1, Int.zero_add]; exact t, fun L' t' => by have := h.all L' t'; omega⟩
  · refine .inl ⟨by have := h.lo; omega, fun L t => by have := h.all L t; omega⟩
end

end Go.Proofs.Ytcookepklcbfeaa
