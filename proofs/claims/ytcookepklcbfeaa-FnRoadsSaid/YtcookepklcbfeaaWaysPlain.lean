/-
  Shortest ways, in numbers: the table behind each middle place, its bounds, and that it holds the lengths of the shortest ways.
-/
import Derived.Test.YtcookepklcbfeaaRoads
namespace Go.Proofs.Ytcookepklcbfeaa

def w0 (X : List (List Int)) (i k : Nat) : Int := if gt X i k = 0 ∧ k ≠ i then -1 else gt X i k
/-- over the place m too -/
def ph (m : Nat) (M : Nat → Nat → Int) (i k : Nat) : Int := if M i m < 0 ∨ M m k < 0 then M i k else if M i k < 0 ∨ M i m + M m k < M i k then M i m + M m k else M i k
def Pw (X : List (List Int)) : Nat → Nat → Nat → Int
  | 0 => w0 X
  | m + 1 => ph m (Pw X m)
/-- in the midst of a place's turn: the entries before (i, k) are done -/
def Fw (X : List (List Int)) (m i k a b : Nat) : Int := if a < i ∨ (a = i ∧ b < k) then Pw X (m + 1) a b else Pw X m a b
def mat (n : Nat) (M : Nat → Nat → Int) : List (List Int) := (List.range n).map fun i => (List.range n).map fun k => M i k
theorem mat_len (n : Nat) (M : Nat → Nat → Int) : (mat n M).length = n := by simp [mat]
theorem mat_congr {n : Nat} {M M' : Nat → Nat → Int} (h : ∀ a b, a < n → b < n → M a b = M' a b) : mat n M = mat n M' := by
  unfold mat
  refine List.map_congr_left fun a ha => List.map_congr_left fun b hb => h a b (List.mem_range.1 ha) (List.mem_range.1 hb)
theorem mat_get {n : Nat} (M : Nat → Nat → Int) {i : Nat} (h : i < (mat n M).length) : (mat n M)[i] = (List.range n).map fun k => M i k := by simp [mat]
theorem mat_set {n : Nat} (M : Nat → Nat → Int) {i k : Nat} (hi : i < n) (hk : k < n) (x : Int) : (mat n M).set i (((List.range n).map fun k => M i k).set k x) = mat n fun a b => if a = i ∧ b = k then x else M a b := by
  apply List.ext_getElem
  · simp [mat]
  · intro a h1 h2
    simp only [mat, List.length_map, List.length_range] at h2
    rw [List.getElem_set]
    by_cases e : i = a
    · subst e
      rw [if_pos rfl, mat_get]
      apply List.ext_getElem
      · simp
      · intro b h3 h4
        rw [List.getElem_set]
        by_cases e2 : k = b
        · subst e2; simp
        · rw [if_neg e2]; simp; intro h; exact absurd h.symm e2
    · rw [if_neg e, mat_get, mat_get]
      refine List.map_congr_left fun b _ => ?_
      rw [if_neg (fun h => e h.1.symm)]

/-- roads' bounds, and no way from a place to itself but 0 -/
structure WB (n : Nat) (m : Nat) (M : Nat → Nat → Int) : Prop where
  lo : ∀ a b, a < n → b < n → -1 ≤ M a b
  hi : ∀ a b, a < n → b < n → M a b ≤ 1000 * 2 ^ m
  dg : ∀ a, a < n → M a a = 0
theorem w0_wb {X : List (List Int)} (h : VR X) : WB X.length 0 (w0 X) := by
  obtain ⟨_, _, h3, h4, _⟩ := h
  refine ⟨fun a b ha hb => ?_, fun a b ha hb => ?_, fun a ha => ?_⟩
  · have := h3 a b ha hb
    unfold w0; split <;> omega
  · have := h3 a b ha hb
    unfold w0; split <;> omega
  · unfold w0; rw [if_neg (fun h => h.2 rfl), h4 a ha]
theorem ph_wb {n m : Nat} {M : Nat → Nat → Int} (hm : m < n) (h : WB n m M) : WB n (m + 1) (ph m M) := by
  refine ⟨fun a b ha hb => ?_, fun a b ha hb => ?_, fun a ha => ?_⟩
  · have := h.lo a b ha hb
    have := h.lo a m ha hm
    have := h.lo m b hm hb
    unfold ph; split
    · omega
    · split <;> omega
  · have := h.hi a b ha hb
    have := h.hi a m ha hm
    have := h.hi m b hm hb
    have e : (2 : Int) ^ (m + 1) = 2 * 2 ^ m := by rw [Int.pow_succ]; omega
    have : (0 : Int) ≤ 2 ^ m := Int.le_of_lt (Int.pow_pos (by omega))
    unfold ph; rw [e]; split
    · omega
    · split <;> omega
  · have := h.dg a ha
    unfold ph; split
    · exact this
    · rw [if_neg (by omega)]; exact this
theorem Pw_wb {X : List (List Int)} (h : VR X) {m : Nat} (hm : m ≤ X.length) : WB X.length m (Pw X m) := by
  induction m with
  | zero => exact w0_wb h
  | succ m ih => exact ph_wb (by omega) (ih (by omega))
theorem pow_bd {m : Nat} (h : m ≤ 8) : (2 : Int) ^ m ≤ 256 := by
  have : 2 ^ m ≤ 2 ^ 8 := Nat.pow_le_pow_right (by omega) h
  have e : ((2 ^ m : Nat) : Int) = (2 : Int) ^ m := by simp
  rw [← e]
  omega
theorem Pw_bd {X : List (List Int)} (h : VR X) {m : Nat} (hm : m ≤ X.length) {a b : Nat} (ha : a < X.length) (hb : b < X.length) : -1 ≤ Pw X m a b ∧ Pw X m a b ≤ 256000 := by
  have w := Pw_wb h hm
  have := w.lo a b ha hb
  have := w.hi a b ha hb
  have := pow_bd (m := m) (by have := h.1.2; omega)
  omega
/-- the row and the column of the place itself stand -/
theorem ph_col {n m : Nat} {M : Nat → Nat → Int} (hm : m < n) (h : WB n m M) (a : Nat) : ph m M a m = M a m := by
  have := h.dg m hm
  unfold ph; split
  · rfl
  · rw [if_neg (by omega)]
theorem ph_row {n m : Nat} {M : Nat → Nat → Int} (hm : m < n) (h : WB n m M) (b : Nat) : ph m M m b = M m b := by
  have := h.dg m hm
  unfold ph; split
  · rfl
  · rw [if_neg (by omega)]
theorem Fw_col {X : List (List Int)} (h : VR X) {m : Nat} (hm : m < X.length) (i k a : Nat) : Fw X m i k a m = Pw X m a m := by
  unfold Fw; split
  · exact ph_col hm (Pw_wb h (by omega)) a
  · rfl
theorem Fw_row {X : List (List Int)} (h : VR X) {m : Nat} (hm : m < X.length) (i k b : Nat) : Fw X m i k m b = Pw X m m b := by
  unfold Fw; split
  · exact ph_row hm (Pw_wb h (by omega)) b
  · rfl
theorem Fw_at (X : List (List Int)) (m i k : Nat) : Fw X m i k i k = Pw X m i k := by unfold Fw; rw [if_neg (by omega)]
theorem Fw_start (X : List (List Int)) (m : Nat) : Fw X m 0 0 = Pw X m := by
  funext a b
  unfold Fw; rw [if_neg (by omega)]
theorem Fw_row_end (X : List (List Int)) (m i n : Nat) : mat n (Fw X m i n) = mat n (Fw X m (i + 1) 0) := by
  refine mat_congr fun a b ha hb => ?_
  unfold Fw
  by_cases h : a < i ∨ (a = i ∧ b < n)
  · rw [if_pos h, if_pos (by omega)]
  · rw [if_neg h, if_neg (by omega)]
theorem Fw_end (X : List (List Int)) (m n : Nat) : mat n (Fw X m n 0) = mat n (Fw X (m + 1) 0 0) := by
  rw [Fw_start]
  refine mat_congr fun a b ha hb => ?_
  unfold Fw; rw [if_pos (.inl ha)]
theorem Fw_keep {X : List (List Int)} (m i k : Nat) (h : Pw X (m + 1) i k = Pw X m i k) : Fw X m i (k + 1) = Fw X m i k := by
  funext a b
  unfold Fw
  by_cases e : a = i ∧ b = k
  · obtain ⟨rfl, rfl⟩ := e
    rw [if_pos (by omega), if_neg (by omega), h]
  · by_cases h2 : a < i ∨ (a = i ∧ b < k)
    · rw [if_pos (by omega), if_pos h2]
    · rw [if_neg (by omega), if_neg h2]
theorem Fw_put {X : List (List Int)} (m i k : Nat) {x : Int} (h : Pw X (m + 1) i k = x) : (fun a b => if a = i ∧ b = k then x else Fw X m i k a b) = Fw X m i (k + 1) := by
  funext a b
  by_cases e : a = i ∧ b = k
  · rw [if_pos e]
    obtain ⟨rfl, rfl⟩ := e
    unfold Fw; rw [if_pos (by omega), h]
  · rw [if_neg e]
    unfold Fw
    by_cases h2 : a < i ∨ (a = i ∧ b < k)
    · rw [if_pos h2, if_pos (by omega)]
    · rw [if_neg h2, if_neg (by omega)]

/-! the lengths of the shortest ways -/
inductive Walk (X : List (List Int)) : Nat → Nat → Int → Prop
  | stay (i : Nat) : i < X.length → Walk X i i 0
  | go (i j k : Nat) (l : Int) : i < X.length → j < X.length → 0 < gt X i j → Walk X j k l → Walk X i k (gt X i j + l)
theorem Walk.ends {X : List (List Int)} {i k : Nat} {l : Int} (h : Walk X i k l) : i < X.length ∧ k < X.length := by
  induction h with
  | stay i hi => exact ⟨hi, hi⟩
  | go i j k l hi hj _ _ ih => exact ⟨hi, ih.2⟩
theorem Walk.trans {X : List (List Int)} {i j k : Nat} {l l' : Int} (h : Walk X i j l) (h' : Walk X j k l') : Walk X i k (l + l') := by
  induction h with
  | stay i hi => rw [Int.zero_add]; exact h'
  | go i a b l hi ha hp _ ih => rw [Int.add_assoc]; exact Walk.go i a k _ hi ha hp (ih h')
structure WG (X : List (List Int)) (m : Nat) (M : Nat → Nat → Int) : Prop where
  walk : ∀ a b, a < X.length → b < X.length → 0 ≤ M a b → Walk X a b (M a b)
  road : ∀ a b, a < X.length → b < X.length → 0 < gt X a b → 0 ≤ M a b ∧ M a b ≤ gt X a b
  tri : ∀ j, j < m → ∀ a b, a < X.length → b < X.length → 0 ≤ M a j → 0 ≤ M j b → 0 ≤ M a b ∧ M a b ≤ M a j + M j b
theorem w0_wg {X : List (List Int)} (h : VR X) : WG X 0 (w0 X) := by
  obtain ⟨_, _, h3, h4, _⟩ := h
  refine ⟨fun a b ha hb h0 => ?_, fun a b ha hb hp => ?_, fun j hj => by omega⟩
  · have h3' := h3 a b ha hb
    by_cases e : gt X a b = 0 ∧ b ≠ a
    · unfold w0 at h0; rw [if_pos e] at h0; omega
    · rw [show w0 X a b = gt X a b by unfold w0; rw [if_neg e]]
      by_cases e2 : gt X a b = 0
      · have : b = a := by
          by_cases e3 : b = a
          · exact e3
          · exact absurd ⟨e2, e3⟩ e
        subst this
        rw [e2]
        exact Walk.stay b hb
      · have := Walk.go a b b 0 ha hb (by omega) (Walk.stay b hb)
        rwa [Int.add_zero] at this
  · unfold w0; rw [if_neg (by omega)]; omega
theorem ph_wg {X : List (List Int)} {m : Nat} {M : Nat → Nat → Int} (hm : m < X.length) (hb : WB X.length m M) (h : WG X m M) : WG X (m + 1) (ph m M) := by
  -- the new entry is at most the old one, and at most the way over m; and it is one of the two
  have le1 : ∀ a b, 0 ≤ M a b → 0 ≤ ph m M a b ∧ ph m M a b ≤ M a b := by
    intro a b h0
    unfold ph; split
    · omega
    · split <;> omega
  have le2 : ∀ a b, 0 ≤ M a m → 0 ≤ M m b → 0 ≤ ph m M a b ∧ ph m M a b ≤ M a m + M m b := by
    intro a b h0 h1
    unfold ph; rw [if_neg (by omega)]; split <;> omega
  have cs : ∀ a b, 0 ≤ ph m M a b → (0 ≤ M a b ∧ ph m M a b = M a b) ∨ (0 ≤ M a m ∧ 0 ≤ M m b ∧ ph m M a b = M a m + M m b) := by
    intro a b
    unfold ph; split
    · exact fun h => .inl ⟨h, rfl⟩
    · split
      · exact fun _ => .inr ⟨by omega, by omega, rfl⟩
      · exact fun h => .inl ⟨h, rfl⟩
  refine ⟨fun a b ha hb0 h0 => ?_, fun a b ha hb0 hp => ?_, fun j hj a b ha hb0 h1 h2 => ?_⟩
  · rcases cs a b h0 with ⟨g, e⟩ | ⟨g1, g2, e⟩
    · rw [e]; exact h.walk a b ha hb0 g
    · rw [e]; exact (h.walk a m ha hm g1).trans (h.walk m b hm hb0 g2)
  · have := h.road a b ha hb0 hp
    have := le1 a b this.1
    omega
  · by_cases e : j = m
    · subst e
      rw [ph_col hm hb] at h1 ⊢
      rw [ph_row hm hb] at h2 ⊢
      exact le2 a b h1 h2
    · have hjm : j < m := by omega
      have hjl : j < X.length := by omega
      rcases cs a j h1 with ⟨g1, e1⟩ | ⟨g1, g2, e1⟩ <;> rcases cs j b h2 with ⟨g3, e3⟩ | ⟨g3, g4, e3⟩ <;> rw [e1, e3]
      · have := h.tri j hjm a b ha hb0 g1 g3
        have := le1 a b this.1
        omega
      · have t := h.tri j hjm a m ha hm g1 g3
        have := le2 a b t.1 g4
        omega
      · have t := h.tri j hjm m b hm hb0 g2 g3
        have := le2 a b g1 t.1
        omega
      · have := le2 a b g1 g4
        omega
theorem Pw_wg {X : List (List Int)} (h : VR X) {m : Nat} (hm : m ≤ X.length) : WG X m (Pw X m) := by
  induction m with
  | zero => exact w0_wg h
  | succ m ih => exact ph_wg (by omega) (Pw_wb h (by omega)) (ih (by omega))
/-- the table in the end -/
def Dw (X : List (List Int)) : Nat → Nat → Int := Pw X X.length
theorem Dw_le {X : List (List Int)} (h : VR X) {i k : Nat} {l : Int} (hw : Walk X i k l) : 0 ≤ Dw X i k ∧ Dw X i k ≤ l := by
  have g := Pw_wg h (Nat.le_refl _)
  have b := Pw_wb h (Nat.le_refl _)
  induction hw with
  | stay i hi => rw [show Dw X i i = 0 from b.dg i hi]; omega
  | go i j k l hi hj hp hw ih =>
    have r := g.road i j hi hj hp
    have := g.tri j hj i k hi hw.ends.2 r.1 ih.1
    unfold Dw at *
    omega
/-- the next place on a shortest way -/
theorem Dw_next {X : List (List Int)} (h : VR X) {i k : Nat} (hi : i < X.length) (hk : k < X.length) (hne : i ≠ k) (h0 : 0 ≤ Dw X i k) : ∃ j, j < X.length ∧ 0 < gt X i j ∧ 0 ≤ Dw X j k ∧ gt X i j + Dw X j k = Dw X i k := by
  have g := Pw_wg h (Nat.le_refl _)
  have hw := g.walk i k hi hk h0
  generalize he : Pw X X.length i k = L at hw
  cases hw with
  | stay => exact absurd rfl hne
  | go _ j _ l _ hj hp hw =>
    have h1 := Dw_le h hw
    have r := g.road i j hi hj hp
    have t := g.tri j hj i k hi hk r.1 h1.1
    refine ⟨j, hj, hp, h1.1, ?_⟩
    unfold Dw at *
    omega
end Go.Proofs.Ytcookepklcbfeaa
