/-
  FnRoads: what the tables, ways and rounds are, in plain terms.
-/
import Derived.Test.YtcookepklcbfeaaWayBS
import Derived.Test.YtcookepklcbfeaaRound
namespace Go.Proofs.Ytcookepklcbfeaa
open Go.ChangeShapes Go.WideShapes Go.RowKit

theorem Walk.back {X : List (List Int)} (hs : ∀ i k, i < X.length → k < X.length → gt X i k = gt X k i) {i k : Nat} {l : Int} (h : Walk X i k l) : Walk X k i l := by
  induction h with
  | stay i hi => exact Walk.stay i hi
  | go i j k l hi hj hp _ ih =>
    have h1 : Walk X j i (gt X j i + 0) := Walk.go j i i 0 hj hi (by rw [hs j i hj hi]; exact hp) (Walk.stay i hi)
    have h2 := ih.trans h1
    rw [hs j i hj hi, Int.add_zero, Int.add_comm] at h2
    exact h2
theorem Dw_sym {X : List (List Int)} (h : VR X) {i k : Nat} (hi : i < X.length) (hk : k < X.length) : Dw X i k = Dw X k i := by
  have g := Pw_wg h (Nat.le_refl _)
  have one : ∀ a b, a < X.length → b < X.length → 0 ≤ Dw X a b → 0 ≤ Dw X b a ∧ Dw X b a ≤ Dw X a b := fun a b ha hb h0 => Dw_le h ((g.walk a b ha hb h0).back h.2.2.2.2)
  have b1 := Dw_bd h hi hk
  have b2 := Dw_bd h hk hi
  by_cases h0 : 0 ≤ Dw X i k
  · have h1 := one i k hi hk h0
    have h2 := one k i hk hi h1.1
    omega
  · by_cases h3 : 0 ≤ Dw X k i
    · have := one k i hk hi h3
      omega
    · omega
theorem least_yes {p : Nat → Bool} : ∀ {n : Nat}, (∃ q, q < n ∧ p q = true) → ∃ q, q < n ∧ p q = true ∧ ∀ r, r < q → p r = false
  | 0, h => by obtain ⟨q, hq, _⟩ := h; omega
  | n + 1, h => by
    by_cases e : ∃ q, q < n ∧ p q = true
    · obtain ⟨q, h1, h2, h3⟩ := least_yes e
      exact ⟨q, by omega, h2, h3⟩
    · obtain ⟨q, h1, h2⟩ := h
      have hq : q = n := by
        by_cases e2 : q = n
        · exact e2
        · exact absurd ⟨q, by omega, h2⟩ e
      subst hq
      refine ⟨q, h1, h2, fun r hr => ?_⟩
      cases hp : p r
      · rfl
      · exact absurd ⟨r, hr, hp⟩ e
/-- each place is the next one on the way to t -/
def Chn (X : List (List Int)) (t : Nat) : List Int → Prop
  | [] => False
  | [v] => v = (t : Int)
  | v :: u :: r => (∃ a b : Nat, v = (a : Int) ∧ u = (b : Int) ∧ a < X.length ∧ b < X.length ∧ 0 < gt X a b ∧ gt X a b + Dw X b t = Dw X a t) ∧ Chn X t (u :: r)
theorem way_chain {X : List (List Int)} (h : VR X) {t : Nat} (ht : t < X.length) : ∀ (f a : Nat), a < X.length → 0 ≤ Dw X a t → Dw X a t ≤ f → Chn X t ((a : Int) :: wayL X t f a)
  | 0, a, ha, h0, h1 => by
    have e : a = t := by
      by_cases e : a = t
      · exact e
      · obtain ⟨j, _, h2, h3, h4⟩ := Dw_next h ha ht e h0
        omega
    subst e
    rw [wayL_end]
    rfl
  | f + 1, a, ha, h0, h1 => by
    by_cases e : a = t
    · subst e
      rw [wayL_end]
      rfl
    · have hex : ∃ q, q < X.length ∧ okW X t a q = true := by
        obtain ⟨j, hj, h2, h3, h4⟩ := Dw_next h ha ht e h0
        exact ⟨j, hj, decide_eq_true ⟨h2, h3, h4⟩⟩
      obtain ⟨q, hq, hok, hno⟩ := least_yes hex
      have hnx := nx_hit hq hno hok
      obtain ⟨g1, g2, g3⟩ := okW_parts hok
      unfold wayL
      rw [if_neg e, hnx]
      exact ⟨⟨a, q, rfl, rfl, ha, hq, g1, g3⟩, way_chain h ht f q hq g2 (by omega)⟩
theorem Chn.ne {X : List (List Int)} {t : Nat} {L : List Int} (h : Chn X t L) : 0 < L.length := by
  cases L with
  | nil => cases h
  | cons => simp
theorem Chn.at_ {X : List (List Int)} {t : Nat} : ∀ {L : List Int}, Chn X t L → ∀ k (h1 : k + 1 < L.length), ∃ a b : Nat, L[k] = (a : Int) ∧ L[k + 1] = (b : Int) ∧ a < X.length ∧ b < X.length ∧ 0 < gt X a b ∧ gt X a b + Dw X b t = Dw X a t
  | [], h, _, _ => by cases h
  | [v], _, k, h1 => by simp at h1
  | v :: u :: r, h, 0, h1 => h.1
  | v :: u :: r, h, k + 1, h1 => by
    have := Chn.at_ h.2 k (by simpa using h1)
    simpa using this
theorem Chn.last {X : List (List Int)} {t : Nat} : ∀ {L : List Int} (h : Chn X t L), L[L.length - 1]'(by have := h.ne; omega) = (t : Int)
  | [], h => by cases h
  | [v], h => h
  | v :: u :: r, h => by
    have := Chn.last h.2
    simpa using this
/-- a way that is told -/
theorem wb_walk {X : List (List Int)} {f t : Int} {M : List Int} (h : wbwP X f t = (M, 0)) :
    ∃ a b : Nat, f = (a : Int) ∧ t = (b : Int) ∧ VR X ∧ a < X.length ∧ b < X.length ∧ 0 ≤ Dw X a b ∧ (∃ h0 : 0 < M.length, M[0] = f) ∧ Chn X b M ∧ M.length ≤ 256001 := by
  unfold wbwP at h
  split at h
  · rename_i hv
    have hV := dB_true hv
    split at h
    · rename_i h2
      have i1 := inB_yes h2.1
      have i2 := inB_yes h2.2
      split at h
      · cases h
      · rename_i h3
        obtain ⟨rfl, _⟩ := Prod.mk.inj h
        obtain ⟨a, rfl⟩ : ∃ a : Nat, f = (a : Int) := ⟨f.toNat, by omega⟩
        obtain ⟨b, rfl⟩ : ∃ b : Nat, t = (b : Int) := ⟨t.toNat, by omega⟩
        simp only [Int.toNat_natCast] at *
        have hb := Dw_bd hV (a := a) (b := b) (by omega) (by omega)
        refine ⟨a, b, rfl, rfl, hV, by omega, by omega, by omega, ⟨by simp, rfl⟩, way_chain hV (by omega) _ a (by omega) (by omega) (by omega), ?_⟩
        have := wayL_len X b (Dw X a b).toNat a
        simp only [List.length_cons]
        omega
    · cases h
  · cases h
/-- no way is told -/
theorem wb_none {X : List (List Int)} {f t : Int} {M : List Int} {c : Int} (h : wbwP X f t = (M, c)) (h3 : c = 3) : ∃ a b : Nat, f = (a : Int) ∧ t = (b : Int) ∧ VR X ∧ vrB X = true ∧ a < X.length ∧ b < X.length ∧ Dw X a b = -1 := by
  unfold wbwP at h
  split at h
  · rename_i hv
    have hV := dB_true hv
    split at h
    · rename_i h2
      have i1 := inB_yes h2.1
      have i2 := inB_yes h2.2
      split at h
      · rename_i h4
        have hb := Dw_bd hV (a := f.toNat) (b := t.toNat) (by omega) (by omega)
        exact ⟨f.toNat, t.toNat, by omega, by omega, hV, hv, by omega, by omega, by omega⟩
      · obtain ⟨_, rfl⟩ := Prod.mk.inj h
        omega
    · obtain ⟨_, rfl⟩ := Prod.mk.inj h
      omega
  · obtain ⟨_, rfl⟩ := Prod.mk.inj h
    omega
theorem Mn_ex (D : Int → Int → Int) (a : Int) (l : List Int) : ∃ v, Mn D a l v := by
  by_cases h : ∃ L, Tour D a l L
  · obtain ⟨L, hL⟩ := h
    have go : ∀ (N : Nat) (L : Int), Tour D a l L → L ≤ N → ∃ v, Mn D a l v := by
      intro N
      induction N with
      | zero =>
        intro L t hle
        have := t.pos
        exact ⟨L, .inr ⟨this, t, fun L' t' => by have := t'.pos; omega⟩⟩
      | succ N ih =>
        intro L t hle
        by_cases e : ∃ L', Tour D a l L' ∧ L' ≤ N
        · obtain ⟨L', t', h'⟩ := e
          exact ih L' t' h'
        · refine ⟨L, .inr ⟨t.pos, t, fun L' t' => ?_⟩⟩
          by_cases e2 : L' ≤ N
          · exact absurd ⟨L', t', e2⟩ e
          · omega
    exact go L.toNat L hL (by have := hL.pos; omega)
  · exact ⟨-1, .inl ⟨rfl, fun L t => h ⟨L, t⟩⟩⟩
/-- a round to fewer places -/
theorem sr_walk {X : List (List Int)} {xs : List Int} {n : Int} (h : srP X xs = (n, 0)) (h0 : 0 < xs.length) : ∃ m : Int, srP X (xs.drop 1) = (m, 0) ∧ m ≤ n := by
  obtain ⟨x, l, rfl⟩ : ∃ x l, xs = x :: l := by
    cases xs with
    | nil => simp at h0
    | cons x l => exact ⟨x, l, rfl⟩
  unfold srP at h
  split at h
  · rename_i hv
    have hV := dB_true hv
    split at h
    · rename_i hr
      have hR : Ris 0 ((X.length : Int) - 1) (x :: l) := dB_true hr
      split at h
      · cases h
      · rename_i h1
        obtain ⟨rfl, _⟩ := Prod.mk.inj h
        obtain ⟨v, hv1⟩ := Mn_ex (DD X) 0 (x :: l)
        obtain ⟨v2, hv2⟩ := Mn_ex (DD X) 0 l
        rw [mnV_eq hv1] at h1 ⊢
        obtain ⟨m0, m1⟩ := Mn.fewer (DD_tri hV) hv1 hv2 (by omega)
        have hT : Ris 0 ((X.length : Int) - 1) l := by
          have h2 := hR.tail
          have hx := (hR 0 (by simp)).1
          intro i hi
          obtain ⟨q1, q2⟩ := h2 i hi
          simp at hx
          exact ⟨by omega, q2⟩
        refine ⟨v2, ?_, m1⟩
        unfold srP
        rw [if_pos hv, List.drop_succ_cons, List.drop_zero, if_pos (show risB 0 ((X.length : Int) - 1) l = true from dB_yes hT), mnV_eq hv2, if_neg (by omega)]
    · cases h
  · cases h
/-- the table -/
theorem sw_walk {X M : List (List Int)} (h : swP X = (M, 0)) : VR X ∧ M = mat X.length (Dw X) ∧ (∀ i k, i < X.length → k < X.length → Dw X i k = Dw X k i ∧ -1 ≤ Dw X i k ∧ Dw X i k ≤ 256000) ∧
    ∀ i m k, i < X.length → m < X.length → k < X.length → 0 ≤ Dw X i m → 0 ≤ Dw X m k → 0 ≤ Dw X i k ∧ Dw X i k ≤ Dw X i m + Dw X m k := by
  unfold swP at h
  split at h
  · rename_i hv
    have hV := dB_true hv
    obtain ⟨rfl, _⟩ := Prod.mk.inj h
    exact ⟨hV, rfl, fun i k hi hk => ⟨Dw_sym hV hi hk, (Dw_bd hV hi hk).1, (Dw_bd hV hi hk).2⟩, fun i m k hi hm hk h1 h2 => (Pw_wg hV (Nat.le_refl _)).tri m hm i k hi hk h1 h2⟩
  · cases h
theorem Dw_self {X : List (List Int)} (h : VR X) {i : Nat} (hi : i < X.length) : Dw X i i = 0 := (Pw_wb h (Nat.le_refl _)).dg i hi
end Go.Proofs.Ytcookepklcbfeaa
