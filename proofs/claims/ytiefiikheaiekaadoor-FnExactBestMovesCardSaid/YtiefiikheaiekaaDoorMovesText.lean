/-
  The text of a yard tells the yard.
-/
import Derived.Test.YtiefiikheaiekaaDoorRdBack
import Derived.Test.YtiefiikheaiekaaDoorYardZ
namespace Go.Proofs.YtiefiikheaiekaaDoor

def rdM (p : List UInt8) : Option (List Int) := if p = [] then some [] else mapO rdN (spl 44 p)
theorem rdM_nt {r : List Int} (h : ∀ x ∈ r, 0 ≤ x ∧ x ≤ 99) : rdM (ntL [44] r) = some r := by
  by_cases h0 : r = []
  · subst h0; rfl
  · have hs : spl 44 (ntL [44] r) = r.map Lib.itoa := by
      unfold ntL jn
      refine spl_join 44 _ (by simpa using h0) (fun p hp hc => ?_)
      obtain ⟨x, hx, rfl⟩ := List.mem_map.1 hp
      have := itoa_digit (h x hx).1 _ hc
      simp at this
    unfold rdM
    have hne : ntL [44] r ≠ [] := by
      intro e
      rw [e] at hs
      cases r with
      | nil => exact h0 rfl
      | cons x q =>
        cases q with
        | nil =>
          have h2 : [[]] = [Lib.itoa x] := hs
          have h3 := congrArg (fun l => (l.headD []).length) h2
          have h4 := List.length_pos_iff.2 (dec_ne x.toNat)
          rw [← itoa_pos (h x List.mem_cons_self).1] at h4
          simp at h3
          rw [h3] at h4
          simp at h4
        | cons y q =>
          have h2 : [[]] = (x :: y :: q).map Lib.itoa := hs
          have h3 := congrArg List.length h2
          simp at h3
    rw [if_neg hne, hs]
    exact mapO_map_some fun y hy => rdN_itoa (h y hy).1 (by have := h y hy; omega)
theorem rdM_back {X : List (List Int)} (hv : vyB X = true) : mapO rdM (spl 124 (ytL X)) = some X := by
  obtain ⟨h1, h2, h3, _⟩ := dB_true hv
  have hb : ∀ r ∈ X, ∀ x ∈ r, 0 ≤ x ∧ x ≤ 99 := fun r hr x hx => by
    have := h3 x (List.mem_flatten.2 ⟨r, hr, hx⟩)
    omega
  have hs : spl 124 (ytL X) = X.map (ntL [44]) := by
    unfold ytL jn
    refine spl_join 124 _ (by intro e; rw [List.map_eq_nil_iff] at e; rw [e] at h1; simp at h1) (fun p hp hc => ?_)
    obtain ⟨r, hr, rfl⟩ := List.mem_map.1 hp
    unfold ntL jn at hc
    rcases join_mem 44 124 _ hc with h | ⟨q, hq, h⟩
    · exact absurd h (by decide)
    · obtain ⟨x, hx, rfl⟩ := List.mem_map.1 hq
      have := itoa_digit (hb r hr x hx).1 _ h
      simp at this
  rw [hs, mapO_map_some (fun r hr => rdM_nt (hb r hr))]
theorem ytL_inj {X Y : List (List Int)} (hv : vyB X = true) (hv2 : vyB Y = true) (e : ytL X = ytL Y) : X = Y := by
  have h := rdM_back hv
  rw [e, rdM_back hv2] at h
  exact (Option.some.inj h).symm
theorem ytM_size {X : List (List Int)} (hv : vyB X = true) : (bs (ytL X)).size ≤ 1048576 := by
  have h := (YB.of hv).all X.length
  rw [List.take_of_length_le (Nat.le_refl _)] at h
  rw [bs_size]
  unfold ytL
  omega
theorem ytL_mem {K : List (List (List Int))} (hK : ∀ Y ∈ K, vyB Y = true) {X : List (List Int)} (hv : vyB X = true) : ytL X ∈ K.map ytL ↔ X ∈ K := by
  constructor
  · intro h
    obtain ⟨Y, hY, e⟩ := List.mem_map.1 h
    rw [ytL_inj hv (hK Y hY) e.symm]
    exact hY
  · exact fun h => List.mem_map.2 ⟨X, h, rfl⟩
end Go.Proofs.YtiefiikheaiekaaDoor
