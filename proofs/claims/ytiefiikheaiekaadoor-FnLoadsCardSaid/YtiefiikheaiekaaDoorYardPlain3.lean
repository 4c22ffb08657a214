/-
  Yards, in numbers: moves that load an order, as the reference and as the program reads them.
-/
import Derived.Test.YtiefiikheaiekaaDoorYardG
import Derived.Test.YtiefiikheaiekaaDoorYardPlain2
namespace Go.Proofs.YtiefiikheaiekaaDoor

/-- the reference: the yard and how many have been loaded, none at a wrong move -/
def ldR (o : List Int) : List (Int × Int) → List (List Int) → Nat → Option (List (List Int) × Nat)
  | [], X, d => some (X, d)
  | m :: ms, X, d => if mvOk X m.1 m.2 = true then (if m.2 < 0 then (if d < o.length ∧ topL (X.getD m.1.toNat []) = o.getD d 0 then ldR o ms (mvX X m.1 m.2) (d + 1) else none) else ldR o ms (mvX X m.1 m.2) d) else none
/-- the program: what has been loaded -/
def ldI : List (Int × Int) → List (List Int) → List Int → Option (List (List Int) × List Int)
  | [], X, L => some (X, L)
  | m :: ms, X, L => if mvOk X m.1 m.2 = true then ldI ms (mvX X m.1 m.2) (if m.2 < 0 then L ++ [topL (X.getD m.1.toNat [])] else L) else none
theorem ldI_pre {ms : List (Int × Int)} {X Y : List (List Int)} {L M : List Int} (h : ldI ms X L = some (Y, M)) : L <+: M := by
  induction ms generalizing X L with
  | nil => simp only [ldI, Option.some.injEq, Prod.mk.injEq] at h; rw [h.2]; exact List.prefix_refl _
  | cons m ms ih =>
    simp only [ldI] at h
    split at h
    · have := ih h
      split at this
      · exact (List.prefix_append _ _).trans this
      · exact this
    · cases h
def finR (o : List Int) (r : Option (List (List Int) × Nat)) : Option (List (List Int)) := match r with | none => none | some (Y, d) => if d < o.length then none else some Y
def finI (o : List Int) (r : Option (List (List Int) × List Int)) : Option (List (List Int)) := match r with | none => none | some (Y, L) => if L = o then some Y else none
theorem finI_bad {ms : List (Int × Int)} {X : List (List Int)} {L o : List Int} (h : ¬ L <+: o) : finI o (ldI ms X L) = none := by
  cases hl : ldI ms X L with
  | none => rfl
  | some p =>
    obtain ⟨Y, M⟩ := p
    have := ldI_pre hl
    unfold finI
    simp only
    rw [if_neg]
    rintro rfl
    exact h this
theorem take_snocL {o : List Int} {d : Nat} (h : d < o.length) : o.take (d + 1) = o.take d ++ [o.getD d 0] := by
  rw [List.take_succ_eq_append_getElem h, getD_lt o 0 h]
theorem ld_same (o : List Int) (ms : List (Int × Int)) : ∀ (X : List (List Int)) (d : Nat), d ≤ o.length → finR o (ldR o ms X d) = finI o (ldI ms X (o.take d)) := by
  induction ms with
  | nil =>
    intro X d hd
    simp only [ldR, ldI, finR, finI]
    by_cases e : d < o.length
    · rw [if_pos e, if_neg]
      intro h
      have := congrArg List.length h
      simp at this
      omega
    · rw [if_neg e, if_pos (List.take_of_length_le (by omega))]
  | cons m ms ih =>
    intro X d hd
    simp only [ldR, ldI]
    by_cases h1 : mvOk X m.1 m.2 = true
    · rw [if_pos h1, if_pos h1]
      by_cases h2 : m.2 < 0
      · rw [if_pos h2, if_pos h2]
        by_cases h3 : d < o.length ∧ topL (X.getD m.1.toNat []) = o.getD d 0
        · rw [if_pos h3, h3.2, ← take_snocL h3.1]
          exact ih _ _ h3.1
        · rw [if_neg h3, finI_bad]
          · rfl
          · rintro ⟨t, ht⟩
            apply h3
            have hlen : d < o.length := by
              have := congrArg List.length ht
              simp at this
              omega
            refine ⟨hlen, ?_⟩
            have e := congrArg (fun l => l.getD d 0) ht
            simp only [List.append_assoc] at e
            rw [List.getD_eq_getElem?_getD, List.getElem?_append_right (by simp; omega)] at e
            simp only [List.length_take] at e
            rw [show d - min d o.length = 0 by omega] at e
            simpa using e
      · rw [if_neg h2, if_neg h2]
        exact ih _ _ hd
    · rw [if_neg h1, if_neg h1]
      rfl
noncomputable def ldP (X : List (List Int)) (o : List Int) (ms : List (Int × Int)) : List (List Int) × Int :=
  if ocP X o = 0 then (if ms.length ≤ 100 then (match finI o (ldI ms X []) with | none => ([], 6) | some Y => (Y, 0)) else ([], 2)) else ([], ocP X o)
theorem mv_rows {X : List (List Int)} {f t : Int} {n : Nat} (h : ∀ r ∈ X, r.length ≤ n) : ∀ r ∈ mvX X f t, r.length ≤ n + 1 := by
  intro r hr
  obtain ⟨i, hi, rfl⟩ := List.mem_map.1 hr
  have h3 := topL_row_len X f t i
  have h4 : (X.getD i []).length ≤ n := by
    rw [getD_lt X [] (List.mem_range.1 hi)]
    exact h _ (List.getElem_mem _)
  omega
theorem ldI_rows {ms : List (Int × Int)} {X Y : List (List Int)} {L M : List Int} {n : Nat} (h : ldI ms X L = some (Y, M)) (hr : ∀ r ∈ X, r.length ≤ n) : Y.length = X.length ∧ ∀ r ∈ Y, r.length ≤ n + ms.length := by
  induction ms generalizing X L n with
  | nil =>
    simp only [ldI, Option.some.injEq, Prod.mk.injEq] at h
    rw [← h.1]
    exact ⟨rfl, by simpa using hr⟩
  | cons m ms ih =>
    simp only [ldI] at h
    split at h
    · obtain ⟨h1, h2⟩ := ih h (mv_rows hr)
      rw [mvX_len] at h1
      exact ⟨h1, fun r hr => by have := h2 r hr; simp only [List.length_cons]; omega⟩
    · cases h
theorem ldP_tl (X : List (List Int)) (o : List Int) (ms : List (Int × Int)) : tlL (ldP X o ms).1 ≤ 1048576 := by
  unfold ldP
  split
  · rename_i h0
    split
    · rename_i h100
      split
      · simp [tlL]
      · rename_i Y hY
        have hv : vyB X = true := by
          unfold ocP at h0
          split at h0
          · assumption
          · omega
        obtain ⟨h1, h2⟩ := vy_rows hv
        cases hl : ldI ms X [] with
        | none => rw [hl] at hY; cases hY
        | some p =>
          obtain ⟨Z, M⟩ := p
          rw [hl] at hY
          simp only [finI] at hY
          split at hY
          · cases hY
            obtain ⟨h3, h4⟩ := ldI_rows hl h2
            have := tlL_le (X := Y) (n := 106) (m := 4) (fun r hr => by have := h4 r hr; omega) (by omega)
            simp only
            omega
          · cases hY
    · simp [tlL]
  · simp [tlL]
end Go.Proofs.YtiefiikheaiekaaDoor
