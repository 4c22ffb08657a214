/-
  Yards, in numbers: orders, and the packs in the way.
-/
import Derived.Test.YtiefiikheaiekaaDoorYardPlain
namespace Go.Proofs.YtiefiikheaiekaaDoor

/-- the place of a pack in an order; its length if it is not in it -/
def plc (o : List Int) (p : Int) : Nat := (o.findIdx? (fun x => x == p)).getD o.length
theorem plc_le (o : List Int) (p : Int) : plc o p ≤ o.length := by
  unfold plc
  cases h : o.findIdx? (fun x => x == p) with
  | none => exact Nat.le_refl _
  | some i =>
    rw [List.findIdx?_eq_some_iff_getElem] at h
    obtain ⟨h, _⟩ := h
    simp only [Option.getD_some]
    omega
theorem plc_hit {o : List Int} {p : Int} {k : Nat} (h : k < o.length) (hno : ∀ y ∈ o.take k, (y == p) = false) (hp : (o[k] == p) = true) : plc o p = k := by
  have : o.findIdx? (fun x => x == p) = some k := by
    rw [List.findIdx?_eq_some_iff_getElem]
    refine ⟨h, hp, fun j hj => ?_⟩
    rw [hno (o[j]'(by omega)) (by rw [List.mem_take_iff_getElem]; exact ⟨j, by omega, rfl⟩)]
    simp
  unfold plc
  rw [this]
  rfl
theorem plc_none {o : List Int} {p : Int} (hno : ∀ y ∈ o, (y == p) = false) : plc o p = o.length := by
  have : o.findIdx? (fun x => x == p) = none := by
    rw [List.findIdx?_eq_none_iff]; exact hno
  unfold plc
  rw [this]
  rfl
/-- the pack at k has one below that is wanted sooner -/
def inWay (o r : List Int) (k : Nat) : Bool := (r.take k).any fun b => decide (plc o b < plc o (r.getD k 0))
def wayR (o r : List Int) (k : Nat) : Nat := ((List.range k).filter (inWay o r)).length
theorem wayR_succ (o r : List Int) (k : Nat) : wayR o r (k + 1) = wayR o r k + if inWay o r k = true then 1 else 0 := by
  unfold wayR
  rw [List.range_succ, List.filter_append, List.length_append]
  cases h : inWay o r k <;> simp [h]
theorem wayR_le (o r : List Int) (k : Nat) : wayR o r k ≤ k := by
  unfold wayR
  have := List.length_filter_le (inWay o r) (List.range k)
  simpa using this
def wayX (o : List Int) (X : List (List Int)) : Nat := (X.map fun r => wayR o r r.length).sum
theorem wayX_succ (o : List Int) (X : List (List Int)) {i : Nat} (h : i < X.length) : wayX o (X.take (i + 1)) = wayX o (X.take i) + wayR o X[i] X[i].length := by
  unfold wayX
  rw [List.take_succ_eq_append_getElem h, List.map_append, List.sum_append]
  simp
theorem wayX_le (o : List Int) (X : List (List Int)) : wayX o X ≤ X.flatten.length := by
  induction X with
  | nil => simp [wayX]
  | cons r X ih =>
    have := wayR_le o r r.length
    simp only [wayX, List.map_cons, List.sum_cons, List.flatten_cons, List.length_append] at ih ⊢
    omega
/-- the soonest place of the first k -/
def leastP (o r : List Int) (k : Nat) : Nat := (r.take k).foldl (fun a b => min a (plc o b)) o.length
theorem leastP_succ (o r : List Int) {k : Nat} (h : k < r.length) : leastP o r (k + 1) = min (leastP o r k) (plc o r[k]) := by
  unfold leastP
  rw [List.take_succ_eq_append_getElem h, List.foldl_append]
  rfl
theorem foldl_min_lt (o : List Int) (l : List Int) (a m : Nat) : l.foldl (fun a b => min a (plc o b)) a < m ↔ a < m ∨ ∃ b ∈ l, plc o b < m := by
  induction l generalizing a with
  | nil => simp
  | cons b l ih =>
    rw [List.foldl_cons, ih]
    simp only [List.mem_cons, exists_eq_or_imp]
    rw [show min a (plc o b) < m ↔ a < m ∨ plc o b < m by omega, or_assoc]
theorem leastP_inWay (o r : List Int) {k : Nat} (h : k < r.length) : leastP o r k < plc o r[k] ↔ inWay o r k = true := by
  unfold leastP inWay
  rw [foldl_min_lt, List.any_eq_true, getD_lt r 0 h]
  have := plc_le o r[k]
  constructor
  · rintro (h1 | ⟨b, hb, h1⟩)
    · omega
    · exact ⟨b, hb, by simpa using h1⟩
  · rintro ⟨b, hb, h1⟩
    exact .inr ⟨b, hb, by simpa using h1⟩

/-! orders -/
def OrdOk (X : List (List Int)) (o : List Int) : Prop := ∀ i (h : i < o.length), o[i] ∈ X.flatten ∧ o[i] ∉ o.take i
noncomputable def ocP (X : List (List Int)) (o : List Int) : Int := if vyB X = true then (if dB (OrdOk X o) = true then 0 else 2) else 1
theorem mem_flat {X : List (List Int)} {p : Int} : p ∈ X.flatten ↔ ∃ j, ∃ h : j < X.length, hasB X[j] p = true := by
  rw [List.mem_flatten]
  constructor
  · rintro ⟨r, hr, hp⟩
    obtain ⟨j, hj, rfl⟩ := List.getElem_of_mem hr
    exact ⟨j, hj, hasB_iff.2 hp⟩
  · rintro ⟨j, hj, h⟩
    exact ⟨_, List.getElem_mem hj, hasB_iff.1 h⟩
end Go.Proofs.YtiefiikheaiekaaDoor
