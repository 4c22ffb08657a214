/-
  slices.Clone, and the reference's l00Own: a row of the call's own.
-/
import Derived.Test.YtiefiikheaiekaaDoorNum
import Derived.Test.YtiefiikheaiekaaDoorSteps
import Derived.Lib.SliceRun
namespace Go.Proofs.YtiefiikheaiekaaDoor
open Go.ChangeShapes Go.WideShapes Go.RowKit

theorem Rd.flat {α : Type} {L : Lay α} {w : World} {B c : Nat} {A : Option Addr} {xs : List α} (h : Rd L w B A c xs) : ∀ ad, A = some ad → ∀ j u, (xs.flatMap L.f)[j]? = some u → w.cell? (ad.add j) = some u := by
  intro ad had j u hu
  have hj : j < xs.length * L.sz := by
    have := (List.getElem?_eq_some_iff.1 hu).1
    rwa [flat_len] at this
  have hdiv : j / L.sz < xs.length := Nat.div_lt_of_lt_mul (by rw [Nat.mul_comm]; exact hj)
  have hmod : j % L.sz < L.sz := Nat.mod_lt _ L.pos
  have hjj : j = (j / L.sz) * L.sz + j % L.sz := by rw [Nat.mul_comm]; exact (Nat.div_add_mod j L.sz).symm
  obtain ⟨ad', e, _, hc⟩ := h.at_ _ hdiv
  rw [had] at e
  cases e
  have hl : j % L.sz < (L.f xs[j / L.sz]).length := by rw [L.len]; exact hmod
  have hf := flat_get L xs (j / L.sz) hdiv (j % L.sz) _ (List.getElem?_eq_getElem hl)
  rw [← hjj, hu] at hf
  have := hc (j % L.sz) _ (List.getElem?_eq_getElem hl)
  rw [← hjj] at this
  rw [this, hf]
theorem Rd.none_len {α : Type} {L : Lay α} {w : World} {B c : Nat} {xs : List α} (h : Rd L w B none c xs) : xs = [] := by
  cases xs with
  | nil => rfl
  | cons x xs =>
    obtain ⟨ad, e, _⟩ := h.at_ 0 (by simp)
    cases e
theorem clone_any (A : Option Addr) (c : Nat) (xs : List Int) (B : Nat) (w : World) (hr : Rd LI w B A c xs) (hB : B ≤ w.heap.size) (hn : xs.length * 8 ≤ 140737488355328) :
    Calls Tryd.prog 46 #[.slice A xs.length c] w fun e w' => ∃ A' c', e = .returned (.slice A' xs.length c') ∧ Own LI 2 w' w.heap.size A' c' xs ∧ Below w.heap.size w w' := by
  have hlen := hr.len63
  cases A with
  | none =>
    obtain rfl := hr.none_len
    have hq := fun W : World => Lib.run_eql_slice_nil (P := Tryd.prog) W 23 2 none 0 c 0 0 Tryd.underlying23
    go_enter Tryd.func46, Tryd.ntmps46
    go_wp2_with fail
    go_ret
    exact ⟨none, 0, rfl, Own.none_, Below.refl _ _⟩
  | some ad =>
    have hfl := Lib.hid ((hr.alloc hB (.cells #[] 2)).flat ad rfl)
    have hq := fun W : World => Lib.run_eql_slice_nil (P := Tryd.prog) W 23 2 (some ad) xs.length c 0 0 Tryd.underlying23
    go_enter Tryd.func46, Tryd.ntmps46
    go_wp2_with (at_builtin; go_loud (refine wpL_app (L := LI) rowI rfl rfl _ _ rfl rfl (Own.lit0 w (Nat.le_refl _) rfl) (some ad) xs.length c xs rfl rfl (fun h => by cases h) (fun ad' e => by cases e; exact hfl.out) (by unfold maxLen; simp; omega) (by simp; omega) (by simp) ?_); intro A4 c4 w4 ho4 hg4)
    go_ret
    refine ⟨A4, c4, by simp, by simpa using ho4, Grew.below ((Below.refl _ w).alloc (Nat.le_refl _) _) hg4 (by simp) fun g hg => ?_⟩
    simp [blk] at hg
    omega
theorem Own.nil0 {α : Type} {L : Lay α} {T : TypeId} {w : World} {base c : Nat} {A : Option Addr} {xs : List α} (h : Own L T w base A c xs) : A = none → c = 0 := by
  rcases h.parts with ⟨_, _, h⟩ | ⟨_, _, rfl, _⟩
  · exact fun _ => h
  · intro e; cases e
theorem l00Own_any (A : Option Addr) (c : Nat) (xs : List Int) (B : Nat) (w : World) (hr : Rd LI w B A c xs) (hB : B ≤ w.heap.size) (hn : xs.length * 8 ≤ 140737488355328) (hnil : A = none → c = 0) :
    Calls Tryd.prog 36 #[.slice A xs.length c] w fun e w' => ∃ A' c', e = .returned (.slice A' xs.length c') ∧ Own LI 2 w' w.heap.size A' c' xs ∧ Below w.heap.size w w' := by
  have hlen := hr.len63
  have hfl := Lib.hid ((hr.alloc hB (.cells #[] 2)).flat)
  cases A with
  | none =>
    obtain rfl := hr.none_len
    obtain rfl := hnil rfl
    clear hnil
    go_enter Tryd.func36, Tryd.ntmps36
    go_wp2_with (at_builtin; go_loud (refine wpL_app (L := LI) rowI rfl rfl _ _ rfl rfl (Own.lit0 w (Nat.le_refl _) rfl) none 0 0 [] rfl rfl (fun h => ⟨rfl, rfl⟩) (fun ad' e => by cases e) (by unfold maxLen; simp) (by simp) (by simp) ?_); intro A4 c4 w4 ho4 hg4)
    go_ret
    refine ⟨A4, c4, by simp, by simpa using ho4, Grew.below ((Below.refl _ w).alloc (Nat.le_refl _) _) hg4 (by simp) fun g hg => ?_⟩
    simp [blk] at hg
    omega
  | some ad =>
    clear hnil
    go_enter Tryd.func36, Tryd.ntmps36
    go_wp2_with (at_builtin; go_loud (refine wpL_app (L := LI) rowI rfl rfl _ _ rfl rfl (Own.lit0 w (Nat.le_refl _) rfl) (some ad) xs.length c xs rfl rfl (fun h => by cases h) (fun ad' e => by cases e; exact hfl.out ad rfl) (by unfold maxLen; simp; omega) (by simp; omega) (by simp) ?_); intro A4 c4 w4 ho4 hg4)
    go_ret
    refine ⟨A4, c4, by simp, by simpa using ho4, Grew.below ((Below.refl _ w).alloc (Nat.le_refl _) _) hg4 (by simp) fun g hg => ?_⟩
    simp [blk] at hg
    omega
end Go.Proofs.YtiefiikheaiekaaDoor
