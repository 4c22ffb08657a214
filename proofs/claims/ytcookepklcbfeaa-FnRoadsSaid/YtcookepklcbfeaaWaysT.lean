/-
  ShortestWays, both sides.
-/
import Derived.Test.YtcookepklcbfeaaWaysS
namespace Go.Proofs.Ytcookepklcbfeaa
open Go.ChangeShapes Go.WideShapes Go.RowKit

noncomputable def swP (X : List (List Int)) : List (List Int) × Int := if vrB X = true then (mat X.length (Dw X), 0) else ([], 1)
theorem swP_yes {X : List (List Int)} (h : vrB X = true) : swP X = (mat X.length (Dw X), 0) := by unfold swP; rw [if_pos h]
theorem swP_no {X : List (List Int)} (h : vrB X = false) : swP X = ([], 1) := by unfold swP; rw [if_neg (by simp [h])]
theorem swP_tl (X : List (List Int)) : tlL (swP X).1 ≤ 1048576 := by
  cases h : vrB X
  · rw [swP_no h]; decide
  · rw [swP_yes h]
    have hv := (dB_true h).1.2
    have : ∀ (l : List (List Int)) (n : Nat), (∀ r ∈ l, r.length ≤ n) → tlL l ≤ l.length * n := by
      intro l n
      induction l with
      | nil => intro _; simp [tlL]
      | cons a l ih =>
        intro h
        have h1 := h a (List.mem_cons_self ..)
        have h2 := ih fun r hr => h r (List.mem_cons_of_mem _ hr)
        simp only [tlL, List.length_cons, Nat.add_mul]
        omega
    have h2 := this (mat X.length (Dw X)) 8 (fun r hr => by
      obtain ⟨i, _, rfl⟩ := List.mem_map.1 hr
      simpa using hv)
    rw [mat_len] at h2
    simp only
    omega
theorem implShortestWays_any (A : Option Addr) (c : Nat) (qs : List (Row Int)) (w : World) (hr : RdR LI w w.heap.size A c qs) :
    Calls Try.prog 27 #[.slice A qs.length c] w fun e w' => ∃ A1 c1 rs, e = .returned (.tuple #[.slice A1 rs.length c1, .int .i64 (swP (dat qs)).2]) ∧ OwnR LI 24 2 w' w.heap.size A1 c1 rs ∧ dat rs = (swP (dat qs)).1 ∧ Below w.heap.size w w' := by
  have hcv := implValidRoads_any A c qs w hr
  cases hv : vrB (dat qs)
  · have HP := Lib.hid (swP_no hv)
    rw [hv] at hcv
    simp only [HP.out]
    go_enter Try.func27, Try.ntmps27
    go_wp2_with fail
    refine hcv.mono ?_
    rintro e w1 ⟨rfl, hb1⟩
    go_wp2_with fail
    go_ret2
    exact ⟨none, 0, [], rfl, OwnR.none_, rfl, by first | exact hb1 | exact hb1.below⟩
  · have HP := Lib.hid (swP_yes hv)
    have HL := Lib.hid (dat_len qs)
    rw [hv] at hcv
    simp only [HP.out]
    have HV := Lib.hid (dB_true hv)
    clear hv
    go_enter Try.func27, Try.ntmps27
    go_wp2_with fail
    refine hcv.mono ?_
    rintro e w1 ⟨rfl, hb1⟩
    have hbl : Below w.heap.size w w1 := by first | exact hb1 | exact hb1.below
    have hcc := ways_any A c qs w.heap.size w1 (hr.below hbl) hbl.size HV.out
    go_wp2_with fail
    refine hcc.mono ?_
    rintro e w2 ⟨A1, c1, rs, rfl, hO, hd, hb2⟩
    have Hd := Lib.hid hd
    clear hd
    go_wp2_with fail
    go_ret2
    exact ⟨A1, c1, rs, rfl, hO.lower hbl.size, by rw [Hd.out, HL.out], bthen hbl (Nat.le_refl _) hb2⟩
theorem specShortestWays_any (A : Option Addr) (c : Nat) (qs : List (Row Int)) (w : World) (hr : RdR LI w w.heap.size A c qs) :
    Calls Try.prog 28 #[.slice A qs.length c] w fun e w' => ∃ A1 c1 rs, e = .returned (.tuple #[.slice A1 rs.length c1, .int .i64 (swP (dat qs)).2]) ∧ OwnR LI 24 2 w' w.heap.size A1 c1 rs ∧ dat rs = (swP (dat qs)).1 ∧ Below w.heap.size w w' := by
  have hcv := l21Roads_any A c qs w hr
  cases hv : vrB (dat qs)
  · have HP := Lib.hid (swP_no hv)
    rw [hv] at hcv
    simp only [HP.out]
    go_enter Try.func28, Try.ntmps28
    go_wp2_with fail
    refine hcv.mono ?_
    rintro e w1 ⟨rfl, hb1⟩
    go_wp2_with fail
    go_ret2
    exact ⟨none, 0, [], rfl, OwnR.none_, rfl, by first | exact hb1 | exact hb1.below⟩
  · have HP := Lib.hid (swP_yes hv)
    have HL := Lib.hid (dat_len qs)
    rw [hv] at hcv
    simp only [HP.out]
    have HV := Lib.hid (dB_true hv)
    clear hv
    go_enter Try.func28, Try.ntmps28
    go_wp2_with fail
    refine hcv.mono ?_
    rintro e w1 ⟨rfl, hb1⟩
    have hbl : Below w.heap.size w w1 := by first | exact hb1 | exact hb1.below
    have hcc := l21Ways_any A c qs w.heap.size w1 (hr.below hbl) hbl.size HV.out
    go_wp2_with fail
    refine hcc.mono ?_
    rintro e w2 ⟨A1, c1, rs, rfl, hO, hd, hb2⟩
    have Hd := Lib.hid hd
    clear hd
    go_wp2_with fail
    go_ret2
    exact ⟨A1, c1, rs, rfl, hO.lower hbl.size, by rw [Hd.out, HL.out], bthen hbl (Nat.le_refl _) hb2⟩
end Go.Proofs.Ytcookepklcbfeaa
