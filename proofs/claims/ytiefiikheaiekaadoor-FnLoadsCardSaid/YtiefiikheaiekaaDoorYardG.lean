/-
  Yards: MovePack.
-/
import Derived.Test.YtiefiikheaiekaaDoorYardF
namespace Go.Proofs.YtiefiikheaiekaaDoor
open Go.ChangeShapes Go.WideShapes Go.RowKit

theorem RdR.drew {α : Type} {Li : Lay α} {w : World} {B c : Nat} {A : Option Addr} {rs : List (Row α)} (h : RdR Li w B A c rs) : RdR Li w.drew B A c rs := ⟨h.out.drew, fun r hr => (h.inn r hr).drew⟩
theorem OwnR.drew {α : Type} {Li : Lay α} {T1 T2 : TypeId} {w : World} {base c : Nat} {A : Option Addr} {rs : List (Row α)} (h : OwnR Li T1 T2 w base A c rs) : OwnR Li T1 T2 w.drew base A c rs := h.dr
theorem OwnR.alloc {α : Type} {Li : Lay α} {T1 T2 : TypeId} {w : World} {base c : Nat} {A : Option Addr} {rs : List (Row α)} (h : OwnR Li T1 T2 w base A c rs) (o : Obj) : OwnR Li T1 T2 (w.alloc o) base A c rs := h.al o
theorem nil_of {α : Type} {Li : Lay α} {T1 T2 : TypeId} {w : World} {base c : Nat} {A : Option Addr} {s : List (Row α)} (h : OwnR Li T1 T2 w base A c s) : ∀ r ∈ s, r.1 = none → r.2.1 = 0 := fun r hr e => by
  rcases (h.inn r hr).parts with ⟨_, _, h⟩ | ⟨g, _, h, _⟩
  · exact h
  · rw [h] at e; cases e
noncomputable def mpP (X : List (List Int)) (f t : Int) : List (List Int) × Int := if vyB X = true then (if mvOk X f t = true then (mvX X f t, 0) else ([], 6)) else ([], 1)
theorem topL_row_len (X : List (List Int)) (f t : Int) (i : Nat) : (mvRow X f t i).length ≤ (X.getD i []).length + 1 := by
  unfold mvRow
  split
  · simp; omega
  · split
    · simp
    · omega
theorem tlL_le {X : List (List Int)} {n m : Nat} (h : ∀ r ∈ X, r.length ≤ n) (hm : X.length ≤ m) : tlL X ≤ m * n := by
  have : tlL X ≤ X.length * n := by
    clear hm
    induction X with
    | nil => simp [tlL]
    | cons r X ih =>
      have := ih fun s hs => h s (List.mem_cons_of_mem _ hs)
      have := h r (List.mem_cons_self ..)
      simp only [tlL, List.length_cons, Nat.add_mul]
      omega
  exact Nat.le_trans this (Nat.mul_le_mul_right _ hm)
theorem vy_rows {X : List (List Int)} (h : vyB X = true) : X.length ≤ 4 ∧ ∀ r ∈ X, r.length ≤ 6 := by
  have hv := dB_true h
  refine ⟨hv.1.2, fun r hr => ?_⟩
  have h1 := hv.2.1
  have : r.length ≤ X.flatten.length := by
    clear h1 hv h
    induction X with
    | nil => cases hr
    | cons a X ih =>
      rw [List.flatten_cons, List.length_append]
      rcases List.mem_cons.1 hr with rfl | hr
      · omega
      · have := ih hr; omega
  omega
theorem mpP_tl (X : List (List Int)) (f t : Int) : tlL (mpP X f t).1 ≤ 1048576 := by
  unfold mpP
  split
  · rename_i hv
    obtain ⟨h1, h2⟩ := vy_rows hv
    split
    · have := tlL_le (X := mvX X f t) (n := 7) (m := 4) (fun r hr => by
        obtain ⟨i, hi, rfl⟩ := List.mem_map.1 hr
        have h3 := topL_row_len X f t i
        have h4 : (X.getD i []).length ≤ 6 := by
          rw [getD_lt X [] (List.mem_range.1 hi)]
          exact h2 _ (List.getElem_mem _)
        omega) (by rw [mvX_len]; exact h1)
      simp only
      omega
    · simp [tlL]
  · simp [tlL]
theorem row_bd {rs : List (Row Int)} (h : tlL (dat rs) ≤ 1048576) : ∀ r ∈ rs, r.2.2.length ≤ 1048576 := by
  intro r hr
  have h2 : r.2.2.length ≤ tlL (dat rs) := by
    clear h
    induction rs with
    | nil => cases hr
    | cons a rs ih =>
      simp only [dat, List.map_cons, tlL]
      rcases List.mem_cons.1 hr with rfl | hr
      · omega
      · have := ih hr
        simp only [dat] at this
        omega
  omega

end Go.Proofs.YtiefiikheaiekaaDoor
