/-
  An argument that is a slice of slices of int64: what it gives in the words of Grid.
-/
import Derived.Test.YtiefiikheaiekaaDoorOpen
import Derived.Test.YtiefiikheaiekaaDoorNumSS
import Derived.Deep.Matrix
namespace Go.Proofs.YtiefiikheaiekaaDoor
open Go.ChangeShapes Go.WideShapes Go.ChangeAt Go.RowKit Go.Deep

theorem open_grid_rd {H : Type} {enc : TypeId × Value → H} {W : World} {a : Option Addr} {len cap : Nat} {d : DataW H} {p : List MemPlace}
    (h0 : DataW.Trod enc Tryd.prog W 0 (fun _ => true) true 22 (.slice a len cap) d p) :
    ∃ rs : List (Row Int), len = rs.length ∧ RdR LI W W.heap.size a cap rs ∧ ∀ r ∈ rs, ∀ n ∈ r.2.2, I64 n := by
  obtain ⟨fuel, hf⟩ := h0
  rcases open_int_rows Tryd.underlying22 Tryd.underlying23 Tryd.underlying2 (by kernel_rfl) (by kernel_rfl) hf with ⟨hcs, _⟩ | ⟨x, l, c, A, L, C, Z, hcs, _, hl, hm, _, hrow⟩
  · simp [Value.cells] at hcs
    obtain ⟨rfl, rfl, rfl⟩ := hcs
    exact ⟨[], rfl, ⟨Rd.nil (by unfold maxLen; omega), fun r hr => by cases hr⟩, fun r hr => by cases hr⟩
  · simp [Value.cells] at hcs
    obtain ⟨rfl, rfl, rfl⟩ := hcs
    have hlenr : ∀ r, r < cap → ((Z r).take (L r)).length = L r := fun r hr => by
      obtain ⟨_, h1, _, h3, _⟩ := hrow r hr
      rw [List.length_take]; omega
    refine ⟨(List.range len).map fun r => (A r, C r, (Z r).take (L r)), by simp, ⟨⟨by simp; omega, hm, fun i hi => ?_⟩, fun r hr => ?_⟩, fun r hr n hn => ?_⟩
    · have hi' : i < len := by simpa using hi
      obtain ⟨hc, _⟩ := hrow i (by omega)
      refine ⟨x, rfl, ?_, fun j u hu => ?_⟩
      · have := World.block_lt_of_cell? W _ hc
        rwa [block_of_add] at this
      · match j, hu with
        | 0, hu =>
          simp only [LV, List.getElem?_cons_zero, Option.some.injEq] at hu
          subst hu
          simp only [LV, Nat.mul_one, Nat.add_zero]
          rw [hc]
          simp [hd, hlenr i (by omega)]
        | j + 1, hu => simp [LV] at hu
    · obtain ⟨q, hq, rfl⟩ := List.mem_map.1 hr
      have hq' : q < cap := by have := List.mem_range.1 hq; omega
      obtain ⟨_, h1, h2, h3, h4, h5, h6⟩ := hrow q hq'
      refine ⟨?_, h2, fun i hi => ?_⟩
      · show ((Z q).take (L q)).length ≤ C q
        rw [hlenr q hq']; exact h1
      · have hi' : i < ((Z q).take (L q)).length := hi
        rw [hlenr q hq'] at hi'
        cases hA : A q with
        | none => have := h5 hA; omega
        | some a' =>
          obtain ⟨hb, hcell⟩ := h6 a' hA
          have hc := hcell i (by omega)
          refine ⟨a', rfl, ?_, fun j u hu => ?_⟩
          · have := World.block_lt_of_cell? W _ hc
            rwa [block_of_add] at this
          · match j, hu with
            | 0, hu =>
              simp only [LI, List.getElem?_cons_zero, Option.some.injEq] at hu
              subst hu
              simp only [LI, Nat.mul_one, Nat.add_zero]
              rw [hc]
              have hiz : i < (Z q).length := by omega
              simp [List.getD, hiz]
            | j + 1, hu => simp [LI] at hu
    · obtain ⟨q, hq, rfl⟩ := List.mem_map.1 hr
      have hq' : q < cap := by have := List.mem_range.1 hq; omega
      obtain ⟨_, h1, h2, h3, h4, h5, h6⟩ := hrow q hq'
      exact i64_of_wf (h4 n (List.mem_of_mem_take hn))
end Go.Proofs.YtiefiikheaiekaaDoor
