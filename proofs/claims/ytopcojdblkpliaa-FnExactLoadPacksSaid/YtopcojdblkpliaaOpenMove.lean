/-
  An argument that is a []Move or a Move.
-/
import Derived.Test.YtopcojdblkpliaaOpenFlat0
import Derived.Test.YtopcojdblkpliaaFlatMove
namespace Go.Proofs.Ytopcojdblkpliaa
open Go.ChangeShapes Go.WideShapes Go.ChangeAt Go.RowKit Go.Joins Go.Deep

theorem open_MoveS {H : Type} {enc : TypeId × Value → H} {W : World} {a : Option Addr} {len cap : Nat} {d : DataW H} {p : List MemPlace}
    (h0 : DataW.Trod enc Try.prog W 0 (fun _ => true) true 45 (.slice a len cap) d p) :
    ∃ xs, len = xs.length ∧ Rd LMove W W.heap.size a cap xs ∧ ∀ n ∈ xs, OkMove n := by
  refine open_fields_rd LMove OkMove Try.underlying45 Try.underlying36 (by kernel_rfl) (by kernel_rfl) rfl ?_ h0
  intro ad _ hf
  obtain ⟨m0, v0, y0, hc0, h0⟩ := hf 0 _ rfl
  obtain ⟨m1, v1, y1, hc1, h1⟩ := hf 1 _ rfl
  obtain ⟨n0, e0, _, w0⟩ := DataW.trod_int Try.underlying2 h0
  obtain ⟨n1, e1, _, w1⟩ := DataW.trod_int Try.underlying2 h1
  simp at e0 e1
  subst e0 e1
  refine ⟨(n0, n1), ⟨i64_of_wf w0, i64_of_wf w1⟩, fun j u hu => ?_⟩
  match j, hu with
  | 0, hu => simp [LMove] at hu; subst hu; exact hc0
  | 1, hu => simp [LMove] at hu; subst hu; exact hc1
  | j + 2, hu => simp [LMove] at hu
set_option maxRecDepth 100000 in
theorem open_Move {H : Type} {enc : TypeId × Value → H} {W : World} {r : Reach} {b0 : Nat} {v : Value} {d : DataW H} {p : List MemPlace} (hv : Value.okWide Try.prog W r b0 36 v)
    (h0 : DataW.Trod enc Try.prog W 0 (fun _ => true) true 36 v d p) :
    ∃ x : MoveD, v = .agg #[.int .i64 (x.1), .int .i64 (x.2)] ∧ OkMove x := by
  obtain ⟨v0, v1, y0, y1, m, rfl, _, _, h0, h1⟩ := open_agg2 Try.underlying36 (by kernel_rfl) (by kernel_rfl) hv h0
  obtain ⟨n0, e0, _, w0⟩ := DataW.trod_int Try.underlying2 h0
  obtain ⟨n1, e1, _, w1⟩ := DataW.trod_int Try.underlying2 h1
  simp at e0 e1
  subst e0 e1
  exact ⟨(n0, n1), rfl, ⟨i64_of_wf w0, i64_of_wf w1⟩⟩
end Go.Proofs.Ytopcojdblkpliaa
