/-
  An argument that is a []Stand or a Stand.
-/
import Derived.Test.YteaojbmfjlmggaaOpenFlat0
import Derived.Test.YteaojbmfjlmggaaFlatStand
namespace Go.Proofs.Yteaojbmfjlmggaa
open Go.ChangeShapes Go.WideShapes Go.ChangeAt Go.RowKit Go.Joins Go.Deep

theorem open_StandS {H : Type} {enc : TypeId × Value → H} {W : World} {a : Option Addr} {len cap : Nat} {d : DataW H} {p : List MemPlace}
    (h0 : DataW.Trod enc Try.prog W 0 (fun _ => true) true 52 (.slice a len cap) d p) :
    ∃ xs, len = xs.length ∧ Rd LStand W W.heap.size a cap xs ∧ ∀ n ∈ xs, OkStand n := by
  refine open_fields_rd LStand OkStand Try.underlying52 Try.underlying78 (by kernel_rfl) (by kernel_rfl) rfl ?_ h0
  intro ad _ hf
  obtain ⟨m0, v0, y0, hc0, h0⟩ := hf 0 _ rfl
  obtain ⟨m1, v1, y1, hc1, h1⟩ := hf 1 _ rfl
  obtain ⟨m2, v2, y2, hc2, h2⟩ := hf 2 _ rfl
  obtain ⟨n0, e0, _, w0⟩ := DataW.trod_int Try.underlying2 h0
  obtain ⟨n1, e1, _, w1⟩ := DataW.trod_int Try.underlying2 h1
  obtain ⟨n2, e2, _, w2⟩ := DataW.trod_int Try.underlying2 h2
  simp at e0 e1 e2
  subst e0 e1 e2
  refine ⟨(n0, n1, n2), ⟨i64_of_wf w0, i64_of_wf w1, i64_of_wf w2⟩, fun j u hu => ?_⟩
  match j, hu with
  | 0, hu => simp [LStand] at hu; subst hu; exact hc0
  | 1, hu => simp [LStand] at hu; subst hu; exact hc1
  | 2, hu => simp [LStand] at hu; subst hu; exact hc2
  | j + 3, hu => simp [LStand] at hu
set_option maxRecDepth 100000 in
theorem open_Stand {H : Type} {enc : TypeId × Value → H} {W : World} {r : Reach} {b0 : Nat} {v : Value} {d : DataW H} {p : List MemPlace} (hv : Value.okWide Try.prog W r b0 78 v)
    (h0 : DataW.Trod enc Try.prog W 0 (fun _ => true) true 78 v d p) :
    ∃ x : StandD, v = .agg #[.int .i64 (x.1), .int .i64 (x.2.1), .int .i64 (x.2.2)] ∧ OkStand x := by
  obtain ⟨v0, v1, v2, y0, y1, y2, m, rfl, _, _, h0, h1, h2⟩ := open_agg3 Try.underlying78 (by kernel_rfl) (by kernel_rfl) hv h0
  obtain ⟨n0, e0, _, w0⟩ := DataW.trod_int Try.underlying2 h0
  obtain ⟨n1, e1, _, w1⟩ := DataW.trod_int Try.underlying2 h1
  obtain ⟨n2, e2, _, w2⟩ := DataW.trod_int Try.underlying2 h2
  simp at e0 e1 e2
  subst e0 e1 e2
  exact ⟨(n0, n1, n2), rfl, ⟨i64_of_wf w0, i64_of_wf w1, i64_of_wf w2⟩⟩
end Go.Proofs.Yteaojbmfjlmggaa
