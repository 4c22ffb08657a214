/-
  An argument that is a []Work or a Work.
-/
import Derived.Test.YtofcmljnckdknaaOpenFlat0
import Derived.Test.YtofcmljnckdknaaFlatWork
namespace Go.Proofs.Ytofcmljnckdknaa
open Go.ChangeShapes Go.WideShapes Go.ChangeAt Go.RowKit Go.Joins Go.Deep

theorem open_WorkS {H : Type} {enc : TypeId × Value → H} {W : World} {a : Option Addr} {len cap : Nat} {d : DataW H} {p : List MemPlace}
    (h0 : DataW.Trod enc Try.prog W 0 (fun _ => true) true 23 (.slice a len cap) d p) :
    ∃ xs, len = xs.length ∧ Rd LWork W W.heap.size a cap xs ∧ ∀ n ∈ xs, OkWork n := by
  refine open_fields_rd LWork OkWork Try.underlying23 Try.underlying70 (by kernel_rfl) (by kernel_rfl) rfl ?_ h0
  intro ad _ hf
  obtain ⟨m0, v0, y0, hc0, h0⟩ := hf 0 _ rfl
  obtain ⟨m1, v1, y1, hc1, h1⟩ := hf 1 _ rfl
  obtain ⟨m2, v2, y2, hc2, h2⟩ := hf 2 _ rfl
  obtain ⟨m3, v3, y3, hc3, h3⟩ := hf 3 _ rfl
  obtain ⟨n0, e0, _, w0⟩ := DataW.trod_int Try.underlying2 h0
  obtain ⟨n1, e1, _, w1⟩ := DataW.trod_int Try.underlying2 h1
  obtain ⟨n2, e2, _, w2⟩ := DataW.trod_int Try.underlying2 h2
  obtain ⟨n3, e3, _, w3⟩ := DataW.trod_int Try.underlying2 h3
  simp at e0 e1 e2 e3
  subst e0 e1 e2 e3
  refine ⟨(n0, n1, n2, n3), ⟨i64_of_wf w0, i64_of_wf w1, i64_of_wf w2, i64_of_wf w3⟩, fun j u hu => ?_⟩
  match j, hu with
  | 0, hu => simp [LWork] at hu; subst hu; exact hc0
  | 1, hu => simp [LWork] at hu; subst hu; exact hc1
  | 2, hu => simp [LWork] at hu; subst hu; exact hc2
  | 3, hu => simp [LWork] at hu; subst hu; exact hc3
  | j + 4, hu => simp [LWork] at hu
set_option maxRecDepth 100000 in
theorem open_Work {H : Type} {enc : TypeId × Value → H} {W : World} {r : Reach} {b0 : Nat} {v : Value} {d : DataW H} {p : List MemPlace} (hv : Value.okWide Try.prog W r b0 70 v)
    (h0 : DataW.Trod enc Try.prog W 0 (fun _ => true) true 70 v d p) :
    ∃ x : WorkD, v = .agg #[.int .i64 (x.1), .int .i64 (x.2.1), .int .i64 (x.2.2.1), .int .i64 (x.2.2.2)] ∧ OkWork x := by
  obtain ⟨v0, v1, v2, v3, y0, y1, y2, y3, m, rfl, _, _, h0, h1, h2, h3⟩ := open_agg4 Try.underlying70 (by kernel_rfl) (by kernel_rfl) hv h0
  obtain ⟨n0, e0, _, w0⟩ := DataW.trod_int Try.underlying2 h0
  obtain ⟨n1, e1, _, w1⟩ := DataW.trod_int Try.underlying2 h1
  obtain ⟨n2, e2, _, w2⟩ := DataW.trod_int Try.underlying2 h2
  obtain ⟨n3, e3, _, w3⟩ := DataW.trod_int Try.underlying2 h3
  simp at e0 e1 e2 e3
  subst e0 e1 e2 e3
  exact ⟨(n0, n1, n2, n3), rfl, ⟨i64_of_wf w0, i64_of_wf w1, i64_of_wf w2, i64_of_wf w3⟩⟩
end Go.Proofs.Ytofcmljnckdknaa
