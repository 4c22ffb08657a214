/-
  An argument that is a []Hand or a Hand.
-/
import Derived.Test.YtofcmljnckdknaaOpenFlat0
import Derived.Test.YtofcmljnckdknaaFlatHand
namespace Go.Proofs.Ytofcmljnckdknaa
open Go.ChangeShapes Go.WideShapes Go.ChangeAt Go.RowKit Go.Joins Go.Deep

theorem open_HandS {H : Type} {enc : TypeId × Value → H} {W : World} {a : Option Addr} {len cap : Nat} {d : DataW H} {p : List MemPlace}
    (h0 : DataW.Trod enc Try.prog W 0 (fun _ => true) true 22 (.slice a len cap) d p) :
    ∃ xs, len = xs.length ∧ Rd LHand W W.heap.size a cap xs ∧ ∀ n ∈ xs, OkHand n := by
  refine open_fields_rd LHand OkHand Try.underlying22 Try.underlying62 (by kernel_rfl) (by kernel_rfl) rfl ?_ h0
  intro ad _ hf
  obtain ⟨m0, v0, y0, hc0, h0⟩ := hf 0 _ rfl
  obtain ⟨m1, v1, y1, hc1, h1⟩ := hf 1 _ rfl
  obtain ⟨m2, v2, y2, hc2, h2⟩ := hf 2 _ rfl
  obtain ⟨n0, e0, _, w0⟩ := DataW.trod_string Try.underlying9 h0
  obtain ⟨n1, e1, _, w1⟩ := DataW.trod_int Try.underlying2 h1
  obtain ⟨n2, e2, _⟩ := DataW.trod_bool Try.underlying4 h2
  simp at e0 e1 e2
  subst e0 e1 e2
  refine ⟨(n0, n1, n2), ⟨(by unfold maxLen at w0; omega), i64_of_wf w1⟩, fun j u hu => ?_⟩
  match j, hu with
  | 0, hu => simp [LHand] at hu; subst hu; exact hc0
  | 1, hu => simp [LHand] at hu; subst hu; exact hc1
  | 2, hu => simp [LHand] at hu; subst hu; exact hc2
  | j + 3, hu => simp [LHand] at hu
set_option maxRecDepth 100000 in
theorem open_Hand {H : Type} {enc : TypeId × Value → H} {W : World} {r : Reach} {b0 : Nat} {v : Value} {d : DataW H} {p : List MemPlace} (hv : Value.okWide Try.prog W r b0 62 v)
    (h0 : DataW.Trod enc Try.prog W 0 (fun _ => true) true 62 v d p) :
    ∃ x : HandD, v = .agg #[.string x.1, .int .i64 (x.2.1), .bool x.2.2] ∧ OkHand x := by
  obtain ⟨v0, v1, v2, y0, y1, y2, m, rfl, _, _, h0, h1, h2⟩ := open_agg3 Try.underlying62 (by kernel_rfl) (by kernel_rfl) hv h0
  obtain ⟨n0, e0, _, w0⟩ := DataW.trod_string Try.underlying9 h0
  obtain ⟨n1, e1, _, w1⟩ := DataW.trod_int Try.underlying2 h1
  obtain ⟨n2, e2, _⟩ := DataW.trod_bool Try.underlying4 h2
  simp at e0 e1 e2
  subst e0 e1 e2
  exact ⟨(n0, n1, n2), rfl, ⟨(by unfold maxLen at w0; omega), i64_of_wf w1⟩⟩
end Go.Proofs.Ytofcmljnckdknaa
