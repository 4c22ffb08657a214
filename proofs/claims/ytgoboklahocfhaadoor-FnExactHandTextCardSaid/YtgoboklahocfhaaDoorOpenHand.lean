/-
  An argument that is a []Hand or a Hand.
-/
import Derived.Test.YtgoboklahocfhaaDoorOpenFlat0
import Derived.Test.YtgoboklahocfhaaDoorFlatHand
namespace Go.Proofs.YtgoboklahocfhaaDoor
open Go.ChangeShapes Go.WideShapes Go.ChangeAt Go.RowKit Go.Joins Go.Deep

set_option maxRecDepth 100000 in
theorem open_Hand {H : Type} {enc : TypeId × Value → H} {W : World} {r : Reach} {b0 : Nat} {v : Value} {d : DataW H} {p : List MemPlace} (hv : Value.okWide Tryd.prog W r b0 23 v)
    (h0 : DataW.Trod enc Tryd.prog W 0 (fun _ => true) true 23 v d p) :
    ∃ x : HandD, v = .agg #[.string x.1, .int .i64 (x.2.1), .bool x.2.2] ∧ OkHand x := by
  obtain ⟨v0, v1, v2, y0, y1, y2, m, rfl, _, _, h0, h1, h2⟩ := open_agg3 Tryd.underlying23 (by kernel_rfl) (by kernel_rfl) hv h0
  obtain ⟨n0, e0, _, w0⟩ := DataW.trod_string Tryd.underlying9 h0
  obtain ⟨n1, e1, _, w1⟩ := DataW.trod_int Tryd.underlying2 h1
  obtain ⟨n2, e2, _⟩ := DataW.trod_bool Tryd.underlying4 h2
  simp at e0 e1 e2
  subst e0 e1 e2
  exact ⟨(n0, n1, n2), rfl, ⟨(by unfold maxLen at w0; omega), i64_of_wf w1⟩⟩
end Go.Proofs.YtgoboklahocfhaaDoor
