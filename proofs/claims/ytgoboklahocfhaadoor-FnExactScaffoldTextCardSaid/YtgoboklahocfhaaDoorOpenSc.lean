/-
  An argument that is a scaffold by value.
-/
import Derived.Test.YtgoboklahocfhaaDoorOpen
import Derived.Lib.SmallJoins
namespace Go.Proofs.YtgoboklahocfhaaDoor
open Go.ChangeShapes Go.WideShapes Go.ChangeAt Go.RowKit Go.Joins Go.Deep

set_option maxRecDepth 100000 in
theorem open_scaffold {H : Type} {enc : TypeId × Value → H} {W : World} {r : Reach} {b0 : Nat} {v : Value} {d : DataW H} {p : List MemPlace} (hv : Value.okWide Tryd.prog W r b0 38 v)
    (h0 : DataW.Trod enc Tryd.prog W 0 (fun _ => true) true 38 v d p) :
    ∃ (Ab : Option Addr) (cb : Nat) (xb : List Int) (At : Option Addr) (ct : Nat) (xt : List Int) (n : Int), v = .agg #[.slice Ab xb.length cb, .slice At xt.length ct, .int .i64 n] ∧ Rd LI W W.heap.size Ab cb xb ∧ Rd LI W W.heap.size At ct xt ∧ (∀ n ∈ xb, I64 n) ∧ (∀ n ∈ xt, I64 n) ∧ I64 n := by
  obtain ⟨v0, v1, v2, y0, y1, y2, m, rfl, _, _, h1, h2, h3⟩ := open_agg3 Tryd.underlying38 (by kernel_rfl) (by kernel_rfl) hv h0
  obtain ⟨a, l, c, e1⟩ := slice_form Tryd.underlying36 h1
  obtain ⟨a2, l2, c2, e2⟩ := slice_form Tryd.underlying36 h2
  obtain ⟨n, e3, _, wn⟩ := DataW.trod_int Tryd.underlying2 h3
  simp at e1 e2 e3
  subst e1 e2 e3
  obtain ⟨xb, rfl, hb, gb⟩ := open_ints_rd (enc := enc) Tryd.underlying36 Tryd.underlying2 (by kernel_rfl) (⟨m, by simpa [Value.cells] using h1⟩ : DataW.Trod enc Tryd.prog W 0 (fun _ => true) true 36 (.slice a l c) y0.1 y0.2)
  obtain ⟨xt, rfl, ht, gt⟩ := open_ints_rd (enc := enc) Tryd.underlying36 Tryd.underlying2 (by kernel_rfl) (⟨m, by simpa [Value.cells] using h2⟩ : DataW.Trod enc Tryd.prog W 0 (fun _ => true) true 36 (.slice a2 l2 c2) y1.1 y1.2)
  exact ⟨a, c, xb, a2, c2, xt, n, rfl, hb, ht, gb, gt, i64_of_wf wn⟩
end Go.Proofs.YtgoboklahocfhaaDoor
