/-
  An argument that is a []uint8.
-/
import Derived.Test.YtiefiikheaiekaaDoorBytes8
import Derived.Test.YtiefiikheaiekaaDoorOpen
namespace Go.Proofs.YtiefiikheaiekaaDoor
open Go.ChangeShapes Go.WideShapes Go.ChangeAt Go.RowKit

theorem byte_of_wf {n : Int} (h : (Lit.int .u8 n).wf = true) : 0 ≤ n ∧ n ≤ 255 := by
  simpa [Lit.wf, IntKind.min, IntKind.max, IntKind.signed, IntKind.bits] using h
theorem rd_of_bytes {w : World} {x : Addr} {len cap : Nat} {zs : List Int} (hl : len ≤ cap) (hm : cap ≤ maxLen) (hz : zs.length = cap) (hcell : ∀ i, i < zs.length → w.cell? (x.add i) = some (.int .u8 (zs.getD i 0))) :
    ∃ xs, len = xs.length ∧ Rd LU w w.heap.size (some x) cap xs ∧ ∀ n ∈ xs, n ∈ zs := by
  refine ⟨zs.take len, by simp; omega, ⟨by simp; omega, hm, fun i hi => ?_⟩, fun n hn => List.mem_of_mem_take hn⟩
  have hi' : i < zs.length := by simp at hi; omega
  have hc := hcell i hi'
  refine ⟨x, rfl, ?_, fun j u hu => ?_⟩
  · have := World.block_lt_of_cell? w _ hc
    rwa [block_of_add] at this
  · match j, hu with
    | 0, hu =>
      simp only [LU, List.getElem?_cons_zero, Option.some.injEq] at hu
      subst hu
      simp only [LU, Nat.mul_one, Nat.add_zero]
      rw [hc]
      simp [List.getD, hi']
    | j + 1, hu => simp [LU] at hu
theorem open_bytes_rd {H : Type} {enc : TypeId × Value → H} {W : World} {a : Option Addr} {len cap : Nat} {d : DataW H} {p : List MemPlace} {t e : TypeId} (ht : Tryd.prog.underlying t = some (.slice e)) (he : Tryd.prog.underlying e = some (.int .u8)) (hc : Tryd.prog.cellsOf e = 1)
    (h0 : DataW.Trod enc Tryd.prog W 0 (fun _ => true) true t (.slice a len cap) d p) :
    ∃ xs, len = xs.length ∧ Rd LU W W.heap.size a cap xs ∧ ∀ n ∈ xs, 0 ≤ n ∧ n ≤ 255 := by
  obtain ⟨fuel, hf⟩ := h0
  rcases open_ints ht he hc hf with ⟨hcs, _⟩ | ⟨x, l, c, zs, hcs, _, hl, hm, hz, _, hcell, hwz⟩
  · simp [Value.cells] at hcs
    obtain ⟨rfl, rfl, rfl⟩ := hcs
    exact ⟨[], rfl, Rd.nil (by unfold maxLen; omega), fun n hn => by cases hn⟩
  · simp [Value.cells] at hcs
    obtain ⟨rfl, rfl, rfl⟩ := hcs
    obtain ⟨xs, e, hr, hsub⟩ := rd_of_bytes hl hm (by simpa using hz) hcell
    exact ⟨xs, e, hr, fun n hn => byte_of_wf (hwz n (hsub n hn))⟩
end Go.Proofs.YtiefiikheaiekaaDoor
