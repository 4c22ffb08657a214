/-
  append inside a region that draws its order: a step's law on the call's own rows (Own).
-/
import Derived.Test.YtiefiikheaiekaaDoorGrid
import Derived.Deep.RegionHeld3
import Derived.Deep.RegionLaw
namespace Go.Proofs.YtiefiikheaiekaaDoor
open Go.ChangeShapes Go.WideShapes Go.RowKit

theorem wrapS {n : Int} (h0 : -9223372036854775808 ≤ n) (h1 : n ≤ 9223372036854775807) : IntKind.i64.wrap n = n := by
  rw [show IntKind.i64.wrap n = (n + 9223372036854775808) % 18446744073709551616 - 9223372036854775808 by simp [IntKind.wrap, IntKind.bits, IntKind.signed]; try omega]
  omega
theorem Grew.by_ {w w' : World} {A A' : Option Addr} (h : Grew w w' A A') : w.grownBy w' (blk A) := ⟨h.os, h.tape, h.output, h.size, h.block⟩
theorem Grew.cell {w w' : World} {A A' : Option Addr} (h : Grew w w' A A') (p : Addr) (hlt : p.block < w.heap.size) (hne : blk A ≠ some p.block) : w'.cell? p = w.cell? p := h.by_.cell_far p hlt (Ne.symm hne)
theorem Grew.frozen {w w' : World} {A A' : Option Addr} (h : Grew w w' A A') (p : Addr) (hlt : p.block < w.heap.size) (hne : blk A ≠ some p.block) : w'.frozen? p = w.frozen? p := h.by_.frozen_far p hlt (Ne.symm hne)

section
variable {α : Type} {L : Lay α} {P : Program} {w : World}
theorem stepL_app1 {ops : Array Oper} {o : Oper} {a : Act} {K : Act → World → Prop} {Q : Exit → Act → World → Prop} {E : Prop} {t e : TypeId} {z : Value} {bytes : Nat} (hrow : TyRow P t e z L.sz bytes) (hz : z.cells.size = L.sz) (hgd : o.guard = none) (s x : Operand)
    (ho : o.op = .call { callee := .builtin .append, args := #[s, x], argTypes := #[t, t] }) {base c : Nat} {A : Option Addr} {xs : List α} (hs : a.eval s = .slice A xs.length c) (hown : Own L e w base A c xs)
    (u : α) {g : Nat} (hx : a.eval x = .slice (some ⟨g, 0, none⟩) 1 1) (hu : ∀ j v, (L.f u)[j]? = some v → w.cell? ⟨g, j, none⟩ = some v)
    (h63 : xs.length + 1 ≤ maxLen) (hbytes : (xs.length + 1) * bytes ≤ 140737488355328) (hbase : base ≤ w.heap.size)
    (h : ∀ A' c' w', Own L e w' base A' c' (xs ++ [u]) → Grew w w' A A' → K (a.put o.dst (.slice A' (xs.length + 1) c')) w') :
    if Region.wanted o (yielded ops a.tmps) = true then Oper.wp P o a w K Q else E := by
  have hw : Region.wanted o (yielded ops a.tmps) = true := by simp [Region.wanted, hgd]
  rw [if_pos hw]
  obtain ⟨A', c', w', hrun, h1, h2⟩ := run_app (w := w) hrow hz o.type hown (some ⟨g, 0, none⟩) 1 1 [u] rfl (fun h => by cases h) (by
    intro ad had j v hv
    cases had
    rw [add_lit]
    exact hu j v (by simpa using hv)) h63 hbytes hbase
  unfold Oper.wp
  simp only [execOp, ho]
  simp [resolve, invoke, builtin, hs, hx, hrun, Result.andThen]
  exact h _ _ _ h1 h2

theorem run_app_nil {t e : TypeId} {z : Value} {bytes : Nat} (hrow : TyRow P t e z L.sz bytes) (ty : TypeId) {base c : Nat} {A : Option Addr} {xs : List α} (hown : Own L e w base A c xs) (cc : Nat) :
    (Builtin.append_ #[t, t] ty #[.slice A xs.length c, .slice none 0 cc]).run P w = .ok (.slice A xs.length c) w := by
  obtain ⟨ht, hinfo⟩ := hrow
  obtain ⟨i, hi, hz0, hz1, hz2⟩ := info_parts hinfo
  rcases hown.2 with ⟨h1, h2⟩ | ⟨g, cap, cur, h1, _, _, hnc, _⟩
  · simp only [Value.slice.injEq] at h1
    obtain ⟨rfl, h3, rfl⟩ := h1
    obtain rfl : xs = [] := List.length_eq_zero_iff.1 h3
    simp [Builtin.append_, run_underlying ht, sizeOf, typeInfo, hi, Builtin.lenOf, Builtin.firstCells]
  · simp only [Value.slice.injEq] at h1
    obtain ⟨rfl, _, rfl⟩ := h1
    simp [Builtin.append_, run_underlying ht, sizeOf, typeInfo, hi, Builtin.lenOf, Builtin.firstCells, hnc, storeCells]
/-- 'append(out, ys...)', ys nil -/
theorem wpL_app0 {ops : Array Oper} {rest : List Oper} {o : Oper} {a : Act} {Q : Exit → Act → World → Prop} {t e : TypeId} {z : Value} {bytes : Nat} (hrow : TyRow P t e z L.sz bytes) (hgd : o.guard = none) (s x : Operand)
    (ho : o.op = .call { callee := .builtin .append, args := #[s, x], argTypes := #[t, t] }) {base c : Nat} {A : Option Addr} {xs : List α} (hs : a.eval s = .slice A xs.length c) (hown : Own L e w base A c xs)
    (cc : Nat) (hx : a.eval x = .slice none 0 cc)
    (h : wpList P ops Q rest (a.put o.dst (.slice A xs.length c)) w) : wpList P ops Q (o :: rest) a w := by
  refine wpList_plain hgd fun K hK => ?_
  have hrun := run_app_nil (P := P) hrow o.type hown cc
  unfold Oper.wp
  simp only [execOp, ho]
  simp [resolve, invoke, builtin, hs, hx, hrun, Result.andThen]
  exact hK _ _ h
end
end Go.Proofs.YtiefiikheaiekaaDoor
