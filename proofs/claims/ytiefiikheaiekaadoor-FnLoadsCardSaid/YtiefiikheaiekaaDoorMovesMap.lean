/-
  The texts that are known: a map of the call's own from strings to bools.
-/
import Derived.Maps.OwnSet
import Derived.Test.YtiefiikheaiekaaDoorNum
namespace Go.Proofs.YtiefiikheaiekaaDoor
open Go.ChangeShapes Go.WideShapes Go.RowKit Go.Maps Go.WideMaps

theorem mapRow : Tryd.prog.underlying 77 = some (.map 9 4) := by kernel_rfl
theorem strRow : Tryd.prog.underlying 9 = some .string := by kernel_rfl
theorem boolRow : Tryd.prog.underlying 4 = some .bool := by kernel_rfl
theorem strKeyed : Keyed Tryd.prog 9 := string_keyed strRow
theorem zeroBool (w : World) : (zeroValue 4).run Tryd.prog w = .ok (.bool false) w := by kernel_rfl
theorem plainElem_bool_inv {v : Value} {z : DataW Unit × List MemPlace} (h : plainElem Tryd.prog 4 v = some z) : ∃ x, v = .bool x ∧ z = (.lit (.bool x), []) := by
  unfold plainElem at h
  rw [boolRow] at h
  cases v <;> simp at h
  exact ⟨_, rfl, h.symm⟩
/-- block b is a set of strings -/
def Knows (w : World) (b n : Nat) (K : List (List UInt8)) : Prop :=
  ∃ D : DataW Unit, w.ownsMap Tryd.prog 9 (plainElem Tryd.prog 4) b n D ∧ ∀ l : List UInt8, D.atKey (.string l) (.lit (.bool false)) = .lit (.bool (decide (l ∈ K)))
theorem Knows.made (w : World) : Knows (w.alloc (.map #[] 0)) w.heap.size 0 [] := ⟨_, World.ownsMap_made _ _ _ _, fun l => by simp [DataW.atKey]⟩
theorem Knows.at {w w' : World} {b n : Nat} {K : List (List UInt8)} (h : Knows w b n K) (e : w'.heap[b]? = w.heap[b]?) : Knows w' b n K := by
  obtain ⟨D, ⟨es, clock, hb, r⟩, hD⟩ := h
  exact ⟨D, ⟨es, clock, by rw [e]; exact hb, r⟩, hD⟩
theorem Knows.lt {w : World} {b n : Nat} {K : List (List UInt8)} (h : Knows w b n K) : b < w.heap.size := by
  obtain ⟨D, h, _⟩ := h
  exact h.lt
theorem Knows.look {w : World} {b n : Nat} {K : List (List UInt8)} (h : Knows w b n K) {s : ByteArray} (hs : s.size ≤ maxLen) :
    (Instr.lookup 77 (.map (some b)) (.string s) false).run Tryd.prog w = .ok (.bool (decide (s.data.toList ∈ K))) w := by
  obtain ⟨D, ho, hD⟩ := h
  obtain ⟨v, ps, hrun, hv⟩ := ho.lookup strKeyed mapRow (zeroBool w) (plainElem_bool boolRow false) (keyOf_string_mk strRow hs)
  obtain ⟨x, rfl, hx⟩ := plainElem_bool_inv hv
  rw [hD] at hx
  simp only [Prod.mk.injEq, DataW.lit.injEq, Lit.bool.injEq] at hx
  rw [hrun, hx.1]
theorem Knows.put {w : World} {b n : Nat} {K : List (List UInt8)} (h : Knows w b n K) (hn : n < maxLen) {s : ByteArray} (hs : s.size ≤ maxLen) :
    ∃ w', (Instr.mapUpdate 77 (.map (some b)) (.string s) (.bool true)).run Tryd.prog w = .ok () w' ∧ Knows w' b (n + 1) (K ++ [s.data.toList]) ∧ w.grownBy w' (some b) := by
  obtain ⟨D, ho, hD⟩ := h
  obtain ⟨w', hrun, ho', hg⟩ := ho.update strKeyed mapRow hn (keyOf_string_mk strRow hs) (plainElem_bool boolRow true)
  refine ⟨w', hrun, ⟨_, ho', fun l => ?_⟩, hg⟩
  by_cases e : l = s.data.toList
  · subst e
    rw [atKey_put_same ho.isMap (by trivial)]
    simp
  · rw [atKey_put_other (by simpa using e), hD]
    simp [e]
theorem wpL_look {w : World} {ops : Array Oper} {rest : List Oper} {o : Oper} {a : Act} {Q : Exit → Act → World → Prop} (hgd : o.guard = none) (m x : Operand) (hop : o.op = Op.lookup 77 m x false)
    {b n : Nat} {K : List (List UInt8)} (hm : a.eval m = .map (some b)) (hk : Knows w b n K) (s : ByteArray) (hx : a.eval x = .string s) (hs : s.size ≤ maxLen)
    (h : wpList Tryd.prog ops Q rest (a.put o.dst (.bool (decide (s.data.toList ∈ K)))) w) : wpList Tryd.prog ops Q (o :: rest) a w := by
  refine wpList_plain hgd fun K' hK' => ?_
  unfold Oper.wp
  simp [execOp, hop, hm, hx, hk.look hs, Result.andThen]
  exact hK' _ _ h
theorem wpL_put {w : World} {ops : Array Oper} {rest : List Oper} {o : Oper} {a : Act} {Q : Exit → Act → World → Prop} (hgd : o.guard = none) (m x v : Operand) (hop : o.op = Op.mapUpdate 77 m x v)
    {b n : Nat} {K : List (List UInt8)} (hm : a.eval m = .map (some b)) (hk : Knows w b n K) (s : ByteArray) (hx : a.eval x = .string s) (hv : a.eval v = .bool true) (hs : s.size ≤ maxLen) (hn : n < maxLen)
    (h : ∀ w', Knows w' b (n + 1) (K ++ [s.data.toList]) → w.grownBy w' (some b) → wpList Tryd.prog ops Q rest (a.put o.dst undef) w') : wpList Tryd.prog ops Q (o :: rest) a w := by
  refine wpList_plain hgd fun K' hK' => ?_
  obtain ⟨w', hrun, r1, r2⟩ := hk.put hn hs
  unfold Oper.wp
  simp [execOp, hop, hm, hx, hv, hrun, Result.andThen]
  exact hK' _ _ (h w' r1 r2)
theorem wpL_ins {w : World} {ops : Array Oper} {rest : List Oper} {o : Oper} {a : Act} {Q : Exit → Act → World → Prop} (hgd : o.guard = none) (m x v : Operand) (hop : o.op = Op.insert 77 m x v)
    {b n : Nat} {K : List (List UInt8)} (hm : a.eval m = .map (some b)) (hk : Knows w b n K) (s : ByteArray) (hx : a.eval x = .string s) (hv : a.eval v = .bool true) (hs : s.size ≤ maxLen) (hn : n < maxLen)
    (h : ∀ w', Knows w' b (n + 1) (K ++ [s.data.toList]) → w.grownBy w' (some b) → wpList Tryd.prog ops Q rest (a.put o.dst undef) w') : wpList Tryd.prog ops Q (o :: rest) a w := by
  refine wpList_plain hgd fun K' hK' => ?_
  obtain ⟨w', hrun, r1, r2⟩ := hk.put hn hs
  unfold Oper.wp
  simp [execOp, hop, hm, hx, hv, hrun, Result.andThen]
  exact hK' _ _ (h w' r1 r2)
end Go.Proofs.YtiefiikheaiekaaDoor
