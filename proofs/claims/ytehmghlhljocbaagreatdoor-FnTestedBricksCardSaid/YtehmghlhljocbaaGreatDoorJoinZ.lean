/-
  strings.Join and numbersText over the call's own texts.
-/
import Derived.Test.YtehmghlhljocbaaGreatDoorTabZ
import Derived.Test.YtehmghlhljocbaaGreatDoorSteps
import Derived.Lib.Join
namespace Go.Proofs.YtehmghlhljocbaaGreatDoor
open Go.ChangeShapes Go.WideShapes Go.RowKit

theorem rowSt : TyRow Tryz.prog 73 9 (.string ByteArray.empty) LS.sz 16 := ⟨Tryz.underlying73, by kernel_rfl⟩
def bs (l : List UInt8) : ByteArray := ⟨l.toArray⟩
theorem bs_app (a b : List UInt8) : bs a ++ bs b = bs (a ++ b) := ByteArray.mk_append_mk a b
theorem bs_size (l : List UInt8) : (bs l).size = l.length := by simp [bs, ByteArray.size]
theorem bs_data (l : List UInt8) : (bs l).data.toList = l := by simp [bs]
theorem decS_bs (n : Int) : decS n = bs (Lib.itoa n) := rfl
/-- joined -/
def jn (sep : List UInt8) (ls : List (List UInt8)) : List UInt8 := Lib.join ls sep
theorem jn_nil (sep : List UInt8) : jn sep [] = [] := rfl
theorem jn_snoc (sep : List UInt8) (ls : List (List UInt8)) (x : List UInt8) : jn sep (ls ++ [x]) = if ls = [] then x else jn sep ls ++ sep ++ x := by
  unfold jn
  cases ls with
  | nil => simp [Lib.join_one]
  | cons y r =>
    rw [if_neg (by simp), List.cons_append, Lib.join_cons, Lib.join_cons]
    simp [Lib.joinTail, List.append_assoc]
theorem lens_le (ls : List (List UInt8)) (M : Nat) (h : ∀ l ∈ ls, l.length ≤ M) : Lib.lens ls ≤ ls.length * M := by
  induction ls with
  | nil => simp [Lib.lens]
  | cons x ls ih =>
    have h1 := ih fun l hl => h l (List.mem_cons_of_mem _ hl)
    have h2 := h x List.mem_cons_self
    unfold Lib.lens at h1 ⊢
    rw [List.map_cons, List.sum_cons, List.length_cons, Nat.add_mul]
    omega
theorem jn_len (sep : List UInt8) (ls : List (List UInt8)) (M : Nat) (h : ∀ l ∈ ls, l.length ≤ M) : (jn sep ls).length ≤ ls.length * (M + sep.length) := by
  unfold jn
  cases ls with
  | nil => simp [Lib.join_nil]
  | cons x r =>
    have h1 := lens_le r M fun l hl => h l (List.mem_cons_of_mem _ hl)
    have h2 := h x List.mem_cons_self
    rw [Lib.join_cons, List.length_append, Lib.joinTail_length, List.length_cons, Nat.add_mul, Nat.mul_add, Nat.mul_comm sep.length]
    omega
theorem join_any (A : Option Addr) (c : Nat) (L : List ByteArray) (sep : ByteArray) (base : Nat) (w : World) (h : Own LS 9 w base A c L) (hN : L.length ≤ 1000000) (hl : (jn sep.data.toList (L.map (·.data.toList))).length ≤ 140737488355328) :
    Calls Tryz.prog 54 #[.slice A L.length c, .string sep] w fun e w' => e = .returned (.string (bs (jn sep.data.toList (L.map (·.data.toList))))) ∧ Below w.heap.size w w' := by
  by_cases h0 : L.length = 0
  · obtain rfl : L = [] := List.length_eq_zero_iff.1 h0
    have := Any.strings_Join_none Tryz.lays156 Tryz.Builder_Extra_156 A c sep w
    change Calls Tryz.prog 54 _ _ _ at this
    refine this.mono ?_
    rintro e w' ⟨rfl, rfl⟩
    exact ⟨rfl, Below.refl _ _⟩
  · obtain ⟨g, rfl, hg1, hg2⟩ := h.ptr (by omega)
    have := Any.strings_Join Tryz.lays156 Tryz.Builder_Extra_156 g 0 c L sep w (fun j x hx => by
      have hj : j < L.length := (List.getElem?_eq_some_iff.1 hx).1
      obtain ⟨ad, e, _, hc⟩ := h.rd.str hj
      cases e
      rw [add_lit] at hc
      rw [Nat.zero_add, hc]
      rw [List.getElem?_eq_getElem hj] at hx
      rw [Option.some.inj hx]) hg2 (by omega) h.le hl
    change Calls Tryz.prog 54 _ _ _ at this
    exact this

theorem itoa_len {n : Int} (h0 : 0 ≤ n) (h1 : n ≤ 9223372036854775807) : (Lib.itoa n).length ≤ 21 := Lib.itoa_length_le n (by omega) h1
theorem map_dec (xs : List Int) : (xs.map decS).map (·.data.toList) = xs.map Lib.itoa := by
  rw [List.map_map]
  apply List.map_congr_left
  intro x _
  simp [decS]
/-- numbers in decimal, joined -/
def ntL (sep : List UInt8) (xs : List Int) : List UInt8 := jn sep (xs.map Lib.itoa)
theorem ntL_len (sep : List UInt8) (xs : List Int) (h : ∀ x ∈ xs, 0 ≤ x ∧ x ≤ 9223372036854775807) : (ntL sep xs).length ≤ xs.length * (21 + sep.length) := by
  have := jn_len sep (xs.map Lib.itoa) 21 (fun l hl => by
    obtain ⟨x, hx, rfl⟩ := List.mem_map.1 hl
    exact itoa_len (h x hx).1 (h x hx).2)
  rw [List.length_map] at this
  exact this
end Go.Proofs.YtehmghlhljocbaaGreatDoor
