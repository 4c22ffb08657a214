/-
  Numbers in decimal: the program's by the library, the reference's by its loop.
-/
import Derived.Test.YtiefiikheaiekaaDoorRows
import Derived.Test.YtiefiikheaiekaaDoorShelfZ
import Derived.Test.YtiefiikheaiekaaDoorClone
import Derived.Test.YtiefiikheaiekaaDoorBytes8
import Derived.Test.YtiefiikheaiekaaDoorNum
import Derived.Laws.BytesArg
import Derived.Lib.ItoaLen
namespace Go.Proofs.YtiefiikheaiekaaDoor
open Go.ChangeShapes Go.WideShapes Go.RowKit

theorem rowU : TyRow Tryd.prog 38 5 (.int .u8 0) LU.sz 1 := ⟨Tryd.underlying38, by kernel_rfl⟩
/-- a number in decimal -/
def decS (n : Int) : ByteArray := ⟨(Lib.itoa n).toArray⟩
def dcN (u : Nat) : List Int := (Lib.decDigits u).map fun b => (b.toNat : Int)
theorem dcN_small {u : Nat} (h : u < 10) : dcN u = [48 + (u : Int)] := by
  unfold dcN
  rw [Lib.decDigits_one h]
  simp
  omega
theorem dcN_big {u : Nat} (h : ¬ u < 10) : dcN u = dcN (u / 10) ++ [48 + ((u % 10 : Nat) : Int)] := by
  unfold dcN
  rw [Lib.decDigits, dif_neg h, List.map_append]
  congr 1
  simp
  omega
theorem dcN_len (u : Nat) (h : u < 18446744073709551616) : (dcN u).length ≤ 20 := by
  unfold dcN
  rw [List.length_map, Lib.decDigits_length]
  exact Lib.nDigits_le20 u h
theorem dcN_str {u : Nat} : strOfNums (dcN u) = decS (u : Int) := by
  unfold strOfNums decS dcN Lib.itoa
  rw [if_neg (by omega), Int.toNat_natCast, List.map_map]
  congr 2
  conv => rhs; rw [← List.map_id (Lib.decDigits u)]
  apply List.map_congr_left
  intro b _
  simp
/-- what is left of the digits -/
def dcK (k : Nat) : List Int := if k = 0 then [] else dcN k
theorem dcK_step {k : Nat} (h : k ≠ 0) : dcK k = dcK (k / 10) ++ [48 + ((k % 10 : Nat) : Int)] := by
  unfold dcK
  rw [if_neg h]
  by_cases h1 : k < 10
  · rw [if_pos (by omega), dcN_small h1, List.nil_append]
    congr 2
    omega
  · rw [if_neg (by omega), dcN_big h1]
theorem below_growL {B : Nat} {w0 w : World} (h : Below B w0 w) (hB : B ≤ w.heap.size) (os : Array Obj) : Below B w0 (Sort.grow w os) := by
  refine ⟨h.os, h.tape, h.output, ?_, fun k hk => ?_⟩
  · have := h.size
    simp [Sort.grow]
    omega
  · rw [← h.block k hk]
    simp only [Sort.grow]
    rw [Array.getElem?_append_left (by omega)]

/-- a small number: nothing turns -/
theorem decSmall_any (n : Int) (h0 : 0 ≤ n) (h1 : n < 100) (w : World) : Calls Tryd.prog 77 #[.int .i64 n] w fun e w' => e = .returned (.string (decS n)) ∧ w = w' := by
  obtain ⟨i, rfl⟩ : ∃ i : Nat, n = (i : Int) := ⟨n.toNat, by omega⟩
  have hc := fun W : World => Any.strconv_FormatInt_10_small Tryd.lays173 i (by omega) W
  have HE : Hid (decS (i : Int) = ⟨(Lib.decDigits i).toArray⟩) := Lib.hid (by unfold decS Lib.itoa; rw [if_neg (by omega), Int.toNat_natCast])
  change ∀ W : World, Calls Tryd.prog 92 #[.int .i64 i, .int .i64 10] W _ at hc
  rw [HE.out]
  generalize (⟨(Lib.decDigits i).toArray⟩ : ByteArray) = s at *
  have HC := Lib.hid hc
  clear hc
  go_enter Tryd.func77, Tryd.ntmps77
  go_wp2_with fail
  refine (HC.out _).mono ?_
  rintro e w1 ⟨rfl, rfl⟩
  go_wp2_with fail
  go_ret
  exact ⟨rfl, rfl⟩
/-- the table of the library lies there -/
def powN : String := Rows.fnExactFewestMovesRow.named.headD default
def TabW (w : World) : Prop := Lib.TabIs Tryd.prog w powN .u64 Lib.pow10Tab
theorem dec_any (n : Int) (h0 : 0 ≤ n) (h1 : n ≤ 9223372036854775807) (w : World) (ht : TabW w) : Calls Tryd.prog 77 #[.int .i64 n] w fun e w' => e = .returned (.string (decS n)) ∧ Below w.heap.size w w' := by
  have hc := Any.strconv_FormatInt_10 Tryd.laysM173 n (by omega) (by omega) w ht
  change Calls Tryd.prog 92 #[.int .i64 n, .int .i64 10] w (fun e w' => e = .returned (.string (decS n)) ∧ ∃ k os, w' = Sort.grow (w.drewN k) os) at hc
  generalize decS n = s at *
  go_enter Tryd.func77, Tryd.ntmps77
  go_wp2_with fail
  refine hc.mono ?_
  rintro e w1 ⟨rfl, k, os, rfl⟩
  have HB : Hid (Below w.heap.size w (Sort.grow (w.drewN k) os)) := Lib.hid (below_growL (below_drewN (Below.refl _ w) k) (Nat.le_refl _) os)
  generalize Sort.grow (w.drewN k) os = w2 at *
  go_wp2_with fail
  go_ret
  exact ⟨rfl, HB.out⟩

end Go.Proofs.YtiefiikheaiekaaDoor
