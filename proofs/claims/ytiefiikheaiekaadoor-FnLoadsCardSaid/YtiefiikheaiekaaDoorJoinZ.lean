/-
  strings.Join and numbersText over the call's own texts.
-/
import Derived.Test.YtiefiikheaiekaaDoorRows
import Derived.Test.YtiefiikheaiekaaDoorShelfZ
import Derived.Test.YtiefiikheaiekaaDoorClone
import Derived.Test.YtiefiikheaiekaaDoorBytes8
import Derived.Test.YtiefiikheaiekaaDoorNum
import Derived.Laws.BytesArg
import Derived.Lib.ItoaLen
import Derived.Lib.SmallJoins
import Derived.Lib.LaidTab
import Derived.Stop.LaidErr
import Derived.Test.YtiefiikheaiekaaDoorSteps
import Derived.Lib.Join
/-
  Numbers in decimal: the program's by the library, the reference's by its loop.
-/
namespace Go.Proofs.YtiefiikheaiekaaDoor
open Go.ChangeShapes Go.WideShapes Go.RowKit

theorem rowU : TyRow Tryd.prog 38 5 (.int .u8 0) LU.sz 1 := ⟨Tryd.underlying38, by kernel_rfl⟩
/-- a number in decimal -/
def decS (n : Int) : ByteArray := ⟨(Lib.itoa n).toArray⟩
def dcN (u : Nat) : List Int := (Lib.decDigits u).map fun b => (b.toNat : Int)
theorem dcN_small {u : Nat} (h : u < 10) : dcN u = [48 + (u : Int)] := by
  unfold dcN
  rw [Lib.decDigits_one h]
  simp
  omega
theorem dcN_big {u : Nat} (h : ¬ u < 10) : dcN u = dcN (u / 10) ++ [48 + ((u % 10 : Nat) : Int)] := by
  unfold dcN
  rw [Lib.decDigits, dif_neg h, List.map_append]
  congr 1
  simp
  omega
theorem dcN_len (u : Nat) (h : u < 18446744073709551616) : (dcN u).length ≤ 20 := by
  unfold dcN
  rw [List.length_map, Lib.decDigits_length]
  exact Lib.nDigits_le20 u h
theorem dcN_str {u : Nat} : strOfNums (dcN u) = decS (u : Int) := by
  unfold strOfNums decS dcN Lib.itoa
  rw [if_neg (by omega), Int.toNat_natCast, List.map_map]
  congr 2
  conv => rhs; rw [← List.map_id (Lib.decDigits u)]
  apply List.map_congr_left
  intro b _
  simp
/-- what is left of the digits -/
def dcK (k : Nat) : List Int := if k = 0 then [] else dcN k
theorem dcK_step {k : Nat} (h : k ≠ 0) : dcK k = dcK (k / 10) ++ [48 + ((k % 10 : Nat) : Int)] := by
  unfold dcK
  rw [if_neg h]
  by_cases h1 : k < 10
  · rw [if_pos (by omega), dcN_small h1, List.nil_append]
    congr 2
    omega
  · rw [if_neg (by omega), dcN_big h1]
theorem below_growL {B : Nat} {w0 w : World} (h : Below B w0 w) (hB : B ≤ w.heap.size) (os : Array Obj) : Below B w0 (Sort.grow w os) := by
  refine ⟨h.os, h.tape, h.output, ?_, fun k hk => ?_⟩
  · have := h.size
    simp [Sort.grow]
    omega
  · rw [← h.block k hk]
    simp only [Sort.grow]
    rw [Array.getElem?_append_left (by omega)]

/-- a small number: nothing turns -/
theorem decSmall_any (n : Int) (h0 : 0 ≤ n) (h1 : n < 100) (w : World) : Calls Tryd.prog 77 #[.int .i64 n] w fun e w' => e = .returned (.string (decS n)) ∧ w = w' := by
  obtain ⟨i, rfl⟩ : ∃ i : Nat, n = (i : Int) := ⟨n.toNat, by omega⟩
  have hc := fun W : World => Any.strconv_FormatInt_10_small Tryd.lays173 i (by omega) W
  have HE : Hid (decS (i : Int) = ⟨(Lib.decDigits i).toArray⟩) := Lib.hid (by unfold decS Lib.itoa; rw [if_neg (by omega), Int.toNat_natCast])
  change ∀ W : World, Calls Tryd.prog 92 #[.int .i64 i, .int .i64 10] W _ at hc
  rw [HE.out]
  generalize (⟨(Lib.decDigits i).toArray⟩ : ByteArray) = s at *
  have HC := Lib.hid hc
  clear hc
  go_enter Tryd.func77, Tryd.ntmps77
  go_wp2_with fail
  refine (HC.out _).mono ?_
  rintro e w1 ⟨rfl, rfl⟩
  go_wp2_with fail
  go_ret
  exact ⟨rfl, rfl⟩
/-- the table of the library lies there -/
def powN : String := Rows.fnExactFewestMovesRow.named.headD default
def TabW (w : World) : Prop := Lib.TabIs Tryd.prog w powN .u64 Lib.pow10Tab
theorem dec_any (n : Int) (h0 : 0 ≤ n) (h1 : n ≤ 9223372036854775807) (w : World) (ht : TabW w) : Calls Tryd.prog 77 #[.int .i64 n] w fun e w' => e = .returned (.string (decS n)) ∧ Below w.heap.size w w' := by
  have hc := Any.strconv_FormatInt_10 Tryd.laysM173 n (by omega) (by omega) w ht
  change Calls Tryd.prog 92 #[.int .i64 n, .int .i64 10] w (fun e w' => e = .returned (.string (decS n)) ∧ ∃ k os, w' = Sort.grow (w.drewN k) os) at hc
  generalize decS n = s at *
  go_enter Tryd.func77, Tryd.ntmps77
  go_wp2_with fail
  refine hc.mono ?_
  rintro e w1 ⟨rfl, k, os, rfl⟩
  have HB : Hid (Below w.heap.size w (Sort.grow (w.drewN k) os)) := Lib.hid (below_growL (below_drewN (Below.refl _ w) k) (Nat.le_refl _) os)
  generalize Sort.grow (w.drewN k) os = w2 at *
  go_wp2_with fail
  go_ret
  exact ⟨rfl, HB.out⟩

end Go.Proofs.YtiefiikheaiekaaDoor
/-
  The library's table of powers of ten: it lies there, and stays.
-/
namespace Go.Proofs.YtiefiikheaiekaaDoor
open Go.ChangeShapes Go.WideShapes Go.RowKit

theorem tab_below {w w' : World} (h : TabW w) {B : Nat} (hb : Below B w w') (hB : w.heap.size ≤ B) : TabW w' := Go.Joins.tab_stays (g := 1) (by kernel_rfl) h hb hB
theorem tab_of {W : World} (h : laidMet Tryd.prog Rows.fnExactFewestMovesRow.laid W) : TabW W := by
  have h2 : laidMet Tryd.prog [(powN, Lib.tabData .u64 Lib.pow10Tab)] W := laidMet.tail (laidMet.tail h)
  exact Lib.tabIs_of_head (g := 1) (t := 138) (e := 79) (n := 20) (by kernel_rfl) (by kernel_rfl) Tryd.underlying138 Tryd.underlying79 (by kernel_rfl) (by kernel_rfl) h2
theorem tab_al {w : World} (h : TabW w) (o : Obj) : TabW (w.alloc o) := tab_below h ((Below.refl _ w).alloc (Nat.le_refl _) o) (Nat.le_refl _)
theorem tab_drew {w : World} (h : TabW w) : TabW w.drew := h
end Go.Proofs.YtiefiikheaiekaaDoor
/-
  strings.Join and numbersText over the call's own texts.
-/
namespace Go.Proofs.YtiefiikheaiekaaDoor
open Go.ChangeShapes Go.WideShapes Go.RowKit

theorem rowSt : TyRow Tryd.prog 90 9 (.string ByteArray.empty) LS.sz 16 := ⟨Tryd.underlying90, by kernel_rfl⟩
def bs (l : List UInt8) : ByteArray := ⟨l.toArray⟩
theorem bs_app (a b : List UInt8) : bs a ++ bs b = bs (a ++ b) := ByteArray.mk_append_mk a b
theorem bs_size (l : List UInt8) : (bs l).size = l.length := by simp [bs, ByteArray.size]
theorem bs_data (l : List UInt8) : (bs l).data.toList = l := by simp [bs]
theorem decS_bs (n : Int) : decS n = bs (Lib.itoa n) := rfl
/-- joined -/
def jn (sep : List UInt8) (ls : List (List UInt8)) : List UInt8 := Lib.join ls sep
theorem jn_nil (sep : List UInt8) : jn sep [] = [] := rfl
theorem jn_snoc (sep : List UInt8) (ls : List (List UInt8)) (x : List UInt8) : jn sep (ls ++ [x]) = if ls = [] then x else jn sep ls ++ sep ++ x := by
  unfold jn
  cases ls with
  | nil => simp [Lib.join_one]
  | cons y r =>
    rw [if_neg (by simp), List.cons_append, Lib.join_cons, Lib.join_cons]
    simp [Lib.joinTail, List.append_assoc]
theorem lens_le (ls : List (List UInt8)) (M : Nat) (h : ∀ l ∈ ls, l.length ≤ M) : Lib.lens ls ≤ ls.length * M := by
  induction ls with
  | nil => simp [Lib.lens]
  | cons x ls ih =>
    have h1 := ih fun l hl => h l (List.mem_cons_of_mem _ hl)
    have h2 := h x List.mem_cons_self
    unfold Lib.lens at h1 ⊢
    rw [List.map_cons, List.sum_cons, List.length_cons, Nat.add_mul]
    omega
theorem jn_len (sep : List UInt8) (ls : List (List UInt8)) (M : Nat) (h : ∀ l ∈ ls, l.length ≤ M) : (jn sep ls).length ≤ ls.length * (M + sep.length) := by
  unfold jn
  cases ls with
  | nil => simp [Lib.join_nil]
  | cons x r =>
    have h1 := lens_le r M fun l hl => h l (List.mem_cons_of_mem _ hl)
    have h2 := h x List.mem_cons_self
    rw [Lib.join_cons, List.length_append, Lib.joinTail_length, List.length_cons, Nat.add_mul, Nat.mul_add, Nat.mul_comm sep.length]
    omega
theorem join_any (A : Option Addr) (c : Nat) (L : List ByteArray) (sep : ByteArray) (base : Nat) (w : World) (h : Own LS 9 w base A c L) (hN : L.length ≤ 1000000) (hl : (jn sep.data.toList (L.map (·.data.toList))).length ≤ 140737488355328) :
    Calls Tryd.prog 72 #[.slice A L.length c, .string sep] w fun e w' => e = .returned (.string (bs (jn sep.data.toList (L.map (·.data.toList))))) ∧ Below w.heap.size w w' := by
  by_cases h0 : L.length = 0
  · obtain rfl : L = [] := List.length_eq_zero_iff.1 h0
    have := Any.strings_Join_none Tryd.lays156 Tryd.Builder_Extra_156 A c sep w
    change Calls Tryd.prog 72 _ _ _ at this
    refine this.mono ?_
    rintro e w' ⟨rfl, rfl⟩
    exact ⟨rfl, Below.refl _ _⟩
  · obtain ⟨g, rfl, hg1, hg2⟩ := h.ptr (by omega)
    have := Any.strings_Join Tryd.lays156 Tryd.Builder_Extra_156 g 0 c L sep w (fun j x hx => by
      have hj : j < L.length := (List.getElem?_eq_some_iff.1 hx).1
      obtain ⟨ad, e, _, hc⟩ := h.rd.str hj
      cases e
      rw [add_lit] at hc
      rw [Nat.zero_add, hc]
      rw [List.getElem?_eq_getElem hj] at hx
      rw [Option.some.inj hx]) hg2 (by omega) h.le hl
    change Calls Tryd.prog 72 _ _ _ at this
    exact this

theorem itoa_len {n : Int} (h0 : 0 ≤ n) (h1 : n ≤ 9223372036854775807) : (Lib.itoa n).length ≤ 21 := Lib.itoa_length_le n (by omega) h1
theorem map_dec (xs : List Int) : (xs.map decS).map (·.data.toList) = xs.map Lib.itoa := by
  rw [List.map_map]
  apply List.map_congr_left
  intro x _
  simp [decS]
/-- numbers in decimal, joined -/
def ntL (sep : List UInt8) (xs : List Int) : List UInt8 := jn sep (xs.map Lib.itoa)
theorem ntL_len (sep : List UInt8) (xs : List Int) (h : ∀ x ∈ xs, 0 ≤ x ∧ x ≤ 9223372036854775807) : (ntL sep xs).length ≤ xs.length * (21 + sep.length) := by
  have := jn_len sep (xs.map Lib.itoa) 21 (fun l hl => by
    obtain ⟨x, hx, rfl⟩ := List.mem_map.1 hl
    exact itoa_len (h x hx).1 (h x hx).2)
  rw [List.length_map] at this
  exact this
set_option maxRecDepth 100000 in
set_option maxHeartbeats 1600000 in
theorem numbersText_any (sep : ByteArray) (A : Option Addr) (c : Nat) (xs : List Int) (w : World) (hr : Rd LI w w.heap.size A c xs) (hx : ∀ x ∈ xs, 0 ≤ x ∧ x ≤ 9223372036854775807) (hn : xs.length ≤ 1000000) (hs : sep.size ≤ 10) (ht : TabW w) :
    Calls Tryd.prog 71 #[.string sep, .slice A xs.length c] w fun e w' => e = .returned (.string (bs (ntL sep.data.toList xs))) ∧ Below w.heap.size w w' := by
  have hlen := hr.len63
  have HX := Lib.hid hx
  have HT := Lib.hid ht
  obtain ⟨FIN, hF⟩ : ∃ F, F = bs (ntL sep.data.toList xs) := ⟨_, rfl⟩
  rw [← hF]
  have HF := Lib.hid hF
  clear hx ht hF
  go_enter Tryd.func71, Tryd.ntmps71
  go_wp2_with fail
  go_loopw [5, 11] (fun o i wr => ∃ (k : Nat) (A1 : Option Addr) (c1 : Nat), k ≤ xs.length ∧ i = .int .i64 k ∧ o = .slice A1 ((xs.take k).map decS).length c1 ∧ Hid (Own LS 9 wr w.heap.size A1 c1 ((xs.take k).map decS)) ∧ Hid (Below w.heap.size w wr)) (fun _ i _ => xs.length - (intOf i).toNat)
  case atStart => exact ⟨0, _, _, by omega, rfl, rfl, Lib.hid (Own.lit0 w (Nat.le_refl _) rfl), Lib.hid ((Below.refl _ _).alloc (Nat.le_refl _) _)⟩
  case round =>
    obtain ⟨k, A1, c1, hk, rfl, rfl, HO, HB⟩ := hrel
    have hsz := HB.out.size
    by_cases hlt : k < xs.length
    · obtain ⟨ad, rfl, hab, hcell⟩ := (hr.below HB.out).int hlt
      have hki : (k : Int) < xs.length := by omega
      have hxk := HX.out _ (List.getElem_mem hlt)
      have HS : Hid ((xs.take (k + 1)).map decS = (xs.take k).map decS ++ [decS xs[k]]) := Lib.hid (by rw [List.take_succ_eq_append_getElem hlt, List.map_append]; rfl)
      have hd := dec_any xs[k] hxk.1 hxk.2 wr (tab_below HT.out HB.out (Nat.le_refl _))
      have hl1 : ((xs.take k).map decS).length ≤ 1000000 := by rw [List.length_map, List.length_take]; omega
      clear hxk
      generalize (xs.take k).map decS = L1 at *
      generalize decS xs[k] = ds at *
      generalize xs[k] = x at *
      go_wp2_with fail
      refine hd.mono ?_
      rintro e w2 ⟨rfl, hb2⟩
      have HB2 := Lib.hid (bthen HB.out (Nat.le_refl _) hb2)
      have HO2 := Lib.hid (HO.out.below hb2)
      have hs2 := HB2.out.size
      clear hb2 hd
      go_wp2_with (at_builtin; go_loud (refine wpL_app1 (L := LS) rowSt rfl rfl _ _ rfl rfl HO2.out ds _ rfl rfl (by simp) (by unfold maxLen; omega) (by omega) (by omega) ?_); intro A4 c4 w4 ho4 hg4)
      go_roundw
      case rel => exact ⟨k + 1, A4, c4, by omega, by go_num, by rw [HS.out]; simp, Lib.hid (by rw [HS.out]; exact ho4), Lib.hid (Grew.below HB2.out hg4 hs2 fun g' hg' => (HO2.out.blk_lt g' hg').1)⟩
      case measure => simp [intOf]; omega
    · obtain rfl : k = xs.length := by omega
      have ho := HO.out
      rw [List.take_of_length_le (Nat.le_refl _)] at ho
      rw [List.take_of_length_le (Nat.le_refl _)]
      have hj := join_any A1 c1 (xs.map decS) sep w.heap.size wr ho (by rw [List.length_map]; exact hn) (by
        rw [map_dec]
        have := ntL_len sep.data.toList xs HX.out
        have h2 : sep.data.toList.length ≤ 10 := by rw [Array.length_toList]; exact hs
        have h3 : xs.length * (21 + sep.data.toList.length) ≤ 1000000 * 31 := Nat.mul_le_mul hn (by omega)
        unfold ntL at this
        omega)
      rw [map_dec] at hj
      have HJ : Hid (bs (jn sep.data.toList (xs.map Lib.itoa)) = FIN) := Lib.hid (by rw [HF.out]; rfl)
      rw [HJ.out] at hj
      clear ho
      generalize (xs.map decS) = L1 at *
      go_wp2_with fail
      refine hj.mono ?_
      rintro e w2 ⟨rfl, hb2⟩
      have HB2 := Lib.hid (bthen HB.out (Nat.le_refl _) hb2)
      clear hb2 hj
      go_wp2_with fail
      go_ret
      exact ⟨rfl, HB2.out⟩
end Go.Proofs.YtiefiikheaiekaaDoor
