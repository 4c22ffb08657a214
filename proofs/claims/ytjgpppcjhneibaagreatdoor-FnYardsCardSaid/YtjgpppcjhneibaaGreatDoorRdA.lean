/-
  Parts of texts and numbers in decimal: the library's calls, and the reference's parts.
-/
import Derived.Test.YtjgpppcjhneibaaGreatDoorRdPlain
import Derived.Test.YtjgpppcjhneibaaGreatDoorJoinZ
namespace Go.Proofs.YtjgpppcjhneibaaGreatDoor
open Go.ChangeShapes Go.WideShapes Go.RowKit

theorem bs_self (x : ByteArray) : bs x.data.toList = x := by
  show (⟨x.data.toList.toArray⟩ : ByteArray) = x
  rw [Array.toArray_toList]
theorem bs_eq {x : ByteArray} {l : List UInt8} (h : x.data.toList = l) : x = bs l := by rw [← h, bs_self]
theorem size_data (x : ByteArray) : x.data.toList.length = x.size := by
  rw [Array.length_toList]
  rfl
theorem str_ne {a b : ByteArray} (h : a ≠ b) : (a.toList == b.toList) = false := by
  rw [beq_eq_false_iff_ne]
  intro e
  rw [Lib.toList_data, Lib.toList_data] at e
  exact h (by rw [← bs_self a, e, bs_self])
theorem splitB_bs (b : UInt8) (k : Nat) (s : ByteArray) : Lib.splitB { data := #[b] } 0 k s = (Lib.splitK [b] 0 k s.data.toList).map bs := by
  have h := Lib.splitB_data { data := #[b] } 0 k s
  change _ = Lib.splitK [b] 0 k s.data.toList at h
  rw [← h, List.map_map]
  conv => lhs; rw [← List.map_id (Lib.splitB { data := #[b] } 0 k s)]
  apply List.map_congr_left
  intro x _
  exact (bs_self x).symm
/-- the parts, as texts -/
def SP (b : UInt8) (s : ByteArray) : List ByteArray := (spl b s.data.toList).map bs
def SN (b : UInt8) (n : Nat) (s : ByteArray) : List ByteArray := (spN b n s.data.toList).map bs
theorem sp_len (b : UInt8) (s : ByteArray) : (SP b s).length ≤ s.size + 1 := by
  unfold SP
  rw [List.length_map, ← size_data]
  exact spl_len_le b _
theorem spN_lens (b : UInt8) : ∀ (k : Nat) (s : List UInt8), ∀ p ∈ Lib.splitK [b] 0 k s, p.length ≤ s.length := by
  intro k
  induction k with
  | zero => intro s p hp; simp [Lib.splitK] at hp; rw [hp]; exact Nat.le_refl _
  | succ k ih =>
    intro s p hp
    unfold Lib.splitK at hp
    split at hp
    · simp at hp; rw [hp]; exact Nat.le_refl _
    · rcases List.mem_cons.1 hp with rfl | hp
      · rw [List.length_take]; omega
      · have := ih _ p hp
        rw [List.length_drop] at this
        omega
theorem sn_size {b : UInt8} {n : Nat} {s p : ByteArray} (h : p ∈ SN b n s) : p.size ≤ s.size := by
  obtain ⟨q, hq, rfl⟩ := List.mem_map.1 h
  rw [bs_size, ← size_data]
  exact spN_lens b _ _ q hq
theorem sp_size {b : UInt8} {s p : ByteArray} (h : p ∈ SP b s) : p.size ≤ s.size := by
  obtain ⟨q, hq, rfl⟩ := List.mem_map.1 h
  have := splA_lens b _ _ q hq
  rw [bs_size, ← size_data]
  simpa using this
theorem cell_below {w w' : World} {p : Addr} {v : Value} (h : w.cell? p = some v) {B : Nat} (hb : Below B w w') (hB : w.heap.size ≤ B) : w'.cell? p = some v :=
  (hb.cell (Nat.lt_of_lt_of_le (World.block_lt_of_cell? _ _ h) hB)).trans h
theorem index_one (c : UInt8) : ∀ l : List UInt8, Lib.index l [c] = Lib.indexByte l c
  | [] => rfl
  | b :: l => by
    have e1 : List.isPrefixOf [c] (b :: l) = (b == c) := by
      by_cases h : b = c
      · subst h; simp [List.isPrefixOf]
      · have h1 : (b == c) = false := by simpa using h
        have h2 : (c == b) = false := by simpa using fun e => h (Eq.symm e)
        simp [List.isPrefixOf, h1, h2]
    show (if List.isPrefixOf [c] (b :: l) = true then (0 : Int) else if (Lib.index l [c] == -1) = true then -1 else Lib.index l [c] + 1) = if (b == c) = true then 0 else if (Lib.indexByte l c == -1) = true then -1 else Lib.indexByte l c + 1
    rw [e1, index_one c l]
theorem own_cellsOf (w : World) (T : TypeId) (P : List ByteArray) (N : Nat) (h : P.length ≤ N) (hN : N ≤ maxLen) : Own LS T (w.alloc (.cells (Lib.cellsOf P N) T)) w.heap.size (some ⟨w.heap.size, 0, none⟩) N P := by
  refine ⟨flat_len LS P, .inr ⟨w.heap.size, N, Lib.cellsOf P N, rfl, Nat.le_refl _, Array.getElem?_push_size, h, hN, ?_, ?_⟩⟩
  · rw [Lib.cellsOf_size h]
    show N = N * 1
    omega
  · show (Lib.cellsOf P N).toList.take (P.length * 1) = _
    rw [flat_str, Nat.mul_one]
    simp [Lib.cellsOf]
theorem genSplit_any (s : ByteArray) (b : UInt8) (n : Nat) (w : World) (hs : s.size ≤ 1048576) (h1 : 1 ≤ n) (h2 : n ≤ 1048580) :
    Calls Tryz.prog 40 #[.string s, .string { data := #[b] }, .int .i64 0, .int .i64 n] w fun e w' => ∃ A c, e = .returned (.slice A (SN b n s).length c) ∧ Own LS 9 w' w.heap.size A c (SN b n s) ∧ Below w.heap.size w w' := by
  have L := Tryz.lays147
  have h := Any.strings_genSplit_core (P := Tryz.prog) { L with } (by kernel_rfl) s { data := #[b] } 0 n (min n (s.size + 1)) w (by omega) (by show 1 ≤ 1; omega) (by omega)
    (fun x c _ => (Any.strings_Index_one { L with } x b _).mono fun e w' ⟨he, hw⟩ => ⟨by rw [he]; show _ = Ending.returned (Value.int .i64 (Lib.index x.data.toList [b])); rw [index_one], hw⟩)
    ((Any.strings_Count_one { L with } s b w).mono fun e w' ⟨he, hw⟩ => ⟨by rw [he]; show _ = Ending.returned (Value.int .i64 ((Lib.count s.data.toList [b] : Nat) : Int)); rw [Lib.count_one]; rfl, hw⟩)
    (by omega) (by omega) (by rw [if_neg (by omega)]; omega)
  rw [splitB_bs] at h
  have e : (Lib.splitK [b] 0 (min n (s.size + 1) - 1) s.data.toList).map bs = SN b n s := by
    unfold SN spN
    rw [size_data]
  rw [e] at h
  have hle : (SN b n s).length ≤ min n (s.size + 1) := by
    rw [← e, ← splitB_bs]
    have := Lib.splitB_length_le { data := #[b] } 0 (min n (s.size + 1) - 1) s
    omega
  change Calls Tryz.prog 40 _ _ _ at h
  refine h.mono ?_
  rintro e w' ⟨rfl, rfl⟩
  exact ⟨_, _, rfl, own_cellsOf w _ _ _ hle (by unfold maxLen; omega), (Below.refl _ w).alloc (Nat.le_refl _) _⟩
theorem splitN_any (s : ByteArray) (b : UInt8) (n : Nat) (w : World) (hs : s.size ≤ 1048576) (h1 : 1 ≤ n) (h2 : n ≤ 1048580) :
    Calls Tryz.prog 22 #[.string s, .string { data := #[b] }, .int .i64 n] w fun e w' => ∃ A c, e = .returned (.slice A (SN b n s).length c) ∧ Own LS 9 w' w.heap.size A c (SN b n s) ∧ Below w.heap.size w w' := by
  have hc := genSplit_any s b n w hs h1 h2
  generalize SN b n s = L at *
  go_enter Tryz.func22, Tryz.ntmps22
  go_wp2_with fail
  refine hc.mono ?_
  rintro e w1 ⟨A, c, rfl, ho, hb⟩
  have HO := Lib.hid ho
  have HB := Lib.hid hb
  clear ho hb
  go_wp2_with fail
  go_ret
  exact ⟨A, c, rfl, HO.out, HB.out⟩
theorem trim_any (s : ByteArray) (w : World) :
    Calls Tryz.prog 56 #[.string s, .string { data := #[45] }] w fun e w' => e = .returned (.string (bs (trm s.data.toList))) ∧ w = w' :=
  (Any.strings_TrimPrefix Tryz.lays101 s { data := #[45] } w).mono fun _ _ ⟨h1, h2⟩ => ⟨h1, h2.symm⟩
theorem take_snoc {s : ByteArray} {k : Nat} (h : k < s.size) : s.data.toList.drop k = s[k] :: s.data.toList.drop (k + 1) := by
  rw [List.drop_eq_getElem_cons (by rw [size_data]; exact h)]
  rfl
theorem piece_snoc {l : List UInt8} {f k : Nat} (hf : f ≤ k) (hk : k < l.length) : (l.drop f).take (k - f) ++ [l[k]] = (l.drop f).take (k + 1 - f) := by
  rw [show k + 1 - f = (k - f) + 1 by omega, List.take_succ_eq_append_getElem (by rw [List.length_drop]; omega)]
  congr 2
  rw [List.getElem_drop]
  congr 1
  omega
theorem extract_bs (s : ByteArray) (f k : Nat) (hf : f ≤ k) (hk : k ≤ s.size) : s.extract f k = bs ((s.data.toList.drop f).take (k - f)) := by
  refine bs_eq ?_
  rw [Lib.extract_data]
set_option maxRecDepth 100000 in
set_option maxHeartbeats 1600000 in
theorem l01Split_any (s : ByteArray) (b : UInt8) (w : World) (hs : s.size ≤ 1048576) :
    Calls Tryz.prog 19 #[.string s, .int .u8 b.toNat] w fun e w' => ∃ A c, e = .returned (.slice A (SP b s).length c) ∧ Own LS 9 w' w.heap.size A c (SP b s) ∧ Below w.heap.size w w' := by
  obtain ⟨FIN, hF⟩ : ∃ F, F = SP b s := ⟨_, rfl⟩
  rw [← hF]
  have HF := Lib.hid hF
  clear hF
  go_enter Tryz.func19, Tryz.ntmps19
  go_wp2_with fail
  go_loopw [5, 6, 7] (fun o f i wr => ∃ (k f0 : Nat) (A1 : Option Addr) (c1 : Nat) (D : List ByteArray), k ≤ s.size ∧ f0 ≤ k ∧ i = .int .i64 k ∧ f = .int .i64 f0 ∧ o = .slice A1 D.length c1 ∧ D.length ≤ f0 ∧ Hid (FIN = D ++ (splA b ((s.data.toList.drop f0).take (k - f0)) (s.data.toList.drop k)).map bs) ∧ Hid (Own LS 9 wr w.heap.size A1 c1 D) ∧ Hid (Below w.heap.size w wr)) (fun _ _ i _ => s.size - (intOf i).toNat)
  case atStart => exact ⟨0, 0, _, _, [], by omega, by omega, rfl, rfl, rfl, by simp, Lib.hid (by rw [HF.out]; unfold SP spl; simp), Lib.hid (Own.lit0 w (Nat.le_refl _) rfl), Lib.hid ((Below.refl _ _).alloc (Nat.le_refl _) _)⟩
  case round =>
    obtain ⟨k, f0, A1, c1, D, hk, hf, rfl, rfl, rfl, hD, HX, HO, HB⟩ := hrel
    have hsz := HB.out.size
    by_cases hlt : k < s.size
    · have hkl : k < s.data.toList.length := by rw [size_data]; exact hlt
      have hki : (k : Int) < s.size := by omega
      have hks : s.data.toList[k] = s[k] := rfl
      by_cases hc : s[k] = b
      · have z1 : ((s[k].toNat : Int) == (b.toNat : Int)) = true := by rw [hc]; simp
        have z2 : (s[k].toNat == b.toNat) = true := by rw [hc]; simp
        obtain ⟨pc, hpc⟩ : ∃ pc, pc = s.extract f0 k := ⟨_, rfl⟩
        have HX2 : Hid (FIN = (D ++ [pc]) ++ (splA b ((s.data.toList.drop (k + 1)).take (k + 1 - (k + 1))) (s.data.toList.drop (k + 1))).map bs) := Lib.hid (by
          rw [HX.out, take_snoc hlt, splA_hit _ _ hc, hpc, extract_bs s f0 k hf (by omega)]
          simp)
        go_wp2_with (at_builtin; go_loud (refine wpL_app1 (L := LS) rowSt rfl rfl _ _ rfl rfl HO.out pc _ (by rw [hpc]; rfl) rfl (by simp) (by unfold maxLen; omega) (by omega) (by omega) ?_); intro A4 c4 w4 ho4 hg4)
        go_roundw
        case rel => exact ⟨k + 1, k + 1, A4, c4, D ++ [pc], by omega, by omega, by go_num, by go_num, by simp, by simp; omega, HX2, Lib.hid ho4, Lib.hid (Grew.below HB.out hg4 hsz fun g' hg' => (HO.out.blk_lt g' hg').1)⟩
        case measure => simp [intOf]; omega
      · have hne : s[k].toNat ≠ b.toNat := fun e => hc (UInt8.toNat_inj.1 e)
        have z1 : ((s[k].toNat : Int) == (b.toNat : Int)) = false := by rw [beq_eq_false_iff_ne]; omega
        have z2 : (s[k].toNat == b.toNat) = false := by rw [beq_eq_false_iff_ne]; exact hne
        have HX2 : Hid (FIN = D ++ (splA b ((s.data.toList.drop f0).take (k + 1 - f0)) (s.data.toList.drop (k + 1))).map bs) := Lib.hid (by
          rw [HX.out, take_snoc hlt, splA_miss _ _ hc, ← hks, piece_snoc hf hkl])
        clear hc hne
        go_wp2_with fail
        go_roundw
        case rel => exact ⟨k + 1, f0, A1, c1, D, by omega, by omega, by go_num, rfl, rfl, hD, HX2, HO, HB⟩
        case measure => simp [intOf]; omega
    · obtain rfl : k = s.size := by omega
      obtain ⟨pc, hpc⟩ : ∃ pc, pc = s.extract f0 s.size := ⟨_, rfl⟩
      have HR : Hid (FIN = D ++ [pc]) := Lib.hid (by
        have hd : s.data.toList.drop s.size = [] := List.drop_of_length_le (by rw [size_data]; exact Nat.le_refl _)
        rw [HX.out, hpc, extract_bs s f0 s.size hf (Nat.le_refl _), hd, splA_nil]
        rfl)
      go_wp2_with (at_builtin; go_loud (refine wpL_app1 (L := LS) rowSt rfl rfl _ _ rfl rfl HO.out pc _ (by rw [hpc]; rfl) rfl (by simp) (by unfold maxLen; omega) (by omega) (by omega) ?_); intro A4 c4 w4 ho4 hg4)
      go_ret
      exact ⟨A4, c4, by rw [HR.out]; simp, by rw [HR.out]; exact ho4, Grew.below HB.out hg4 hsz fun g' hg' => (HO.out.blk_lt g' hg').1⟩
end Go.Proofs.YtjgpppcjhneibaaGreatDoor
