/-
  Draws of hands: a gang.
-/
import Derived.Test.YtofcmljnckdknaaDoorPayA
namespace Go.Proofs.YtofcmljnckdknaaDoor
open Go.ChangeShapes Go.WideShapes Go.RowKit

def NL : List ByteArray := [({ data := #[106, 111, 101] } : ByteArray), ({ data := #[110, 101, 100] } : ByteArray), ({ data := #[107, 97, 116, 101] } : ByteArray), ({ data := #[98, 105, 108, 108, 45, 50] } : ByteArray), ({ data := #[116, 111, 109] } : ByteArray), ({ data := #[97, 109, 121] } : ByteArray), ({ data := #[115, 97, 109] } : ByteArray)]
theorem NL_size {n : ByteArray} (h : n ∈ NL) : n.size ≤ 100 := by
  unfold NL at h
  simp only [List.mem_cons, List.not_mem_nil, or_false] at h
  rcases h with h | h | h | h | h | h | h <;> subst h <;> decide
def DrewHands (g : Nat) (A : Option Addr) (c : Nat) (cs : List Int) (m k : Nat) (w : World) (e : Ending) (w' : World) : Prop :=
  ∃ (B : Option Addr) (d : Nat) (xs : List HandD), e = .returned (.slice B xs.length d) ∧ xs.length ≤ k ∧ Own LHand 26 w' w.heap.size B d xs ∧ (∀ n ∈ xs, OkHand n) ∧ Sr w' g A c cs m ∧ Fs g w w'
set_option maxRecDepth 100000 in
set_option maxHeartbeats 1600000 in
theorem l23Draw_any (g : Nat) (A : Option Addr) (c : Nat) (cs : List Int) (m : Nat) (w : World) (h : Sr w g A c cs m) (hm : m ≤ 1000000) :
    Calls Tryd.prog 59 #[.pointer (some ⟨g, 0, none⟩)] w (DrewHands g A c cs (m + 40) 7 w) := by
  have hg := h.g1
  have hb0 : Below w.heap.size w ((w.alloc (.cells #[.string { data := #[106, 111, 101] }, .string { data := #[110, 101, 100] }, .string { data := #[107, 97, 116, 101] }, .string { data := #[98, 105, 108, 108, 45, 50] }, .string { data := #[116, 111, 109] }, .string { data := #[97, 109, 121] }, .string { data := #[115, 97, 109] }] 9)).alloc (.cells #[] 26)) := ((Below.refl _ w).alloc (Nat.le_refl _) _).alloc (by simp) _
  have hN0 : Own LS 9 (w.alloc (.cells #[.string { data := #[106, 111, 101] }, .string { data := #[110, 101, 100] }, .string { data := #[107, 97, 116, 101] }, .string { data := #[98, 105, 108, 108, 45, 50] }, .string { data := #[116, 111, 109] }, .string { data := #[97, 109, 121] }, .string { data := #[115, 97, 109] }] 9)) w.heap.size (some ⟨w.heap.size, 0, none⟩) 7 NL := Own.lit w (Nat.le_refl _) rfl NL _ _ rfl (by unfold maxLen; omega) rfl
  have hN1 : Own LS 9 ((w.alloc (.cells #[.string { data := #[106, 111, 101] }, .string { data := #[110, 101, 100] }, .string { data := #[107, 97, 116, 101] }, .string { data := #[98, 105, 108, 108, 45, 50] }, .string { data := #[116, 111, 109] }, .string { data := #[97, 109, 121] }, .string { data := #[115, 97, 109] }] 9)).alloc (.cells #[] 26)) w.heap.size (some ⟨w.heap.size, 0, none⟩) 7 NL := hN0.alloc _
  have hO0 : Own LHand 26 ((w.alloc (.cells #[.string { data := #[106, 111, 101] }, .string { data := #[110, 101, 100] }, .string { data := #[107, 97, 116, 101] }, .string { data := #[98, 105, 108, 108, 45, 50] }, .string { data := #[116, 111, 109] }, .string { data := #[97, 109, 121] }, .string { data := #[115, 97, 109] }] 9)).alloc (.cells #[] 26)) (w.heap.size + 1) (some ⟨w.heap.size + 1, 0, none⟩) 0 ([] : List HandD) := Own.lit0 _ (by simp) (by simp)
  have hc := pick_any 8 g A c cs m _ (h.belowB hb0 hg) (by omega) (by omega)
  clear h hN0
  go_enter Tryd.func59, Tryd.ntmps59
  go_wp2_with fail
  refine hc.mono ?_
  rintro e w1 ⟨x, rfl, x0, x1, hS, hF⟩
  obtain ⟨K, rfl⟩ : ∃ K : Nat, x = (K : Int) := ⟨x.toNat, by omega⟩
  have hK : K ≤ 7 := by omega
  have hs1 := hF.size
  simp at hs1
  have HN1 := Lib.hid (hF.own hN1 (by intro e; injection e with e; dsimp only at e; omega))
  have HO1 := Lib.hid (hF.own hO0 (by intro e; injection e with e; dsimp only at e; omega))
  have HF1 := Lib.hid ((Fs.of_below (g := g) hb0).trans hF)
  have HS1 := Lib.hid hS
  clear hc hS hF hN1 hO0 hb0
  go_wp2_with fail
  go_loopw [4, 5] (fun o i wr => ∃ (L : List HandD) (A1 : Option Addr) (c1 : Nat), L.length ≤ K ∧ i = .int .i64 ((K : Int) - L.length) ∧ o = .slice A1 L.length c1 ∧ Hid (∀ n ∈ L, OkHand n) ∧ Hid (Own LHand 26 wr (w.heap.size + 1) A1 c1 L) ∧ Hid (Own LS 9 wr w.heap.size (some ⟨w.heap.size, 0, none⟩) 7 NL) ∧ Hid (Sr wr g A c cs (m + 2 + 4 * L.length)) ∧ Hid (Fs g w wr)) (fun _ i _ => (intOf i).toNat)
  case atStart => exact ⟨[], _, _, by simp, by go_num, rfl, Lib.hid (fun n hn => by cases hn), HO1, HN1, HS1, HF1⟩
  case round =>
    obtain ⟨L, A1, c1, hj, rfl, rfl, HOK, HO, HN, HS, HF⟩ := hrel
    have hfs := HF.out.size
    by_cases hlt : L.length < K
    · have hki : (0 : Int) < (K : Int) - L.length := by omega
      have hl6 : L.length < 7 := by omega
      have hNL : NL.length = 7 := rfl
      obtain ⟨gn, hgn, _, hgl, hcell, _⟩ := HN.out.str (k := L.length) (by omega)
      cases hgn
      have HM := Lib.hid (NL_size (List.getElem_mem (l := NL) (n := L.length) (by omega)))
      obtain ⟨nm, hnm⟩ : ∃ nm, nm = NL[L.length]'(by omega) := ⟨_, rfl⟩
      rw [← hnm] at hcell HM
      clear hnm
      have hc2 := l23New_any nm g A c cs _ wr HS.out (by omega)
      have hll : (L.length : Int) < 7 := by omega
      have hnn := HO.out.blk_lt
      go_wp2_with fail
      refine hc2.mono ?_
      rintro e w2 ⟨sh, ly, rfl, s0, s1, hS, hF⟩
      have hs2 := hF.size
      have HO2 := Lib.hid (hF.own HO.out (fun e => by have := (hnn g e).1; omega))
      have HN2 := Lib.hid (hF.own HN.out (by intro e; injection e with e; dsimp only at e; omega))
      have HS2 := Lib.hid hS
      have HF2 := Lib.hid (HF.out.trans hF)
      have hOKn : OkHand (nm, sh, ly) := ⟨by have := HM.out; dsimp only; omega, by unfold I64; dsimp only; omega⟩
      have HOKn := Lib.hid hOKn
      clear hc2 hS hF hOKn
      go_wp2_with (at_builtin; go_loud (refine wpL_app1 (L := LHand) rowHand rfl rfl _ _ rfl rfl HO2.out (nm, sh, ly) _ rfl rfl (by simp) (by unfold maxLen; omega) (by omega) (by omega) ?_); intro A6 c6 w6 ho6 hg6)
      have hbw : Below w.heap.size w2 w6 := hg6.below' (by omega) (fun b e => by have := (hnn b e).1; omega)
      have HN6 := Lib.hid ((hg6.own HN2.out (fun b e => by injection e with e; dsimp only at e; subst e; intro e2; have := (hnn _ e2).1; omega)).1)
      have HS6 := Lib.hid (HS2.out.belowB hbw hg)
      have HF6 := Lib.hid (HF2.out.then_ hbw (Nat.le_refl _))
      have HO6 := Lib.hid ho6
      have HOK6 : Hid (∀ n ∈ L ++ [(nm, sh, ly)], OkHand n) := Lib.hid (fun n hn => by
        rcases List.mem_append.1 hn with h | h
        · exact HOK.out n h
        · simp at h; rw [h]; exact HOKn.out)
      clear ho6 hg6 hbw
      go_roundw
      case rel => exact ⟨L ++ [(nm, sh, ly)], A6, c6, by simp; omega, by go_num, by simp, HOK6, HO6, HN6, Lib.hid (HS6.out.more (by simp; omega)), HF6⟩
      case measure => simp [intOf]; omega
    · have hki : (K : Int) - L.length ≤ 0 := by omega
      have HO2 := Lib.hid (HO.out.lower (show w.heap.size ≤ w.heap.size + 1 by omega))
      have HS2 := Lib.hid (HS.out.more (show m + 2 + 4 * L.length ≤ m + 40 by omega))
      go_wp2_with fail
      go_ret
      exact ⟨_, _, L, rfl, by omega, HO2.out, HOK.out, HS2.out, HF.out⟩
end Go.Proofs.YtofcmljnckdknaaDoor
