/-
  Draws of hands: hands that are seldom no gang.
-/
import Derived.Test.YtofcmljnckdknaaDoorPayC
import Derived.Deep.CutRange
import Derived.Laws.IdiomStrings
namespace Go.Proofs.YtofcmljnckdknaaDoor
open Go.ChangeShapes Go.WideShapes Go.RowKit

def BentI (g : Nat) (A : Option Addr) (c : Nat) (cs : List Int) (m n : Nat) (w0 : World) (s : Value) (w : World) : Prop :=
  ∃ (B : Option Addr) (d : Nat) (xs : List HandD), s = .slice B xs.length d ∧ xs.length ≤ n ∧ Own LHand 26 w w0.heap.size B d xs ∧ (∀ n ∈ xs, OkHand n) ∧ Sr w g A c cs m ∧ Fs g w0 w
set_option maxRecDepth 100000 in
set_option maxHeartbeats 1600000 in
theorem l23Bent_any (g : Nat) (A : Option Addr) (c : Nat) (cs : List Int) (m : Nat) (w : World) (h : Sr w g A c cs m) (hm : m ≤ 100000) :
    Calls Tryd.prog 33 #[.pointer (some ⟨g, 0, none⟩)] w (DrewHands g A c cs (m + 200) 21 w) := by
  have hg := h.g1
  have hc := l23Draw_any g A c cs m w h (by omega)
  clear h
  go_enter Tryd.func33, Tryd.ntmps33
  go_wp2_with fail
  refine hc.mono ?_
  rintro e w1 ⟨B, d, xs, rfl, hl, ho, hok, hS, hF⟩
  have hs1 := hF.size
  have hc2 := one_any 24 g A c cs _ w1 hS (by omega) (by omega)
  have HO1 := Lib.hid ho
  have HOK1 := Lib.hid hok
  have HF1 := Lib.hid hF
  clear hc hS ho hok hF
  go_wp2_with fail
  refine hc2.mono ?_
  rintro e w2 ⟨q, rfl, hS, hF⟩
  have hs2 := hF.size
  have HO2 := Lib.hid (hF.own HO1.out (fun e => by have := (HO1.out.blk_lt g e).1; omega))
  have HF2 := Lib.hid (HF1.out.trans hF)
  have HS2 := Lib.hid hS
  clear hc2 hS hF HO1 HF1
  go_upto_if 8 with fail
  go_cut [3] from 8 to 28 (fun s wx => BentI g A c cs (m + 150) 21 w s wx)
  case first =>
    cases q
    · go_wp2_with fail
      go_meet
      case rel => exact ⟨B, d, xs, rfl, by omega, HO2.out, HOK1.out, HS2.out.more (by omega), HF2.out⟩
    · have hb2 : Below w.heap.size w2 (w2.alloc (.cells #[] 26)) := (Below.refl _ w2).alloc (by omega) _
      have hc3 := pick_any 2 g A c cs _ _ (HS2.out.belowB hb2 hg) (by omega) (by omega)
      have hO0 : Own LHand 26 (w2.alloc (.cells #[] 26)) w.heap.size (some ⟨w2.heap.size, 0, none⟩) 0 ([] : List HandD) := Own.lit0 _ (by omega) (by simp)
      go_wp2_with fail
      refine hc3.mono ?_
      rintro e w3 ⟨x, rfl, x0, x1, hS, hF⟩
      have hs3 := hF.size
      simp at hs3
      obtain ⟨K, hK⟩ : ∃ K : Nat, (K : Int) = 20 + x := ⟨(20 + x).toNat, by omega⟩
      have e1 : IntKind.i64.wrap (20 + x) = (K : Int) := by rw [hK]; exact wrapS (by omega) (by omega)
      have hK1 : K ≤ 21 := by omega
      have HO3 := Lib.hid (hF.own hO0 (by intro e; injection e with e; dsimp only at e; omega))
      have HF3 := Lib.hid ((HF2.out.then_ hb2 (Nat.le_refl _)).trans hF)
      have HS3 := Lib.hid hS
      clear hc3 hS hF hO0 hb2 HO2 HF2 HS2 HOK1
      go_wp2_with fail
      go_loopw [3, 4] (fun o i wr => ∃ (L : List HandD) (A1 : Option Addr) (c1 : Nat), L.length ≤ K ∧ i = .int .i64 ((K : Int) - L.length) ∧ o = .slice A1 L.length c1 ∧ Hid (∀ n ∈ L, OkHand n) ∧ Hid (Own LHand 26 wr w.heap.size A1 c1 L) ∧ Hid (Sr wr g A c cs (m + 50 + 4 * L.length)) ∧ Hid (Fs g w wr)) (fun _ i _ => (intOf i).toNat)
      case atStart => exact ⟨[], _, _, by simp, by go_num, rfl, Lib.hid (fun n hn => by cases hn), HO3, Lib.hid (HS3.out.more (by simp)), HF3⟩
      case round =>
        obtain ⟨L, A1, c1, hj, rfl, rfl, HOK, HO, HS, HF⟩ := hrel
        have hfs := HF.out.size
        by_cases hlt : L.length < K
        · have hki : (0 : Int) < (K : Int) - L.length := by omega
          have hl6 : L.length < 21 := by omega
          obtain ⟨s1, hs1'⟩ : ∃ s1, s1 = ByteArray.empty.push (UInt8.ofNat (97 + (L.length : Int)).toNat) := ⟨_, rfl⟩
          have hcv : Sem.run Tryd.prog (convert 22 9 (.slice (some ⟨wr.heap.size, 0, none⟩) 1 1)) (wr.alloc (.cells #[.int .u8 (97 + (L.length : Int))] 5)) = .ok (.string s1) (wr.alloc (.cells #[.int .u8 (97 + (L.length : Int))] 5)) := by
            rw [run_convert_bytes_string _ _ _ _ _ _ _ Tryd.underlying22 Tryd.underlying5 Tryd.underlying9]
            have h1 := run_loadCells_list (P := Tryd.prog) (wr.alloc (.cells #[.int .u8 (97 + (L.length : Int))] 5)) ⟨wr.heap.size, 0, none⟩ [.int .u8 (97 + (L.length : Int))] (fun j v hj => by
              rw [add_lit, World.cell?_alloc_at (hn := rfl)]
              simpa using hj)
            rw [run_bytesToString _ _ 1 1 [97 + (L.length : Int)] (by simpa using h1), hs1']
            rfl
          have hsz1 : s1.size = 1 := by rw [hs1']; rfl
          have hadd := fun W : World => run_string_add_sum (P := Tryd.prog) W { data := #[104] } s1 (by rw [hsz1]; decide)
          have hnm : ({ data := #[104] } ++ s1 : ByteArray).size ≤ 100 := by rw [ByteArray.size_append, hsz1]; decide
          obtain ⟨nm, hnme⟩ : ∃ nm, nm = ({ data := #[104] } ++ s1 : ByteArray) := ⟨_, rfl⟩
          rw [← hnme] at hnm hadd
          clear hnme hs1' hsz1
          have hba : Below w.heap.size wr (wr.alloc (.cells #[.int .u8 (97 + (L.length : Int))] 5)) := (Below.refl _ _).alloc (by omega) _
          have hc2 := l23New_any nm g A c cs _ _ (HS.out.belowB hba hg) (by omega)
          have hnn := HO.out.blk_lt
          go_wp2_with fail
          refine hc2.mono ?_
          rintro e w4 ⟨sh, ly, rfl, s0, s1', hS, hF⟩
          have hs4 := hF.size
          simp at hs4
          have HO2 := Lib.hid (hF.own (HO.out.alloc _) (fun e => by have := (hnn g e).1; omega))
          have HS2 := Lib.hid hS
          have HF2 := Lib.hid ((HF.out.then_ hba (Nat.le_refl _)).trans hF)
          have HOKn : Hid (OkHand (nm, sh, ly)) := Lib.hid ⟨by dsimp only; omega, by unfold I64; dsimp only; omega⟩
          clear hc2 hS hF hcv hadd hba
          go_wp2_with (at_builtin; go_loud (refine wpL_app1 (L := LHand) rowHand rfl rfl _ _ rfl rfl HO2.out (nm, sh, ly) _ rfl rfl (by simp) (by unfold maxLen; omega) (by omega) (by omega) ?_); intro A6 c6 w6 ho6 hg6)
          have hbw : Below w.heap.size w4 w6 := hg6.below' (by omega) (fun b e => by have := (hnn b e).1; omega)
          have HS6 := Lib.hid (HS2.out.belowB hbw hg)
          have HF6 := Lib.hid (HF2.out.then_ hbw (Nat.le_refl _))
          have HO6 := Lib.hid ho6
          have HOK6 : Hid (∀ n ∈ L ++ [(nm, sh, ly)], OkHand n) := Lib.hid (fun n hn => by
            rcases List.mem_append.1 hn with h | h
            · exact HOK.out n h
            · simp at h; rw [h]; exact HOKn.out)
          clear ho6 hg6 hbw
          go_roundw
          case rel => exact ⟨L ++ [(nm, sh, ly)], A6, c6, by simp; omega, by go_num, by simp, HOK6, HO6, Lib.hid (HS6.out.more (by simp; omega)), HF6⟩
          case measure => simp [intOf]; omega
        · have hki : (K : Int) - L.length ≤ 0 := by omega
          go_wp2_with fail
          go_meet
          case rel => exact ⟨_, _, L, rfl, by omega, HO.out, HOK.out, HS.out.more (by omega), HF.out⟩
  case rest =>
  clear HO2 HF2 HS2 HOK1
  obtain ⟨B2, d2, ys, rfl, hl2, ho, hok, hS, hF⟩ := hcut
  have hyn := ho.len63
  have hsc := hF.size
  cases ys with
  | nil =>
    have HO := Lib.hid ho
    have HF := Lib.hid hF
    have HS := Lib.hid hS
    clear ho hF hS
    go_wp2_with fail
    go_ret
    exact ⟨B2, d2, [], rfl, by simp, HO.out, (fun n hn => by cases hn), HS.out.more (by omega), HF.out⟩
  | cons y ys =>
    obtain ⟨zs, hzs⟩ : ∃ zs, zs = y :: ys := ⟨_, rfl⟩
    rw [← hzs] at ho hl2 hok
    have hzl : 0 < zs.length := by rw [hzs]; simp
    have hzi : (0 : Int) < zs.length := by omega
    rw [← hzs]
    clear hzs
    have HO := Lib.hid ho
    have HF := Lib.hid hF
    have HOK := Lib.hid hok
    have hc3 := one_any 10 g A c cs _ wc hS (by omega) (by omega)
    clear ho hF hok hS
    go_wp2_with fail
    refine hc3.mono ?_
    rintro e w5 ⟨q, rfl, hS, hF⟩
    have hs5 := hF.size
    have HO5 := Lib.hid (hF.own HO.out (fun e => by have := (HO.out.blk_lt g e).1; omega))
    have HF5 := Lib.hid (HF.out.trans hF)
    have HS5 := Lib.hid hS
    clear hc3 hS hF HO HF
    cases q
    · go_wp2_with fail
      go_ret
      exact ⟨B2, d2, zs, rfl, hl2, HO5.out, HOK.out, HS5.out.more (by omega), HF5.out⟩
    · have hc6 := pick_any (zs.length : Int) g A c cs _ w5 HS5.out (by omega) (by omega)
      obtain ⟨b, rfl, hbb, hbl⟩ := HO5.out.ptr (by omega)
      go_wp2_with fail
      refine hc6.mono ?_
      rintro e w6 ⟨x, rfl, x0, x1, hS, hF⟩
      have hs6 := hF.size
      obtain ⟨k, rfl⟩ : ∃ k : Nat, x = (k : Int) := ⟨x.toNat, by omega⟩
      have hk : k < zs.length := by omega
      have hki : (k : Int) < zs.length := by omega
      have HO6 := Lib.hid (hF.own HO5.out (by intro e; injection e with e; dsimp only at e; omega))
      have HF6 := Lib.hid (HF5.out.trans hF)
      have hc7 := l23Spoil_any b w.heap.size d2 zs k g A c cs _ w w6 hS (by omega) HO6.out hk HOK.out (Nat.le_refl _) hg HF6.out
      clear hc6 hS hF HO5 HF5 HS5
      go_wp2_with fail
      refine hc7.mono ?_
      rintro e w7 ⟨us, rfl, hlu, ho, hok, hS, hF⟩
      have HO7 := Lib.hid ho
      have HOK7 := Lib.hid hok
      have HF7 := Lib.hid hF
      have HS7 := Lib.hid hS
      clear hc7 hS hF ho hok HO6 HF6 HOK
      go_wp2_with fail
      go_ret
      exact ⟨_, d2, us, by rw [hlu]; rfl, by omega, HO7.out, HOK7.out, HS7.out.more (by omega), HF7.out⟩
end Go.Proofs.YtofcmljnckdknaaDoor
