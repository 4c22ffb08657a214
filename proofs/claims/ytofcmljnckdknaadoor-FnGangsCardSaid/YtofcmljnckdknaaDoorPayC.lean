/-
  Draws of hands: one that is mostly not valid.
-/
import Derived.Test.YtofcmljnckdknaaDoorPayB
namespace Go.Proofs.YtofcmljnckdknaaDoor
open Go.ChangeShapes Go.WideShapes Go.RowKit

theorem textLit_any (xs : List ByteArray) (n : Nat) (cv : Array Value) (hn : n = xs.length) (hcs : cv.toList = xs.flatMap LS.f) (h0 : 0 < n) (h1 : n ≤ 1000) (g : Nat) (A : Option Addr) (c : Nat) (cs : List Int) (m : Nat) (w : World)
    (h : Sr w g A c cs m) (hm : m ≤ 4611686018427387000) :
    Calls Tryd.prog 34 #[.pointer (some ⟨g, 0, none⟩), .slice (some ⟨w.heap.size, 0, none⟩) n n] (w.alloc (.cells cv 9)) (DrewT g A c cs (m + 2) xs w) := by
  subst hn
  have hg := h.g1
  have hb : Below w.heap.size w (w.alloc (.cells cv 9)) := (Below.refl _ _).alloc (Nat.le_refl _) _
  refine (text_any (some ⟨w.heap.size, 0, none⟩) xs.length xs w.heap.size g A c cs m _ (Own.lit w (Nat.le_refl _) rfl xs cv _ rfl (by unfold maxLen; omega) hcs) (by intro e; injection e with e; dsimp only at e; omega) h0 h1 (h.below hb) hm).mono ?_
  rintro e w' ⟨v, rfl, hv, hS, hF⟩
  exact ⟨v, rfl, hv, hS, (Fs.of_below hb).trans hF⟩
def SpoilT : List ByteArray := [{ data := #[] }, { data := #[74, 111, 101] }, { data := #[106, 111, 101] }]
theorem SpoilT_size {n : ByteArray} (h : n ∈ SpoilT) : n.size ≤ 100 := by
  unfold SpoilT at h
  simp only [List.mem_cons, List.not_mem_nil, or_false] at h
  rcases h with h | h | h <;> subst h <;> decide
def SpoilN : List Int := [-1, 0, 1, 20, 21, -9223372036854775808]
theorem SpoilN_bd {n : Int} (h : n ∈ SpoilN) : I64 n := by
  unfold SpoilN at h
  simp only [List.mem_cons, List.not_mem_nil, or_false] at h
  unfold I64
  rcases h with h | h | h | h | h | h <;> subst h <;> omega
def DrewSp (g : Nat) (A : Option Addr) (c : Nat) (cs : List Int) (m : Nat) (b base cc n : Nat) (w0 : World) (e : Ending) (w' : World) : Prop :=
  ∃ xs : List HandD, e = .returned (.tuple #[]) ∧ xs.length = n ∧ Own LHand 26 w' base (some ⟨b, 0, none⟩) cc xs ∧ (∀ n ∈ xs, OkHand n) ∧ Sr w' g A c cs m ∧ Fs g w0 w'
set_option maxRecDepth 100000 in
set_option maxHeartbeats 1600000 in
theorem l23Spoil_any (b base cc : Nat) (xs : List HandD) (k : Nat) (g : Nat) (A : Option Addr) (c : Nat) (cs : List Int) (m : Nat) (w0 w : World) (h : Sr w g A c cs m) (hm : m ≤ 1000000) (ho : Own LHand 26 w base (some ⟨b, 0, none⟩) cc xs) (hk : k < xs.length) (hok : ∀ n ∈ xs, OkHand n)
    (hb0 : w0.heap.size ≤ base) (hg0 : g < w0.heap.size) (hF0 : Fs g w0 w) :
    Calls Tryd.prog 37 #[.pointer (some ⟨g, 0, none⟩), .pointer (some ⟨b, k * 3, none⟩)] w (DrewSp g A c cs (m + 4) b base cc xs.length w0) := by
  have hbb := ho.blk_lt b rfl
  have hbg : b ≠ g := by omega
  have hc := one_any 2 g A c cs m w h (by omega) (by omega)
  have HOK := Lib.hid hok
  have HO := Lib.hid ho
  have HF0 := Lib.hid hF0
  clear h ho hok hF0
  go_enter Tryd.func37, Tryd.ntmps37
  go_wp2_with fail
  refine hc.mono ?_
  rintro e w1 ⟨q, rfl, hS, hF⟩
  have HO1 := Lib.hid (hF.own HO.out (by intro e; injection e with e; dsimp only at e; omega))
  have HF1 := Lib.hid (HF0.out.trans hF)
  have hs1 := hF.size
  clear hF hc HO HF0
  cases q
  · have ha := amongLit_any SpoilN 6 _ rfl rfl (by omega) (by omega) g A c cs _ w1 hS (by omega)
    clear hS
    go_wp2_with fail
    refine ha.mono ?_
    rintro e w2 ⟨v, rfl, hv, hS, hF⟩
    have hs2 := hF.size
    have HO2 := Lib.hid (hF.own HO1.out (by intro e; injection e with e; dsimp only at e; omega))
    have HF2 := Lib.hid (HF1.out.trans hF)
    have HS2 := Lib.hid hS
    obtain ⟨gg, hgg, _, hlt, hcl, hfz⟩ := HO2.out.field hk
    cases hgg
    have q1 : w2.cell? ⟨b, k * 3 + 1, none⟩ = some (.int .i64 xs[k].2.1) := hcl 1 _ rfl
    have HV := Lib.hid (SpoilN_bd hv)
    clear ha hS hF hcl hv
    have HOK2 : Hid (∀ n ∈ xs.set k (xs[k].1, v, xs[k].2.2), OkHand n) := Lib.hid (fun n hn => by
      rcases List.mem_or_eq_of_mem_set hn with h | h
      · exact HOK.out n h
      · rw [h]; exact ⟨(HOK.out _ (List.getElem_mem hk)).1, HV.out⟩)
    have HO3 := Lib.hid (HO2.out.setField hk 1 (by decide) (.int .i64 v) (xs[k].1, v, xs[k].2.2) rfl)
    have HB : Hid (Below base w2 (w2.setCell ⟨b, k * 3 + 1, none⟩ (.int .i64 v))) := Lib.hid ((Below.refl _ w2).setCell (p := ⟨b, k * 3 + 1, none⟩) (by dsimp only; omega) _)
    go_wp2_with fail
    exact bodyPost_ret (v := .tuple #[]) (by simp [results, Tryd.results37, go_sem]) rfl ⟨xs.set k (xs[k].1, v, xs[k].2.2), rfl, by simp, HO3.out, HOK2.out, HS2.out.belowB HB.out (by omega), HF2.out.then_ HB.out hb0⟩
  · have ha := textLit_any SpoilT 3 _ rfl rfl (by omega) (by omega) g A c cs _ w1 hS (by omega)
    clear hS
    go_wp2_with fail
    refine ha.mono ?_
    rintro e w2 ⟨v, rfl, hv, hS, hF⟩
    have hs2 := hF.size
    have HO2 := Lib.hid (hF.own HO1.out (by intro e; injection e with e; dsimp only at e; omega))
    have HF2 := Lib.hid (HF1.out.trans hF)
    have HS2 := Lib.hid hS
    obtain ⟨gg, hgg, _, hlt, hcl, hfz⟩ := HO2.out.field hk
    cases hgg
    have q1 : w2.cell? ⟨b, k * 3, none⟩ = some (.string xs[k].1) := hcl 0 _ rfl
    have HV := Lib.hid (SpoilT_size hv)
    clear ha hS hF hcl hv
    have HOK2 : Hid (∀ n ∈ xs.set k (v, xs[k].2.1, xs[k].2.2), OkHand n) := Lib.hid (fun n hn => by
      rcases List.mem_or_eq_of_mem_set hn with h | h
      · exact HOK.out n h
      · rw [h]; exact ⟨by have := HV.out; dsimp only; omega, (HOK.out _ (List.getElem_mem hk)).2⟩)
    have HO3 := Lib.hid (HO2.out.setField hk 0 (by decide) (.string v) (v, xs[k].2.1, xs[k].2.2) rfl)
    have HB : Hid (Below base w2 (w2.setCell ⟨b, k * 3, none⟩ (.string v))) := Lib.hid ((Below.refl _ w2).setCell (p := ⟨b, k * 3, none⟩) (by dsimp only; omega) _)
    go_wp2_with fail
    exact bodyPost_ret (v := .tuple #[]) (by simp [results, Tryd.results37, go_sem]) rfl ⟨xs.set k (v, xs[k].2.1, xs[k].2.2), rfl, by simp, HO3.out, HOK2.out, HS2.out.belowB HB.out (by omega), HF2.out.then_ HB.out hb0⟩
end Go.Proofs.YtofcmljnckdknaaDoor
