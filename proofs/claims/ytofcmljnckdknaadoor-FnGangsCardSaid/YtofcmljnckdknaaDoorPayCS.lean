/-
  Draws of hands: a hand that is spoilt keeps a short name.
-/
import Derived.Test.YtofcmljnckdknaaDoorPayC
namespace Go.Proofs.YtofcmljnckdknaaDoor
open Go.ChangeShapes Go.WideShapes Go.RowKit

def OkHandS (n : HandD) : Prop := n.1.size ≤ 100 ∧ I64 n.2.1
theorem OkHandS.ok {n : HandD} (h : OkHandS n) : OkHand n := ⟨by have := h.1; omega, h.2⟩
def DrewSpS (g : Nat) (A : Option Addr) (c : Nat) (cs : List Int) (m : Nat) (b base cc n : Nat) (w0 : World) (e : Ending) (w' : World) : Prop :=
  ∃ xs : List HandD, e = .returned (.tuple #[]) ∧ xs.length = n ∧ Own LHand 26 w' base (some ⟨b, 0, none⟩) cc xs ∧ (∀ n ∈ xs, OkHandS n) ∧ Sr w' g A c cs m ∧ Fs g w0 w'
set_option maxRecDepth 100000 in
set_option maxHeartbeats 1600000 in
theorem l23SpoilS_any (b base cc : Nat) (xs : List HandD) (k : Nat) (g : Nat) (A : Option Addr) (c : Nat) (cs : List Int) (m : Nat) (w0 w : World) (h : Sr w g A c cs m) (hm : m ≤ 1000000) (ho : Own LHand 26 w base (some ⟨b, 0, none⟩) cc xs) (hk : k < xs.length) (hok : ∀ n ∈ xs, OkHandS n)
    (hb0 : w0.heap.size ≤ base) (hg0 : g < w0.heap.size) (hF0 : Fs g w0 w) :
    Calls Tryd.prog 37 #[.pointer (some ⟨g, 0, none⟩), .pointer (some ⟨b, k * 3, none⟩)] w (DrewSpS g A c cs (m + 4) b base cc xs.length w0) := by
  have hbb := ho.blk_lt b rfl
  have hbg : b ≠ g := by omega
  have hc := one_any 2 g A c cs m w h (by omega) (by omega)
  have HOK := Lib.hid hok
  have HO := Lib.hid ho
  have HF0 := Lib.hid hF0
  clear h ho hok hF0
  go_enter Tryd.func37, Tryd.ntmps37
  go_wp2_with fail
  refine hc.mono ?_
  rintro e w1 ⟨q, rfl, hS, hF⟩
  have HO1 := Lib.hid (hF.own HO.out (by intro e; injection e with e; dsimp only at e; omega))
  have HF1 := Lib.hid (HF0.out.trans hF)
  have hs1 := hF.size
  clear hF hc HO HF0
  cases q
  · have ha := amongLit_any SpoilN 6 _ rfl rfl (by omega) (by omega) g A c cs _ w1 hS (by omega)
    clear hS
    go_wp2_with fail
    refine ha.mono ?_
    rintro e w2 ⟨v, rfl, hv, hS, hF⟩
    have hs2 := hF.size
    have HO2 := Lib.hid (hF.own HO1.out (by intro e; injection e with e; dsimp only at e; omega))
    have HF2 := Lib.hid (HF1.out.trans hF)
    have HS2 := Lib.hid hS
    obtain ⟨gg, hgg, _, hlt, hcl, hfz⟩ := HO2.out.field hk
    cases hgg
    have q1 : w2.cell? ⟨b, k * 3 + 1, none⟩ = some (.int .i64 xs[k].2.1) := hcl 1 _ rfl
    have HV := Lib.hid (SpoilN_bd hv)
    clear ha hS hF hcl hv
    have HOK2 : Hid (∀ n ∈ xs.set k (xs[k].1, v, xs[k].2.2), OkHandS n) := Lib.hid (fun n hn => by
      rcases List.mem_or_eq_of_mem_set hn with h | h
      · exact HOK.out n h
      · rw [h]; exact ⟨(HOK.out _ (List.getElem_mem hk)).1, HV.out⟩)
    have HO3 := Lib.hid (HO2.out.setField hk 1 (by decide) (.int .i64 v) (xs[k].1, v, xs[k].2.2) rfl)
    have HB : Hid (Below base w2 (w2.setCell ⟨b, k * 3 + 1, none⟩ (.int .i64 v))) := Lib.hid ((Below.refl _ w2).setCell (p := ⟨b, k * 3 + 1, none⟩) (by dsimp only; omega) _)
    go_wp2_with fail
    exact bodyPost_ret (v := .tuple #[]) (by simp [results, Tryd.results37, go_sem]) rfl ⟨xs.set k (xs[k].1, v, xs[k].2.2), rfl, by simp, HO3.out, HOK2.out, HS2.out.belowB HB.out (by omega), HF2.out.then_ HB.out hb0⟩
  · have ha := textLit_any SpoilT 3 _ rfl rfl (by omega) (by omega) g A c cs _ w1 hS (by omega)
    clear hS
    go_wp2_with fail
    refine ha.mono ?_
    rintro e w2 ⟨v, rfl, hv, hS, hF⟩
    have hs2 := hF.size
    have HO2 := Lib.hid (hF.own HO1.out (by intro e; injection e with e; dsimp only at e; omega))
    have HF2 := Lib.hid (HF1.out.trans hF)
    have HS2 := Lib.hid hS
    obtain ⟨gg, hgg, _, hlt, hcl, hfz⟩ := HO2.out.field hk
    cases hgg
    have q1 : w2.cell? ⟨b, k * 3, none⟩ = some (.string xs[k].1) := hcl 0 _ rfl
    have HV := Lib.hid (SpoilT_size hv)
    clear ha hS hF hcl hv
    have HOK2 : Hid (∀ n ∈ xs.set k (v, xs[k].2.1, xs[k].2.2), OkHandS n) := Lib.hid (fun n hn => by
      rcases List.mem_or_eq_of_mem_set hn with h | h
      · exact HOK.out n h
      · rw [h]; exact ⟨by have := HV.out; dsimp only; omega, (HOK.out _ (List.getElem_mem hk)).2⟩)
    have HO3 := Lib.hid (HO2.out.setField hk 0 (by decide) (.string v) (v, xs[k].2.1, xs[k].2.2) rfl)
    have HB : Hid (Below base w2 (w2.setCell ⟨b, k * 3, none⟩ (.string v))) := Lib.hid ((Below.refl _ w2).setCell (p := ⟨b, k * 3, none⟩) (by dsimp only; omega) _)
    go_wp2_with fail
    exact bodyPost_ret (v := .tuple #[]) (by simp [results, Tryd.results37, go_sem]) rfl ⟨xs.set k (v, xs[k].2.1, xs[k].2.2), rfl, by simp, HO3.out, HOK2.out, HS2.out.belowB HB.out (by omega), HF2.out.then_ HB.out hb0⟩
end Go.Proofs.YtofcmljnckdknaaDoor
