/-
  Chances: what is drawn.
-/
import Derived.Test.YtpafdnclhenklaaPassE
import Derived.Test.YtpafdnclhenklaaSrc
namespace Go.Proofs.Ytpafdnclhenklaa
open Go.ChangeShapes Go.WideShapes Go.RowKit

def DrewV (g : Nat) (A : Option Addr) (c : Nat) (cs : List Int) (m : Nat) (xs : List Int) (w : World) (e : Ending) (w' : World) : Prop :=
  ∃ v : Int, e = .returned (.int .i64 v) ∧ v ∈ xs ∧ Sr w' g A c cs m ∧ Fs g w w'
/-- one of these -/
theorem amongLit_any (xs : List Int) (n : Nat) (cv : Array Value) (hn : n = xs.length) (hcs : cv.toList = xs.flatMap LI.f) (h0 : 0 < n) (h1 : n ≤ 1000) (g : Nat) (A : Option Addr) (c : Nat) (cs : List Int) (m : Nat) (w : World)
    (h : Sr w g A c cs m) (hm : m ≤ 4611686018427387000) :
    Calls Try.prog 43 #[.pointer (some ⟨g, 0, none⟩), .slice (some ⟨w.heap.size, 0, none⟩) n n] (w.alloc (.cells cv 2)) (DrewV g A c cs (m + 2) xs w) := by
  subst hn
  have hg := h.g1
  have hb : Below w.heap.size w (w.alloc (.cells cv 2)) := (Below.refl _ _).alloc (Nat.le_refl _) _
  refine (among_any (some ⟨w.heap.size, 0, none⟩) xs.length xs w.heap.size g A c cs m _ (Own.lit w (Nat.le_refl _) rfl xs cv _ rfl (by unfold maxLen; omega) hcs) (by intro e; injection e with e; dsimp only at e; omega) h0 h1 (h.below hb) hm).mono ?_
  rintro e w' ⟨v, rfl, hv, hS, hF⟩
  exact ⟨v, rfl, hv, hS, (Fs.of_below hb).trans hF⟩
def DrewL (g : Nat) (A : Option Addr) (c : Nat) (cs : List Int) (m : Nat) (w : World) (e : Ending) (w' : World) : Prop :=
  ∃ x y z t : Int, e = .returned (.tuple #[.int .i64 x, .int .i64 y, .int .i64 z, .int .i64 t]) ∧ Sr w' g A c cs m ∧ Fs g w w'
set_option maxRecDepth 100000 in
set_option maxHeartbeats 800000 in
theorem l19DrawLot_any (g : Nat) (A : Option Addr) (c : Nat) (cs : List Int) (m : Nat) (w : World) (h : Sr w g A c cs m) (hm : m ≤ 1000000) :
    Calls Try.prog 31 #[.pointer (some ⟨g, 0, none⟩)] w (DrewL g A c cs (m + 12) w) := by
  have hc := pick_any 40 g A c cs m w h (by omega) (by omega)
  clear h
  go_enter Try.func31, Try.ntmps31
  go_wp2_with fail
  refine hc.mono ?_
  rintro e w1 ⟨x0, rfl, x1, x2, hS, hF⟩
  have hx : x0 ≤ 39 := by omega
  obtain ⟨x, hxx⟩ : ∃ x, x = 1 + x0 := ⟨_, rfl⟩
  have e1 : IntKind.i64.wrap (1 + x0) = x := by rw [hxx]; exact wrapS (by omega) (by omega)
  have b0 : 1 ≤ x := by omega
  have b1 : x ≤ 40 := by omega
  have hc2 := pick_any (x + 1) g A c cs (m + 2) w1 hS (by omega) (by omega)
  have HF1 := Lib.hid hF
  clear hc hS hF x1 x2 hx
  clear hxx
  go_wp2_with fail
  refine hc2.mono ?_
  rintro e w2 ⟨y, rfl, y1, y2, hS, hF⟩
  have HF2 := Lib.hid (HF1.out.trans hF)
  have HM1 := Lib.hid (fun W => l00Min_any x 10 W)
  obtain ⟨mx, hmx⟩ : ∃ mx, mx = min x 10 := ⟨_, rfl⟩
  rw [← hmx] at HM1
  have m0 : 1 ≤ mx := by omega
  have m1 : mx ≤ 10 := by omega
  have hc3 := pick_any mx g A c cs (m + 2 + 2) w2 hS (by omega) (by omega)
  clear hc2 hS hF HF1 hmx
  go_wp2_with (go_at_call 46; (with_reducible refine (HM1.out _).mono ?_); rintro e w5 ⟨rfl, rfl⟩)
  refine hc3.mono ?_
  rintro e w3 ⟨z0, rfl, z1, z2, hS, hF⟩
  have HF3 := Lib.hid (HF2.out.trans hF)
  obtain ⟨z, hzz⟩ : ∃ z, z = 1 + z0 := ⟨_, rfl⟩
  have e2 : IntKind.i64.wrap (1 + z0) = z := by rw [hzz]; exact wrapS (by omega) (by omega)
  have g0 : 1 ≤ z := by omega
  have g1 : z ≤ 10 := by omega
  have HM2 := Lib.hid (fun W => l00Min_any 3 z W)
  obtain ⟨mz, hmz⟩ : ∃ mz, mz = min 3 z := ⟨_, rfl⟩
  rw [← hmz] at HM2
  have n0 : 1 ≤ mz := by omega
  have n1 : mz ≤ 3 := by omega
  have hc4 := pick_any (mz + 1) g A c cs (m + 2 + 2 + 2) w3 hS (by omega) (by omega)
  clear hc3 hS hF HF2 hmz z1 z2 hzz
  go_wp2_with (go_at_call 46; (with_reducible refine (HM2.out _).mono ?_); rintro e w5 ⟨rfl, rfl⟩)
  refine hc4.mono ?_
  rintro e w4 ⟨t, rfl, t1, t2, hS, hF⟩
  have HF4 := Lib.hid (HF3.out.trans hF)
  have hc5 := pick_any 16 g A c cs (m + 2 + 2 + 2 + 2) w4 hS (by omega) (by omega)
  clear hc4 hS hF HF3
  go_wp2_with fail
  refine hc5.mono ?_
  rintro e w5 ⟨k, rfl, k1, k2, hS, hF⟩
  have HF5 := Lib.hid (HF4.out.trans hF)
  clear hc5 hF HF4
  by_cases q0 : k = 0
  · subst q0
    have ha := amongLit_any [0, 1, 60, 61, -9223372036854775808] 5 _ rfl rfl (by omega) (by omega) g A c cs _ w5 hS (by omega)
    clear hS
    go_wp2_with fail
    refine ha.mono ?_
    rintro e w6 ⟨v, rfl, _, hS, hF⟩
    have HF6 := Lib.hid (HF5.out.trans hF)
    have HS := Lib.hid hS
    clear ha hS hF HF5
    go_wp2_with fail
    exact bodyPost_ret (v := .tuple #[.int .i64 v, .int .i64 y, .int .i64 z, .int .i64 t]) (by simp [results, Try.results31, go_sem]) rfl ⟨_, _, _, _, rfl, HS.out, HF6.out⟩
  by_cases q1 : k = 1
  · subst q1
    have ha := amongLit_any [-1, 0, x, x + 1] 4 _ rfl rfl (by omega) (by omega) g A c cs _ w5 hS (by omega)
    clear hS
    go_wp2_with fail
    refine ha.mono ?_
    rintro e w6 ⟨v, rfl, _, hS, hF⟩
    have HF6 := Lib.hid (HF5.out.trans hF)
    have HS := Lib.hid hS
    clear ha hS hF HF5
    go_wp2_with fail
    exact bodyPost_ret (v := .tuple #[.int .i64 x, .int .i64 v, .int .i64 z, .int .i64 t]) (by simp [results, Try.results31, go_sem]) rfl ⟨_, _, _, _, rfl, HS.out, HF6.out⟩
  by_cases q2 : k = 2
  · subst q2
    have ha := amongLit_any [0, 1, 10, 11] 4 _ rfl rfl (by omega) (by omega) g A c cs _ w5 hS (by omega)
    clear hS
    go_wp2_with fail
    refine ha.mono ?_
    rintro e w6 ⟨v, rfl, _, hS, hF⟩
    have HF6 := Lib.hid (HF5.out.trans hF)
    have HS := Lib.hid hS
    clear ha hS hF HF5
    go_wp2_with fail
    exact bodyPost_ret (v := .tuple #[.int .i64 x, .int .i64 y, .int .i64 v, .int .i64 t]) (by simp [results, Try.results31, go_sem]) rfl ⟨_, _, _, _, rfl, HS.out, HF6.out⟩
  by_cases q3 : k = 3
  · subst q3
    have ha := amongLit_any [-1, 0, z, z + 1] 4 _ rfl rfl (by omega) (by omega) g A c cs _ w5 hS (by omega)
    clear hS
    go_wp2_with fail
    refine ha.mono ?_
    rintro e w6 ⟨v, rfl, _, hS, hF⟩
    have HF6 := Lib.hid (HF5.out.trans hF)
    have HS := Lib.hid hS
    clear ha hS hF HF5
    go_wp2_with fail
    exact bodyPost_ret (v := .tuple #[.int .i64 x, .int .i64 y, .int .i64 z, .int .i64 v]) (by simp [results, Try.results31, go_sem]) rfl ⟨_, _, _, _, rfl, HS.out, HF6.out⟩
  have f0 : (k == 0) = false := by rw [beq_eq_false_iff_ne]; exact q0
  have f1 : (k == 1) = false := by rw [beq_eq_false_iff_ne]; exact q1
  have f2 : (k == 2) = false := by rw [beq_eq_false_iff_ne]; exact q2
  have f3 : (k == 3) = false := by rw [beq_eq_false_iff_ne]; exact q3
  have HS := Lib.hid (hS.more (show m + 2 + 2 + 2 + 2 + 2 ≤ m + 12 by omega))
  clear hS
  go_wp2_with fail
  exact bodyPost_ret (v := .tuple #[.int .i64 x, .int .i64 y, .int .i64 z, .int .i64 t]) (by simp [results, Try.results31, go_sem]) rfl ⟨_, _, _, _, rfl, HS.out, HF5.out⟩
end Go.Proofs.Ytpafdnclhenklaa
