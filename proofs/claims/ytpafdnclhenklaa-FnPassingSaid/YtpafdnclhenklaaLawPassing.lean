/-
  FnPassing returns true for every argument: the walk.
-/
import Derived.Test.YtpafdnclhenklaaPassH
import Derived.Test.YtpafdnclhenklaaPassI
import Derived.Deep.CutRange
import Derived.Deep.RegionHeld3
namespace Go.Proofs.Ytpafdnclhenklaa
open Go.ChangeShapes Go.WideShapes Go.RowKit

theorem neqFrac (a b : Int) (w : World) : Sem.run Try.prog (binOp .neq 27 (.agg #[.int .i64 a, .int .i64 b]) (.agg #[.int .i64 a, .int .i64 b])) w = .ok (.bool false) w := by
  rw [run_neq_struct, run_equalIn_struct _ _ _ _ _ (by kernel_rfl) (by kernel_rfl)]
  simp [go_sem, Try.underlying27, Try.underlying2]
theorem f6big_any (A : Option Addr) (c n : Nat) (w : World) (hn : n ≤ 9223372036854775807) : Calls Try.prog 7 #[.slice A n c] w fun e w' => e = .returned (.bool (decide (4096 < n))) ∧ w = w' := by
  by_cases h : 4096 < n
  · have hd : decide (4096 < n) = true := by simpa using h
    have h2 : (4096 : Int) < n := by omega
    rw [hd]
    go_enter Try.func7, Try.ntmps7
    go_wp2_with fail
    go_ret
    exact ⟨ret_bool (by first | (simp; done) | (simp; omega)), rfl⟩
  · have hd : decide (4096 < n) = false := by simpa using h
    have h2 : (n : Int) ≤ 4096 := by omega
    rw [hd]
    go_enter Try.func7, Try.ntmps7
    go_wp2_with fail
    go_ret
    exact ⟨ret_bool (by simp; omega), rfl⟩
theorem wu_walk {l t a cn cd n one : Int} (h : (n, one) = wuP l t a cn cd) (h1 : one = 0) : 0 ≤ n ∧ n ≤ 1000 ∧
    (n < l → ∃ g1 g2 u v : Int, (∀ W, Calls Try.prog 9 #[.int .i64 l, .int .i64 (n + 1), .int .i64 t, .int .i64 a] W fun e w' => e = .returned (.tuple #[.agg #[.int .i64 g1, .int .i64 g2], .int .i64 0]) ∧ Below W.heap.size W w') ∧ IntKind.i64.wrap (g1 * cd) = u ∧ IntKind.i64.wrap (cn * g2) = v ∧ u < v) ∧
    (0 < n → ∃ g1 g2 u v : Int, (∀ W, Calls Try.prog 9 #[.int .i64 l, .int .i64 n, .int .i64 t, .int .i64 a] W fun e w' => e = .returned (.tuple #[.agg #[.int .i64 g1, .int .i64 g2], .int .i64 0]) ∧ Below W.heap.size W w') ∧ IntKind.i64.wrap (g1 * cd) = u ∧ IntKind.i64.wrap (cn * g2) = v ∧ v ≤ u) := by
  rcases wu_cases l t a cn cd with ⟨c, h2, h3⟩ | ⟨L, T, D, N, rfl, rfl, rfl, h2, h3, h4, h5, h6⟩
  · rw [h2] at h
    obtain ⟨rfl, rfl⟩ := Prod.mk.inj h
    exact absurd h1 h3
  · rw [h2] at h
    obtain ⟨rfl, rfl⟩ := Prod.mk.inj h
    refine ⟨by omega, by omega, ?_, ?_⟩
    · intro hn
      obtain ⟨f1, f2, u, v, hp, e1, e2, e3⟩ := h5 (by omega)
      refine ⟨f1, f2, u, v, fun W => ?_, e1, e2, e3⟩
      have hc := implPassChance_any L ((N : Int) + 1) T D W
      rw [hp] at hc
      exact hc
    · intro hn
      obtain ⟨f1, f2, u, v, hp, e1, e2, e3⟩ := h6 (by omega)
      refine ⟨f1, f2, u, v, fun W => ?_, e1, e2, e3⟩
      have hc := implPassChance_any L (N : Int) T D W
      rw [hp] at hc
      exact hc
theorem tf_walk {l k a cn cd n one : Int} (h : (n, one) = tfP l k a cn cd) (h1 : one = 0) : 1 ≤ n ∧ n ≤ 10 ∧
    (∃ g1 g2 u v : Int, (∀ W, Calls Try.prog 9 #[.int .i64 l, .int .i64 k, .int .i64 n, .int .i64 (min a n)] W fun e w' => e = .returned (.tuple #[.agg #[.int .i64 g1, .int .i64 g2], .int .i64 0]) ∧ Below W.heap.size W w') ∧ IntKind.i64.wrap (g1 * cd) = u ∧ IntKind.i64.wrap (cn * g2) = v ∧ u ≤ v) ∧
    (1 < n → ∃ g1 g2 u v : Int, (∀ W, Calls Try.prog 9 #[.int .i64 l, .int .i64 k, .int .i64 (n - 1), .int .i64 (min a (n - 1))] W fun e w' => e = .returned (.tuple #[.agg #[.int .i64 g1, .int .i64 g2], .int .i64 0]) ∧ Below W.heap.size W w') ∧ IntKind.i64.wrap (g1 * cd) = u ∧ IntKind.i64.wrap (cn * g2) = v ∧ v < u) := by
  rcases tf_cases l k a cn cd with ⟨c, h2, h3⟩ | ⟨N, h3, h4, h2, h5, h6⟩
  · rw [h2] at h
    obtain ⟨rfl, rfl⟩ := Prod.mk.inj h
    exact absurd h1 h3
  · rw [h2] at h
    obtain ⟨rfl, rfl⟩ := Prod.mk.inj h
    refine ⟨by omega, by omega, ?_, ?_⟩
    · obtain ⟨f1, f2, u, v, hp, e1, e2, e3⟩ := h5
      refine ⟨f1, f2, u, v, fun W => ?_, e1, e2, e3⟩
      have hc := implPassChance_any l k (N : Int) (min a N) W
      rw [hp] at hc
      exact hc
    · intro hn
      obtain ⟨f1, f2, u, v, hp, e1, e2, e3⟩ := h6 (by omega)
      refine ⟨f1, f2, u, v, fun W => ?_, e1, e2, e3⟩
      have hc := implPassChance_any l k ((N : Int) - 1) (min a ((N : Int) - 1)) W
      rw [hp] at hc
      exact hc
theorem pc_walk {l k t a f1 f2 c : Int} (h : ((f1, f2), c) = pcP l k t a) (h1 : c = 0) : 0 ≤ f1 ∧ f1 ≤ f2 ∧ 0 ≤ k ∧ k ≤ l ∧ l ≤ 60 ∧ (a = t → f1 = f2) ∧ (k = 0 → f1 = f2) ∧
    (k ≠ l → l ≤ 40 → t ≤ 5 → ∃ g1 g2 u v : Int, (∀ W, Calls Try.prog 9 #[.int .i64 l, .int .i64 (k + 1), .int .i64 t, .int .i64 a] W fun e w' => e = .returned (.tuple #[.agg #[.int .i64 g1, .int .i64 g2], .int .i64 0]) ∧ Below W.heap.size W w') ∧ IntKind.i64.wrap (g1 * f2) = u ∧ IntKind.i64.wrap (f1 * g2) = v ∧ u ≤ v) := by
  rcases pc_cases l k t a with ⟨d, h2, h3⟩ | ⟨e1, e2, h2, a1, a2, a3, a4, a5, a6, a7, a8⟩
  · rw [h2] at h
    obtain ⟨_, rfl⟩ := Prod.mk.inj h
    exact absurd h1 h3
  · rw [h2] at h
    obtain ⟨h3, rfl⟩ := Prod.mk.inj h
    obtain ⟨rfl, rfl⟩ := Prod.mk.inj h3
    refine ⟨a1, a2, a3, a4, a5, a6, a7, ?_⟩
    intro q1 q2 q3
    obtain ⟨g1, g2, u, v, hp, e1, e2, e3⟩ := a8 q1 q2 q3
    refine ⟨g1, g2, u, v, fun W => ?_, e1, e2, e3⟩
    have hc := implPassChance_any l (k + 1) t a W
    rw [hp] at hc
    exact hc
/-- what the law keeps in memory -/
structure KeptP (w : World) (b2 b4 b7 : Nat) (f1 f2 cn cd mn md : Int) (wx : World) : Prop where
  be : Below w.heap.size w wx
  l2 : b2 < wx.heap.size
  l4 : b4 < wx.heap.size
  l7 : b7 < wx.heap.size
  c20 : wx.cell? ⟨b2, 0, none⟩ = some (.int .i64 f1)
  c21 : wx.cell? ⟨b2, 1, none⟩ = some (.int .i64 f2)
  c40 : wx.cell? ⟨b4, 0, none⟩ = some (.int .i64 cn)
  c41 : wx.cell? ⟨b4, 1, none⟩ = some (.int .i64 cd)
  c70 : wx.cell? ⟨b7, 0, none⟩ = some (.int .i64 mn)
  c71 : wx.cell? ⟨b7, 1, none⟩ = some (.int .i64 md)
theorem KeptP.below {w wx wy : World} {b2 b4 b7 : Nat} {f1 f2 cn cd mn md : Int} (h : KeptP w b2 b4 b7 f1 f2 cn cd mn md wx) (hb : Below wx.heap.size wx wy) : KeptP w b2 b4 b7 f1 f2 cn cd mn md wy := by
  have hs := hb.size
  have h2 := h.l2
  have h4 := h.l4
  have h7 := h.l7
  exact ⟨bthen h.be (Nat.le_refl _) hb, by omega, by omega, by omega, (hb.cell (p := ⟨b2, 0, none⟩) h2).trans h.c20, (hb.cell (p := ⟨b2, 1, none⟩) h2).trans h.c21, (hb.cell (p := ⟨b4, 0, none⟩) h4).trans h.c40, (hb.cell (p := ⟨b4, 1, none⟩) h4).trans h.c41, (hb.cell (p := ⟨b7, 0, none⟩) h7).trans h.c70, (hb.cell (p := ⟨b7, 1, none⟩) h7).trans h.c71⟩
theorem KeptP.alloc {w wx : World} {b2 b4 b7 : Nat} {f1 f2 cn cd mn md : Int} (h : KeptP w b2 b4 b7 f1 f2 cn cd mn md wx) (o : Obj) : KeptP w b2 b4 b7 f1 f2 cn cd mn md (wx.alloc o) := h.below ((Below.refl _ _).alloc (Nat.le_refl _) _)
set_option maxRecDepth 100000 in
set_option maxHeartbeats 6400000 in
theorem lawPassing_any (A : Option Addr) (c : Nat) (cs : List Int) (w : World) (hr : Rd LU w w.heap.size A c cs) (hb : ∀ x ∈ cs, 0 ≤ x ∧ x ≤ 255) :
    Calls Try.prog 3 #[.slice A cs.length c] w fun e w' => e = .returned (.bool true) ∧ Below w.heap.size w w' := by
  have hlen := hr.len63
  have h6 := f6big_any A c cs.length w (by omega)
  have HR := Lib.hid (fun (W : World) (h : Below w.heap.size w W) => (hr.below h).more h.size)
  have HBY := Lib.hid hb
  clear hr hb
  cases hbig : decide (4096 < cs.length)
  rotate_left
  · rw [hbig] at h6
    go_enter Try.func3, Try.ntmps3
    go_wp2_with fail
    refine h6.mono ?_
    rintro e w1 ⟨rfl, rfl⟩
    go_wp2_with fail
    go_ret
    exact ⟨rfl, Below.refl _ _⟩
  rw [hbig] at h6
  have hc1 := drawPass_any A c cs w (HR.out w (Below.refl _ _)) HBY.out
  go_enter Try.func3, Try.ntmps3
  go_wp2_with fail
  refine h6.mono ?_
  rintro e w0 ⟨rfl, rfl⟩
  go_wp2_with fail
  refine hc1.mono ?_
  rintro e w1 ⟨lot, weak, tested, allowed, rfl, hb1⟩
  have HB1 := Lib.hid hb1
  have hc2 := implPassChance_any lot weak tested allowed w1
  clear h6 hc1 hb1
  go_wp2_with fail
  refine hc2.mono ?_
  rintro e w2 ⟨rfl, hb2⟩
  have HB2 := Lib.hid (bthen HB1.out (Nat.le_refl _) hb2)
  have hz2 := HB2.out.size
  clear hc2 hb2 HB1
  obtain ⟨P, hP⟩ : ∃ P, P = pcP lot weak tested allowed := ⟨_, rfl⟩
  have HP := Lib.hid hP
  have hc3 := fun W => specPassChance_any lot weak tested allowed W
  rw [← hP] at hc3
  rw [← hP]
  clear hP
  obtain ⟨⟨f1, f2⟩, pc⟩ := P
  dsimp only at hc3 ⊢
  have HC3 := Lib.hid hc3
  clear hc3
  have ha2 : Below w.heap.size w (w2.alloc (.cells #[.int .i64 f1, .int .i64 f2] 27)) := HB2.out.alloc hz2 _
  have hx2 : Below (w2.heap.size + 1) (w2.alloc (.cells #[.int .i64 f1, .int .i64 f2] 27)) (w2.alloc (.cells #[.int .i64 f1, .int .i64 f2] 27)) := Below.refl _ _
  go_wp2_with fail
  refine (HC3.out _).mono ?_
  rintro e w3 ⟨rfl, hb3⟩
  have hs3 := hb3.size
  simp at hs3
  have HB3 := Lib.hid (bthen ha2 (Nat.le_refl _) hb3)
  have hz3 := HB3.out.size
  have x2_3 := bthen hx2 (by simp) hb3
  have ha3 : Below w.heap.size w (w3.alloc (.cells #[.int .i64 f1, .int .i64 f2] 27)) := HB3.out.alloc hz3 _
  have y2_3 : Below (w2.heap.size + 1) (w2.alloc (.cells #[.int .i64 f1, .int .i64 f2] 27)) (w3.alloc (.cells #[.int .i64 f1, .int .i64 f2] 27)) := x2_3.alloc (by omega) _
  have y3_3 : Below (w3.heap.size + 1) (w3.alloc (.cells #[.int .i64 f1, .int .i64 f2] 27)) (w3.alloc (.cells #[.int .i64 f1, .int .i64 f2] 27)) := Below.refl _ _
  as_aux_lemma =>
  have hc4 := drawWeak_any A c cs (w3.alloc (.cells #[.int .i64 f1, .int .i64 f2] 27)) (HR.out _ ha3) HBY.out
  clear hb3 ha2 hx2 x2_3
  go_wp2_with fail
  refine hc4.mono ?_
  rintro e w4 ⟨l, t, a, cn, cd, rfl, hb4⟩
  have hs4 := hb4.size
  simp at hs4
  have HB4 := Lib.hid (bthen ha3 (Nat.le_refl _) hb4)
  have hz4 := HB4.out.size
  have x2_4 := bthen y2_3 (by simp) hb4
  have x3_4 := bthen y3_3 (by simp) hb4
  have ha4 : Below w.heap.size w (w4.alloc (.cells #[.int .i64 cn, .int .i64 cd] 27)) := HB4.out.alloc hz4 _
  have y2_4 : Below (w2.heap.size + 1) (w2.alloc (.cells #[.int .i64 f1, .int .i64 f2] 27)) (w4.alloc (.cells #[.int .i64 cn, .int .i64 cd] 27)) := x2_4.alloc (by omega) _
  have y3_4 : Below (w3.heap.size + 1) (w3.alloc (.cells #[.int .i64 f1, .int .i64 f2] 27)) (w4.alloc (.cells #[.int .i64 cn, .int .i64 cd] 27)) := x3_4.alloc (by omega) _
  have y4_4 : Below (w4.heap.size + 1) (w4.alloc (.cells #[.int .i64 cn, .int .i64 cd] 27)) (w4.alloc (.cells #[.int .i64 cn, .int .i64 cd] 27)) := Below.refl _ _
  obtain ⟨Wu, hWu⟩ : ∃ P, P = wuP l t a cn cd := ⟨_, rfl⟩
  have HWu := Lib.hid hWu
  have hc5 := fun W => implWeakUntil_any l t a cn cd W
  have hc6 := fun W => specWeakUntil_any l t a cn cd W
  rw [← hWu] at hc5 hc6
  clear hWu
  obtain ⟨n, one⟩ := Wu
  dsimp only at hc5 hc6
  have HC5 := Lib.hid hc5
  have HC6 := Lib.hid hc6
  clear hc4 hc5 hc6 hb4 ha3 y2_3 y3_3 x2_4 x3_4
  go_wp2_with fail
  refine (HC5.out _).mono ?_
  rintro e w5 ⟨rfl, hb5⟩
  have hs5 := hb5.size
  simp at hs5
  have HB5 := Lib.hid (bthen ha4 (Nat.le_refl _) hb5)
  have x2_5 := bthen y2_4 (by simp) hb5
  have x3_5 := bthen y3_4 (by simp) hb5
  have x4_5 := bthen y4_4 (by simp) hb5
  have k4_0 : w5.cell? ⟨w4.heap.size, 0, none⟩ = some (.int .i64 cn) := by rw [x4_5.cell (p := ⟨w4.heap.size, 0, none⟩) (by simp)]; go_simp
  have k4_1 : w5.cell? ⟨w4.heap.size, 1, none⟩ = some (.int .i64 cd) := by rw [x4_5.cell (p := ⟨w4.heap.size, 1, none⟩) (by simp)]; go_simp
  have l4 : w4.heap.size < w5.heap.size := by omega
  clear hb5 ha4 y2_4 y3_4 y4_4
  go_wp2_with fail
  refine (HC6.out _).mono ?_
  rintro e w6 ⟨rfl, hb6⟩
  have hs6 := hb6.size
  have HB6 := Lib.hid (bthen HB5.out (Nat.le_refl _) hb6)
  have hz6 := HB6.out.size
  have x2_6 := bthen x2_5 (by simp) hb6
  have x3_6 := bthen x3_5 (by simp) hb6
  have x4_6 := bthen x4_5 (by simp) hb6
  as_aux_lemma =>
  have hc7 := drawTests_any A c cs w6 (HR.out _ HB6.out) HBY.out
  clear hb6 x2_5 x3_5 x4_5 k4_0 k4_1 l4
  go_wp2_with fail
  refine hc7.mono ?_
  rintro e w7 ⟨lot2, weak2, allowed2, mn, md, rfl, hb7⟩
  have hs7 := hb7.size
  have HB7 := Lib.hid (bthen HB6.out (Nat.le_refl _) hb7)
  have hz7 := HB7.out.size
  have x2_7 := bthen x2_6 (by simp) hb7
  have x3_7 := bthen x3_6 (by simp) hb7
  have x4_7 := bthen x4_6 (by simp) hb7
  have ha7 : Below w.heap.size w (w7.alloc (.cells #[.int .i64 mn, .int .i64 md] 27)) := HB7.out.alloc hz7 _
  have y2_7 : Below (w2.heap.size + 1) (w2.alloc (.cells #[.int .i64 f1, .int .i64 f2] 27)) (w7.alloc (.cells #[.int .i64 mn, .int .i64 md] 27)) := x2_7.alloc (by omega) _
  have y3_7 : Below (w3.heap.size + 1) (w3.alloc (.cells #[.int .i64 f1, .int .i64 f2] 27)) (w7.alloc (.cells #[.int .i64 mn, .int .i64 md] 27)) := x3_7.alloc (by omega) _
  have y4_7 : Below (w4.heap.size + 1) (w4.alloc (.cells #[.int .i64 cn, .int .i64 cd] 27)) (w7.alloc (.cells #[.int .i64 mn, .int .i64 md] 27)) := x4_7.alloc (by omega) _
  have y7_7 : Below (w7.heap.size + 1) (w7.alloc (.cells #[.int .i64 mn, .int .i64 md] 27)) (w7.alloc (.cells #[.int .i64 mn, .int .i64 md] 27)) := Below.refl _ _
  obtain ⟨Tf, hTf⟩ : ∃ P, P = tfP lot2 weak2 allowed2 mn md := ⟨_, rfl⟩
  have HTf := Lib.hid hTf
  have hc8 := fun W => implTestsFor_any lot2 weak2 allowed2 mn md W
  have hc9 := fun W => specTestsFor_any lot2 weak2 allowed2 mn md W
  rw [← hTf] at hc8 hc9
  clear hTf
  obtain ⟨k, three⟩ := Tf
  dsimp only at hc8 hc9
  have HC8 := Lib.hid hc8
  have HC9 := Lib.hid hc9
  clear hc7 hc8 hc9 hb7 x2_6 x3_6 x4_6 x2_7 x3_7 x4_7
  go_wp2_with fail
  refine (HC8.out _).mono ?_
  rintro e w8 ⟨rfl, hb8⟩
  have hs8 := hb8.size
  simp at hs8
  have HB8 := Lib.hid (bthen ha7 (Nat.le_refl _) hb8)
  have x2_8 := bthen y2_7 (by simp) hb8
  have x3_8 := bthen y3_7 (by simp) hb8
  have x4_8 := bthen y4_7 (by simp) hb8
  have x7_8 := bthen y7_7 (by simp) hb8
  have k7_0 : w8.cell? ⟨w7.heap.size, 0, none⟩ = some (.int .i64 mn) := by rw [x7_8.cell (p := ⟨w7.heap.size, 0, none⟩) (by simp)]; go_simp
  have k7_1 : w8.cell? ⟨w7.heap.size, 1, none⟩ = some (.int .i64 md) := by rw [x7_8.cell (p := ⟨w7.heap.size, 1, none⟩) (by simp)]; go_simp
  have l7 : w7.heap.size < w8.heap.size := by omega
  clear hb8 ha7 y2_7 y3_7 y4_7 y7_7
  go_wp2_with fail
  refine (HC9.out _).mono ?_
  rintro e w9 ⟨rfl, hb9⟩
  have hs9 := hb9.size
  have HB9 := Lib.hid (bthen HB8.out (Nat.le_refl _) hb9)
  have x2 := bthen x2_8 (by simp) hb9
  have x3 := bthen x3_8 (by simp) hb9
  have x4 := bthen x4_8 (by simp) hb9
  have x7 := bthen x7_8 (by simp) hb9
  have c20 : w9.cell? ⟨w2.heap.size, 0, none⟩ = some (.int .i64 f1) := by rw [x2.cell (p := ⟨w2.heap.size, 0, none⟩) (by simp)]; go_simp
  have c21 : w9.cell? ⟨w2.heap.size, 1, none⟩ = some (.int .i64 f2) := by rw [x2.cell (p := ⟨w2.heap.size, 1, none⟩) (by simp)]; go_simp
  have c30 : w9.cell? ⟨w3.heap.size, 0, none⟩ = some (.int .i64 f1) := by rw [x3.cell (p := ⟨w3.heap.size, 0, none⟩) (by simp)]; go_simp
  have c31 : w9.cell? ⟨w3.heap.size, 1, none⟩ = some (.int .i64 f2) := by rw [x3.cell (p := ⟨w3.heap.size, 1, none⟩) (by simp)]; go_simp
  have c40 : w9.cell? ⟨w4.heap.size, 0, none⟩ = some (.int .i64 cn) := by rw [x4.cell (p := ⟨w4.heap.size, 0, none⟩) (by simp)]; go_simp
  have c41 : w9.cell? ⟨w4.heap.size, 1, none⟩ = some (.int .i64 cd) := by rw [x4.cell (p := ⟨w4.heap.size, 1, none⟩) (by simp)]; go_simp
  have c70 : w9.cell? ⟨w7.heap.size, 0, none⟩ = some (.int .i64 mn) := by rw [x7.cell (p := ⟨w7.heap.size, 0, none⟩) (by simp)]; go_simp
  have c71 : w9.cell? ⟨w7.heap.size, 1, none⟩ = some (.int .i64 md) := by rw [x7.cell (p := ⟨w7.heap.size, 1, none⟩) (by simp)]; go_simp
  have l2 : w2.heap.size < w9.heap.size := by omega
  have l3 : w3.heap.size < w9.heap.size := by omega
  have l4 : w4.heap.size < w9.heap.size := by omega
  have l7' : w7.heap.size < w9.heap.size := by omega
  have hz9 := HB9.out.size
  have hq := fun W => neqFrac f1 f2 W
  clear hb9 x2 x3 x4 x7 x2_8 x3_8 x4_8 x7_8 k7_0 k7_1 l7 HC3 HC5 HC6 HC8 HC9 HB2 HB3 HB4 HB5 HB6 HB7 HB8
  generalize w2.heap.size = b2 at *
  generalize w3.heap.size = b3 at *
  generalize w4.heap.size = b4 at *
  generalize w7.heap.size = b7 at *
  clear hs3 hs4 hs5 hs6 hs7 hs8 hs9 hz2 hz3 hz4 hz6 hz7
  as_aux_lemma =>
  have HK : Hid (KeptP w b2 b4 b7 f1 f2 cn cd mn md w9) := Lib.hid ⟨HB9.out, l2, l4, l7', c20, c21, c40, c41, c70, c71⟩
  go_upto_region 14 with fail
  clear hq c20 c21 c30 c31 c40 c41 c70 c71 l2 l3 l4 l7' HB9 hz9 hlen HR HBY hbig
  obtain ⟨B1, hB1⟩ : ∃ B, B = (one == 0 && decide (n < l)) := ⟨_, rfl⟩
  go_cut [142] from 136 to 142 (fun s wx => s = .bool B1 ∧ wx = w9)
  case first =>
    as_aux_lemma =>
    by_cases h1 : one = 0
    · subst h1
      by_cases h2 : n < l
      · have hb : B1 = true := by rw [hB1]; simpa using h2
        go_wp2_with fail
        go_meet
        case rel => exact ⟨by rw [hb], rfl⟩
      · have hb : B1 = false := by rw [hB1]; simpa using h2
        have h3 : l ≤ n := by omega
        go_wp2_with fail
        go_meet
        case rel => exact ⟨by rw [hb], rfl⟩
    · have hb : B1 = false := by rw [hB1]; simp [h1]
      have h3 : (one == 0) = false := by rw [beq_eq_false_iff_ne]; exact h1
      go_wp2_with fail
      go_meet
      case rel => exact ⟨by rw [hb], rfl⟩
  case rest =>
  as_aux_lemma =>
  obtain ⟨rfl, rfl⟩ := hcut
  go_upto_if 142 with fail
  go_cut [2] from 136 to 166 (fun s wx => s = .bool false ∧ KeptP w b2 b4 b7 f1 f2 cn cd mn md wx)
  case first =>
    as_aux_lemma =>
    cases B1
    · go_wp2_with fail
      go_meet
      case rel => exact ⟨rfl, HK.out⟩
    · have h0 := hB1.symm
      rw [Bool.and_eq_true] at h0
      have h1 : one = 0 := by simpa using h0.1
      have h2 : n < l := by simpa using h0.2
      obtain ⟨n0, n1, hlt, _⟩ := wu_walk HWu.out h1
      obtain ⟨g1, g2, u, v, hc, e1, e2, huv⟩ := hlt h2
      have HCX := Lib.hid hc
      clear hc hB1 h0 hlt h1 h2
      go_wp2_with fail
      refine (HCX.out _).mono ?_
      rintro e wA ⟨rfl, hbA⟩
      have HKA := Lib.hid (HK.out.below hbA)
      obtain ⟨_, l2, l4, l7, c20, c21, c40, c41, c70, c71⟩ := HKA.out
      clear hbA
      go_wp2_with fail
      go_meet
      case rel => exact ⟨rfl, HKA.out.alloc _⟩
  case rest =>
  as_aux_lemma =>
  obtain ⟨rfl, hK⟩ := hcut
  have HK := Lib.hid hK
  clear hK hB1 B1
  go_upto_region 18 with fail
  obtain ⟨B2, hB2⟩ : ∃ B, B = (one == 0 && decide (0 < n)) := ⟨_, rfl⟩
  go_cut [172] from 167 to 172 (fun s wx => s = .bool B2 ∧ KeptP w b2 b4 b7 f1 f2 cn cd mn md wx)
  case first =>
    as_aux_lemma =>
    by_cases h1 : one = 0
    · subst h1
      by_cases h2 : 0 < n
      · have hb : B2 = true := by rw [hB2]; simpa using h2
        go_wp2_with fail
        go_meet
        case rel => exact ⟨by rw [hb], HK.out⟩
      · have hb : B2 = false := by rw [hB2]; simpa using h2
        have h3 : n ≤ 0 := by omega
        go_wp2_with fail
        go_meet
        case rel => exact ⟨by rw [hb], HK.out⟩
    · have hb : B2 = false := by rw [hB2]; simp [h1]
      have h3 : (one == 0) = false := by rw [beq_eq_false_iff_ne]; exact h1
      go_wp2_with fail
      go_meet
      case rel => exact ⟨by rw [hb], HK.out⟩
  case rest =>
  as_aux_lemma =>
  clear HK
  obtain ⟨rfl, hK⟩ := hcut
  have HK := Lib.hid hK
  clear hK
  go_upto_if 172 with fail
  go_cut [2] from 167 to 195 (fun s wx => s = .bool false ∧ KeptP w b2 b4 b7 f1 f2 cn cd mn md wx)
  case first =>
    as_aux_lemma =>
    cases B2
    · go_wp2_with fail
      go_meet
      case rel => exact ⟨rfl, HK.out⟩
    · have h0 := hB2.symm
      rw [Bool.and_eq_true] at h0
      have h1 : one = 0 := by simpa using h0.1
      have h2 : 0 < n := by simpa using h0.2
      obtain ⟨n0, n1, _, hlt⟩ := wu_walk HWu.out h1
      obtain ⟨g1, g2, u, v, hc, e1, e2, huv⟩ := hlt h2
      have HCX := Lib.hid hc
      clear hc hB2 h0 hlt h1 h2
      go_wp2_with fail
      refine (HCX.out _).mono ?_
      rintro e wA ⟨rfl, hbA⟩
      have HKA := Lib.hid (HK.out.below hbA)
      obtain ⟨_, l2, l4, l7, c20, c21, c40, c41, c70, c71⟩ := HKA.out
      clear hbA
      go_wp2_with fail
      go_meet
      case rel => exact ⟨rfl, HKA.out.alloc _⟩
  case rest =>
  as_aux_lemma =>
  clear HK
  obtain ⟨rfl, hK⟩ := hcut
  have HK := Lib.hid hK
  clear hK hB2 B2
  go_upto_if 197 with fail
  go_cut [2] from 196 to 251 (fun s wx => s = .bool false ∧ KeptP w b2 b4 b7 f1 f2 cn cd mn md wx)
  case first =>
    as_aux_lemma =>
    by_cases h1 : three = 0
    · subst h1
      obtain ⟨n0, n1, ⟨g1, g2, u, v, hc, e1, e2, huv⟩, hlt⟩ := tf_walk HTf.out rfl
      have HCX := Lib.hid hc
      clear hc
      by_cases h2 : 1 < k
      · obtain ⟨j1, j2, u2, v2, hc2, e3, e4, huv2⟩ := hlt h2
        have HCY := Lib.hid hc2
        clear hc2 hlt
        go_wp2_with fail
        refine (HCX.out _).mono ?_
        rintro e wA ⟨rfl, hbA⟩
        have HKA := Lib.hid (HK.out.below hbA)
        obtain ⟨_, l2, l4, l7, c20, c21, c40, c41, c70, c71⟩ := HKA.out
        clear hbA
        go_wp2_with fail
        refine (HCY.out _).mono ?_
        rintro e wB ⟨rfl, hbB⟩
        have HKB := Lib.hid ((HKA.out.alloc _).below hbB)
        clear l2 l4 l7 c20 c21 c40 c41 c70 c71
        obtain ⟨_, l2, l4, l7, c20, c21, c40, c41, c70, c71⟩ := HKB.out
        clear hbB
        go_wp2_with fail
        go_meet
        case rel => exact ⟨rfl, HKB.out.alloc _⟩
      · have h3 : k ≤ 1 := by omega
        clear hlt h2
        go_wp2_with fail
        refine (HCX.out _).mono ?_
        rintro e wA ⟨rfl, hbA⟩
        have HKA := Lib.hid (HK.out.below hbA)
        obtain ⟨_, l2, l4, l7, c20, c21, c40, c41, c70, c71⟩ := HKA.out
        clear hbA
        go_wp2_with fail
        go_meet
        case rel => exact ⟨rfl, HKA.out.alloc _⟩
    · have h3 : (three == 0) = false := by rw [beq_eq_false_iff_ne]; exact h1
      go_wp2_with fail
      go_meet
      case rel => exact ⟨rfl, HK.out⟩
  case rest =>
  as_aux_lemma =>
  clear HK
  obtain ⟨rfl, hK⟩ := hcut
  have HK := Lib.hid hK
  clear hK
  by_cases h1 : pc = 0
  rotate_left
  · have h3 : (pc != 0) = true := by rw [bne_iff_ne]; exact h1
    go_wp2_with fail
    go_ret
    exact ⟨rfl, HK.out.be⟩
  subst h1
  obtain ⟨a1, a2, a3, a4, a5, a6, a7, a8⟩ := pc_walk HP.out rfl
  have HA8 := Lib.hid a8
  clear a8
  obtain ⟨_, l2, l4, l7, c20, c21, c40, c41, c70, c71⟩ := HK.out
  go_upto_region 32 with fail
  go_cut [286] from 252 to 286 (fun s wx => s = .bool false ∧ KeptP w b2 b4 b7 f1 f2 cn cd mn md wx)
  case first =>
    as_aux_lemma =>
    by_cases h2 : allowed = tested
    · have h4 := a6 h2
      subst h4
      by_cases h3 : weak = 0
      · have d1 : (allowed == tested) = true := by simpa using h2
        have d2 : (weak == 0) = true := by simpa using h3
        clear a6 a7 h2 h3
        go_wp2_with fail
        go_meet
        case rel => exact ⟨by first | rfl | (simp [d1, d2]; done) | (simp [d1, d2]; omega), HK.out⟩
      · have d1 : (allowed == tested) = true := by simpa using h2
        have d2 : (weak == 0) = false := by simpa using h3
        clear a6 a7 h2 h3
        go_wp2_with fail
        go_meet
        case rel => exact ⟨by first | rfl | (simp [d1, d2]; done) | (simp [d1, d2]; omega), HK.out⟩
    · by_cases h3 : weak = 0
      · have h4 := a7 h3
        subst h4
        have d1 : (allowed == tested) = false := by simpa using h2
        have d2 : (weak == 0) = true := by simpa using h3
        clear a6 a7 h2 h3
        go_wp2_with fail
        go_meet
        case rel => exact ⟨by first | rfl | (simp [d1, d2]; done) | (simp [d1, d2]; omega), HK.out⟩
      · have d1 : (allowed == tested) = false := by simpa using h2
        have d2 : (weak == 0) = false := by simpa using h3
        clear a6 a7 h2 h3
        go_wp2_with fail
        go_meet
        case rel => exact ⟨by first | rfl | (simp [d1, d2]; done) | (simp [d1, d2]; omega), HK.out⟩
  case rest =>
  as_aux_lemma =>
  clear HK l2 l4 l7 c20 c21 c40 c41 c70 c71
  obtain ⟨rfl, hK⟩ := hcut
  have HK := Lib.hid hK
  clear hK
  by_cases h2 : weak = lot
  · have d1 : (weak == lot) = true := by simpa using h2
    clear h2 a6 a7
    go_wp2_with fail
    go_ret
    exact ⟨rfl, HK.out.be⟩
  have d1 : (weak == lot) = false := by simpa using h2
  by_cases h3 : 40 < lot
  · clear h2 a6 a7
    go_wp2_with fail
    go_ret
    exact ⟨rfl, HK.out.be⟩
  have h3' : lot ≤ 40 := by omega
  by_cases h4 : 5 < tested
  · clear h2 a6 a7
    go_wp2_with fail
    go_ret
    exact ⟨rfl, HK.out.be⟩
  have h4' : tested ≤ 5 := by omega
  obtain ⟨g1, g2, u, v, hc, e1, e2, huv⟩ := HA8.out h2 h3' h4'
  have HCX := Lib.hid hc
  clear hc h2 a6 a7
  go_wp2_with fail
  refine (HCX.out _).mono ?_
  rintro e wA ⟨rfl, hbA⟩
  have HKA := Lib.hid (HK.out.below hbA)
  obtain ⟨_, l2, l4, l7, c20, c21, c40, c41, c70, c71⟩ := HKA.out
  clear hbA
  go_wp2_with fail
  go_ret
  exact ⟨rfl, (HKA.out.alloc _).be⟩
end Go.Proofs.Ytpafdnclhenklaa
