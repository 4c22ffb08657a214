/-
  The source of draws: from its place.
-/
import Derived.Test.YtiefiikheaiekaaDoorBytes8
import Derived.Test.YtiefiikheaiekaaDoorNum
import Derived.Test.YtiefiikheaiekaaDoorSteps
import Derived.Deep.QuietTactic
import Derived.Laws.Bits64b
import Derived.BigQuiet
/-
  The source of draws (l00Src): its state in memory; next, pick, one, among.
-/
namespace Go.Proofs.YtiefiikheaiekaaDoor
open Go.ChangeShapes Go.WideShapes Go.RowKit

/-- nothing but one block has turned -/
structure Fs (g : Nat) (w w' : World) : Prop where
  os : w'.os = w.os
  tape : w'.tape = w.tape
  output : w'.output = w.output
  size : w.heap.size ≤ w'.heap.size
  block : ∀ k, k < w.heap.size → k ≠ g → w'.heap[k]? = w.heap[k]?
section
variable {g : Nat} {w w1 w' : World}
theorem Fs.refl (g : Nat) (w : World) : Fs g w w := ⟨rfl, rfl, rfl, Nat.le_refl _, fun _ _ _ => rfl⟩
theorem Fs.trans (h : Fs g w w1) (h2 : Fs g w1 w') : Fs g w w' :=
  ⟨h2.os.trans h.os, h2.tape.trans h.tape, h2.output.trans h.output, Nat.le_trans h.size h2.size, fun k hk n => (h2.block k (by have := h.size; omega) n).trans (h.block k hk n)⟩
theorem Fs.of_below (h : Below w.heap.size w w') : Fs g w w' := ⟨h.os, h.tape, h.output, h.size, fun k hk _ => h.block k hk⟩
theorem Fs.set (h : Fs g w w') (i : Nat) (v : Value) : Fs g w (w'.setCell ⟨g, i, none⟩ v) :=
  ⟨h.os, h.tape, h.output, by have := h.size; simpa using this, fun k hk n => (Below.heap_setCell w' ⟨g, i, none⟩ v k (fun e => n (by simpa using e))).trans (h.block k hk n)⟩
theorem Fs.drewN (h : Fs g w w') (n : Nat) : Fs g w (w'.drewN n) := ⟨h.os, h.tape, h.output, h.size, h.block⟩
theorem Fs.drew (h : Fs g w w') : Fs g w w'.drew := ⟨h.os, h.tape, h.output, h.size, h.block⟩
theorem Fs.below (h : Fs g w w') {B : Nat} (hB : B ≤ w.heap.size) (hg : B ≤ g) : Below B w w' := ⟨h.os, h.tape, h.output, h.size, fun k hk => h.block k (by omega) (by omega)⟩
theorem Fs.own (h : Fs g w w') {α : Type} {L : Lay α} {T : TypeId} {base c : Nat} {A : Option Addr} {xs : List α} (ho : Own L T w base A c xs) (hn : blk A ≠ some g) : Own L T w' base A c xs :=
  ho.keepBlk fun k hk => h.block k (ho.blk_lt k hk).2 (fun e => hn (by rw [hk, e]))
theorem Fs.cell (h : Fs g w w') (p : Addr) (hlt : p.block < w.heap.size) (hne : p.block ≠ g) : w'.cell? p = w.cell? p := by
  unfold World.cell?
  rw [h.block p.block hlt hne]
end
/-- the source's state: at most m bytes read -/
structure Sr (w : World) (g : Nat) (A : Option Addr) (c : Nat) (cs : List Int) (m : Nat) : Prop where
  c0 : w.cell? ⟨g, 0, none⟩ = some (.slice A cs.length c)
  c1 : ∃ a : Nat, a ≤ m ∧ w.cell? ⟨g, 1, none⟩ = some (.int .i64 a)
  c2 : ∃ s : Int, w.cell? ⟨g, 2, none⟩ = some (.int .u64 s)
  f1 : w.frozen? ⟨g, 1, none⟩ = false
  f2 : w.frozen? ⟨g, 2, none⟩ = false
  rd : Rd LU w g A c cs
  by_ : ∀ x ∈ cs, 0 ≤ x ∧ x ≤ 255
  g1 : g < w.heap.size
section
variable {w w' : World} {g c m m' : Nat} {A : Option Addr} {cs : List Int}
theorem Sr.below (h : Sr w g A c cs m) (hb : Below w.heap.size w w') : Sr w' g A c cs m := by
  have hg := h.g1
  obtain ⟨a, ha, hc⟩ := h.c1
  obtain ⟨s, hs⟩ := h.c2
  exact ⟨(hb.cell (p := ⟨g, 0, none⟩) hg).trans h.c0, ⟨a, ha, (hb.cell (p := ⟨g, 1, none⟩) hg).trans hc⟩, ⟨s, (hb.cell (p := ⟨g, 2, none⟩) hg).trans hs⟩, (hb.frozen (p := ⟨g, 1, none⟩) hg).trans h.f1, (hb.frozen (p := ⟨g, 2, none⟩) hg).trans h.f2, h.rd.below (hb.mono (by omega)), h.by_, by have := hb.size; omega⟩
theorem Sr.more (h : Sr w g A c cs m) (hm : m ≤ m') : Sr w g A c cs m' := by
  obtain ⟨a, ha, hc⟩ := h.c1
  exact ⟨h.c0, ⟨a, by omega, hc⟩, h.c2, h.f1, h.f2, h.rd, h.by_, h.g1⟩
theorem cell_setS {w : World} {g i j : Nat} (v : Value) (hij : j ≠ i) : (w.setCell ⟨g, i, none⟩ v).cell? ⟨g, j, none⟩ = w.cell? ⟨g, j, none⟩ := World.cell?_setCell_other w _ _ v (fun e => hij (by injection e with _ h _; exact h.symm))
theorem Sr.step (h : Sr w g A c cs m) {a : Nat} (ha : a ≤ m') (s : Int) : Sr ((w.setCell ⟨g, 1, none⟩ (.int .i64 a)).setCell ⟨g, 2, none⟩ (.int .u64 s)) g A c cs m' := by
  obtain ⟨a0, _, hc⟩ := h.c1
  obtain ⟨s0, hs⟩ := h.c2
  refine ⟨by rw [cell_setS _ (by omega), cell_setS _ (by omega)]; exact h.c0, ⟨a, ha, ?_⟩, ⟨s, ?_⟩, by simpa using h.f1, by simpa using h.f2, (h.rd.setCell (p := ⟨g, 1, none⟩) (Nat.le_refl _) _).setCell (p := ⟨g, 2, none⟩) (Nat.le_refl _) _, h.by_, by have := h.g1; simpa using this⟩
  · rw [cell_setS _ (by omega)]
    exact World.cell?_setCell_same' _ _ _ (by rw [hc]; rfl)
  · have e : (w.setCell ⟨g, 1, none⟩ (.int .i64 a)).cell? ⟨g, 2, none⟩ = some (.int .u64 s0) := by rw [cell_setS _ (by omega)]; exact hs
    exact World.cell?_setCell_same' _ _ _ (by rw [e]; rfl)
theorem Sr.drewN (h : Sr w g A c cs m) (n : Nat) : Sr (w.drewN n) g A c cs m := ⟨h.c0, h.c1, h.c2, h.f1, h.f2, h.rd.drewN n, h.by_, h.g1⟩
end
/-- a number drawn, and the source goes on -/
def Drew (g : Nat) (A : Option Addr) (c : Nat) (cs : List Int) (m : Nat) (lo hi : Int) (w : World) (e : Ending) (w' : World) : Prop :=
  ∃ v : Int, e = .returned (.int .i64 v) ∧ lo ≤ v ∧ v ≤ hi ∧ Sr w' g A c cs m ∧ Fs g w w'

theorem and255 {x : Int} (h0 : 0 ≤ x) (h1 : x < 18446744073709551616) : 0 ≤ wrap64 (bits .and .u64 x 255) ∧ wrap64 (bits .and .u64 x 255) ≤ 255 := by
  obtain ⟨n, rfl⟩ : ∃ n : Nat, x = (n : Int) := ⟨x.toNat, by omega⟩
  have e := bits_and_u64_nat n 255 (by omega) (by omega)
  rw [show ((255 : Nat) : Int) = 255 from rfl] at e
  rw [e]
  have h := @Nat.and_le_right n 255
  generalize (n &&& 255 : Nat) = r at *
  unfold wrap64
  omega
theorem wrapU_bd (n : Int) : 0 ≤ IntKind.u64.wrap n ∧ IntKind.u64.wrap n ≤ 18446744073709551615 := by
  rw [show IntKind.u64.wrap n = n % 18446744073709551616 by simp [IntKind.wrap, IntKind.bits, IntKind.signed]]
  omega

set_option maxRecDepth 100000 in
set_option maxHeartbeats 1600000 in
theorem next_any (g : Nat) (A : Option Addr) (c : Nat) (cs : List Int) (m : Nat) (w : World) (h : Sr w g A c cs m) (hm : m ≤ 4611686018427387904) :
    Calls Tryd.prog 58 #[.pointer (some ⟨g, 0, none⟩)] w (Drew g A c cs (m + 1) 0 255 w) := by
  obtain ⟨a, ha, k1⟩ := h.c1
  obtain ⟨s, k2⟩ := h.c2
  have k0 := h.c0
  have f1 := h.f1
  have f2 := h.f2
  have hg := h.g1
  have hlen := h.rd.len63
  have HS := Lib.hid h
  clear h
  by_cases hlt : a < cs.length
  · obtain ⟨ad, rfl, hab, hc⟩ := HS.out.rd.u8 hlt
    have hb := HS.out.by_ _ (List.getElem_mem hlt)
    obtain ⟨b0, b1⟩ := hb
    generalize cs[a] = b at *
    have hlti : (a : Int) < cs.length := by omega
    have hle : (a : Int) + 1 ≤ cs.length := by omega
    have hne : (ad.add a).block ≠ g := by rw [block_of_add]; omega
    go_enter Tryd.func58, Tryd.ntmps58
    go_wp2_with fail
    go_quiet (fail)
    go_wp2_with fail
    go_quiet (fail)
    go_wp2_with fail
    generalize IntKind.u64.wrap (IntKind.u64.wrap (IntKind.u64.wrap (s * 6364136223846793005) + b) + 1442695040888963407) = S
    have HT := Lib.hid (fun j => (HS.out.drewN j).step (a := a + 1) (m' := m + 1) (by omega) S)
    have HF := Lib.hid (fun j => (((Fs.refl g w).drewN j).set 1 (.int .i64 ((a + 1 : Nat) : Int))).set 2 (.int .u64 S))
    go_quiet (fail)
    go_wp2_with fail
    go_ret
    exact ⟨b, rfl, b0, b1, (HT.out _).drewN _, (HF.out _).drewN _⟩
  · have hlti : (cs.length : Int) ≤ a := by omega
    have hle : (cs.length : Int) < (a : Int) + 1 := by omega
    go_enter Tryd.func58, Tryd.ntmps58
    go_wp2_with fail
    go_quiet (fail)
    go_wp2_with fail
    have hSr := wrapU_bd (IntKind.u64.wrap (IntKind.u64.wrap (s * 6364136223846793005)) + 1442695040888963407)
    generalize IntKind.u64.wrap (IntKind.u64.wrap (IntKind.u64.wrap (s * 6364136223846793005)) + 1442695040888963407) = S at *
    have HT := Lib.hid (fun j => (HS.out.drewN j).step (a := a + 1) (m' := m + 1) (by omega) S)
    have HF := Lib.hid (fun j => (((Fs.refl g w).drewN j).set 1 (.int .i64 ((a + 1 : Nat) : Int))).set 2 (.int .u64 S))
    go_quiet (fail)
    go_wp2_with fail
    go_ret
    refine ⟨_, rfl, ?_, ?_, (HT.out _).drewN _, (HF.out _).drewN _⟩
    · exact (and255 (by omega) (by omega)).1
    · exact (and255 (by omega) (by omega)).2
theorem l00From_any (A : Option Addr) (c : Nat) (cs : List Int) (w : World) (hr : Rd LU w w.heap.size A c cs) (hb : ∀ x ∈ cs, 0 ≤ x ∧ x ≤ 255) :
    Calls Tryd.prog 33 #[.slice A cs.length c] w fun e w' => e = .returned (.pointer (some ⟨w.heap.size, 0, none⟩)) ∧ Sr w' w.heap.size A c cs 0 ∧ Below w.heap.size w w' := by
  have hlen := hr.len63
  have HR := Lib.hid hr
  clear hr
  go_enter Tryd.func33, Tryd.ntmps33
  go_wp2_with fail
  go_ret
  refine ⟨rfl, ⟨by go_simp, ⟨0, Nat.le_refl _, by go_simp⟩, ⟨0, by go_simp⟩, by go_simp, by go_simp, HR.out.alloc (Nat.le_refl _) _, hb, by simp⟩, (Below.refl _ _).alloc (Nat.le_refl _) _⟩
set_option maxRecDepth 100000 in
set_option maxHeartbeats 1600000 in
theorem pick_any (n : Int) (g : Nat) (A : Option Addr) (c : Nat) (cs : List Int) (m : Nat) (w : World) (h : Sr w g A c cs m) (hm : m ≤ 4611686018427387000) (hn : n ≤ 100000000) :
    Calls Tryd.prog 35 #[.pointer (some ⟨g, 0, none⟩), .int .i64 n] w (Drew g A c cs (m + 2) 0 (max 0 (n - 1)) w) := by
  have HS := Lib.hid h
  clear h
  by_cases h1 : n ≤ 1
  · go_enter Tryd.func35, Tryd.ntmps35
    go_wp2_with fail
    go_ret
    exact ⟨0, rfl, by omega, by omega, HS.out.more (by omega), Fs.refl _ _⟩
  · have h2 : 1 < n := by omega
    have hc := next_any g A c cs m w HS.out (by omega)
    by_cases h3 : 200 < n
    · go_enter Tryd.func35, Tryd.ntmps35
      go_wp2_with fail
      refine hc.mono ?_
      rintro e w1 ⟨x, rfl, x0, x1, hS1, hF1⟩
      have hc2 := next_any g A c cs (m + 1) w1 hS1 (by omega)
      have HF1 := Lib.hid hF1
      clear hc hS1 hF1
      go_wp2_with fail
      refine hc2.mono ?_
      rintro e w2 ⟨y, rfl, y0, y1, hS2, hF2⟩
      have HS2 := Lib.hid hS2
      have HF2 := Lib.hid (HF1.out.trans hF2)
      clear hc2 hS2 hF2
      go_wp2_with fail
      go_ret
      have e1 := Int.emod_nonneg (x * 256 + y) (show n ≠ 0 by omega)
      have e2 := Int.emod_lt_of_pos (x * 256 + y) (show 0 < n by omega)
      exact ⟨_, rfl, e1, by omega, HS2.out.more (by omega), HF2.out⟩
    · go_enter Tryd.func35, Tryd.ntmps35
      go_wp2_with fail
      refine hc.mono ?_
      rintro e w1 ⟨x, rfl, x0, x1, hS1, hF1⟩
      have HS1 := Lib.hid hS1
      have HF1 := Lib.hid hF1
      clear hc hS1 hF1
      go_wp2_with fail
      go_ret
      have e1 := Int.emod_nonneg x (show n ≠ 0 by omega)
      have e2 := Int.emod_lt_of_pos x (show 0 < n by omega)
      exact ⟨_, rfl, e1, by omega, HS1.out.more (by omega), HF1.out⟩
def DrewB (g : Nat) (A : Option Addr) (c : Nat) (cs : List Int) (m : Nat) (w : World) (e : Ending) (w' : World) : Prop :=
  ∃ b : Bool, e = .returned (.bool b) ∧ Sr w' g A c cs m ∧ Fs g w w'
theorem one_any (n : Int) (g : Nat) (A : Option Addr) (c : Nat) (cs : List Int) (m : Nat) (w : World) (h : Sr w g A c cs m) (hm : m ≤ 4611686018427387000) (hn : n ≤ 100000000) :
    Calls Tryd.prog 34 #[.pointer (some ⟨g, 0, none⟩), .int .i64 n] w (DrewB g A c cs (m + 2) w) := by
  have hc := pick_any n g A c cs m w h hm hn
  go_enter Tryd.func34, Tryd.ntmps34
  go_wp2_with fail
  refine hc.mono ?_
  rintro e w1 ⟨x, rfl, x0, x1, hS1, hF1⟩
  have HS1 := Lib.hid hS1
  have HF1 := Lib.hid hF1
  clear hc hS1 hF1
  go_wp2_with fail
  go_ret
  exact ⟨_, rfl, HS1.out, HF1.out⟩
def DrewIn (g : Nat) (A : Option Addr) (c : Nat) (cs : List Int) (m : Nat) (xs : List Int) (w : World) (e : Ending) (w' : World) : Prop :=
  ∃ v : Int, e = .returned (.int .i64 v) ∧ v ∈ xs ∧ Sr w' g A c cs m ∧ Fs g w w'
end Go.Proofs.YtiefiikheaiekaaDoor
/-
  The source of draws: one of a list that is written there; frames.
-/
namespace Go.Proofs.YtiefiikheaiekaaDoor
open Go.ChangeShapes Go.WideShapes Go.RowKit

theorem Sr.belowB {w w' : World} {g c m B : Nat} {A : Option Addr} {cs : List Int} (h : Sr w g A c cs m) (hb : Below B w w') (hB : g < B) : Sr w' g A c cs m := by
  have hg := h.g1
  obtain ⟨a, ha, hc⟩ := h.c1
  obtain ⟨s, hs⟩ := h.c2
  exact ⟨(hb.cell (p := ⟨g, 0, none⟩) hB).trans h.c0, ⟨a, ha, (hb.cell (p := ⟨g, 1, none⟩) hB).trans hc⟩, ⟨s, (hb.cell (p := ⟨g, 2, none⟩) hB).trans hs⟩, (hb.frozen (p := ⟨g, 1, none⟩) hB).trans h.f1, (hb.frozen (p := ⟨g, 2, none⟩) hB).trans h.f2, h.rd.below (hb.mono (by omega)), h.by_, by have := hb.size; omega⟩
theorem Fs.then_ {g B : Nat} {w w1 w' : World} (h : Fs g w w1) (hb : Below B w1 w') (hB : w.heap.size ≤ B) : Fs g w w' :=
  ⟨hb.os.trans h.os, hb.tape.trans h.tape, hb.output.trans h.output, by have := h.size; have := hb.size; omega, fun k hk n => (hb.block k (by omega)).trans (h.block k hk n)⟩
theorem Fs.frozen {g : Nat} {w w' : World} (h : Fs g w w') (p : Addr) (hlt : p.block < w.heap.size) (hne : p.block ≠ g) : w'.frozen? p = w.frozen? p := by
  unfold World.frozen?
  rw [h.block p.block hlt hne]
def DrewV (g : Nat) (A : Option Addr) (c : Nat) (cs : List Int) (m : Nat) (xs : List Int) (w : World) (e : Ending) (w' : World) : Prop :=
  ∃ v : Int, e = .returned (.int .i64 v) ∧ v ∈ xs ∧ Sr w' g A c cs m ∧ Fs g w w'
theorem Own.str {T : TypeId} {w : World} {base c : Nat} {A : Option Addr} {xs : List ByteArray} (h : Own LS T w base A c xs) {k : Nat} (hk : k < xs.length) :
    ∃ g, A = some ⟨g, 0, none⟩ ∧ base ≤ g ∧ g < w.heap.size ∧ w.cell? ⟨g, k, none⟩ = some (.string xs[k]) ∧ w.frozen? ⟨g, k, none⟩ = false := by
  obtain ⟨g, rfl, hb, hlt⟩ := h.ptr (by omega)
  refine ⟨g, rfl, hb, hlt, ?_, World.ownsRow.frozenAt h k⟩
  rw [World.ownsRow.cellAt h k (by simp [LS]; omega), flat_str]
  simp [hk]
def DrewT (g : Nat) (A : Option Addr) (c : Nat) (cs : List Int) (m : Nat) (xs : List ByteArray) (w : World) (e : Ending) (w' : World) : Prop :=
  ∃ v : ByteArray, e = .returned (.string v) ∧ v ∈ xs ∧ Sr w' g A c cs m ∧ Fs g w w'
end Go.Proofs.YtiefiikheaiekaaDoor
/-
  The source of draws: from its place.
-/
namespace Go.Proofs.YtiefiikheaiekaaDoor
open Go.ChangeShapes Go.WideShapes Go.RowKit

theorem from_at (g : Nat) (A : Option Addr) (c : Nat) (cs : List Int) (w : World) (hg : g = w.heap.size) {B : Nat} (hr : Rd LU w B A c cs) (hB : B ≤ w.heap.size) (hb : ∀ x ∈ cs, 0 ≤ x ∧ x ≤ 255) :
    Calls Tryd.prog 33 #[.slice A cs.length c] w fun e w' => e = .returned (.pointer (some ⟨g, 0, none⟩)) ∧ Sr w' g A c cs 0 ∧ Below g w w' := by
  subst hg
  exact l00From_any A c cs w (hr.more hB) hb
theorem Sr.dr {w : World} {g c m : Nat} {A : Option Addr} {cs : List Int} (h : Sr w g A c cs m) : Sr w.drew g A c cs m := ⟨h.c0, h.c1, h.c2, h.f1, h.f2, h.rd.drew, h.by_, h.g1⟩
end Go.Proofs.YtiefiikheaiekaaDoor
