/-
  Draws of tested bricks, classes and texts.
-/
import Derived.Test.YtehmghlhljocbaaGreatDoorTsClass
import Derived.Test.YtehmghlhljocbaaGreatDoorRdE
namespace Go.Proofs.YtehmghlhljocbaaGreatDoor
open Go.ChangeShapes Go.WideShapes Go.RowKit

theorem fromB {g : Nat} {w w1 w2 : World} (hg : g = w.heap.size) (hB : Below g w w1) (hF : Fs g w1 w2) : Below w.heap.size w w2 := by
  subst hg
  exact hB.trans (hF.below hB.size (Nat.le_refl _))
theorem rowCl : TyRow Tryz.prog 25 37 (.agg #[.string ByteArray.empty, .int .i64 (0), .int .i64 (0), .int .i64 (0)]) LClass.sz 40 := ⟨Tryz.underlying25, by kernel_rfl⟩
/-- bricks drawn out of code: of the call's own -/
def DrewTl (w0 : World) (e : Ending) (w' : World) : Prop :=
  ∃ (B : Option Addr) (d : Nat) (xs : List TestedD), e = .returned (.slice B xs.length d) ∧ xs.length ≤ 21 ∧ Rd LTested w' w'.heap.size B d xs ∧ Below w0.heap.size w0 w'
set_option maxRecDepth 100000 in
set_option maxHeartbeats 1600000 in
theorem drawTestedText_any (A : Option Addr) (c : Nat) (cs : List Int) (w : World) (hr : Rd LU w w.heap.size A c cs) (hb : ∀ x ∈ cs, 0 ≤ x ∧ x ≤ 255) :
    Calls Tryz.prog 20 #[.slice A cs.length c] w (DrewTl w) := by
  obtain ⟨g, hg⟩ : ∃ g, g = w.heap.size := ⟨_, rfl⟩
  have hc := from_at g A c cs w hg hr (Nat.le_refl _) hb
  have HG := Lib.hid hg
  clear hr hg
  go_enter Tryz.func20, Tryz.ntmps20
  go_wp2_with fail
  refine hc.mono ?_
  rintro e w1 ⟨rfl, hS, hB⟩
  have HB := Lib.hid hB
  have hc2 := l19Bent_any g A c cs 0 w1 hS (by omega)
  clear hc hS hB
  go_wp2_with fail
  refine hc2.mono ?_
  rintro e w2 ⟨B, d, xs, rfl, hl, ho, hS, hF⟩
  have HO := Lib.hid ho
  have HF := Lib.hid hF
  clear hc2 hS ho hF
  go_wp2_with fail
  go_ret
  exact ⟨B, d, xs, rfl, hl, HO.out.rd, fromB HG.out HB.out HF.out⟩
set_option maxRecDepth 100000 in
set_option maxHeartbeats 1600000 in
theorem drawCountWeak_any (A : Option Addr) (c : Nat) (cs : List Int) (w : World) (hr : Rd LU w w.heap.size A c cs) (hb : ∀ x ∈ cs, 0 ≤ x ∧ x ≤ 255) :
    Calls Tryz.prog 15 #[.slice A cs.length c] w fun e w' => ∃ (B : Option Addr) (d : Nat) (xs : List TestedD) (s : Int), e = .returned (.tuple #[.slice B xs.length d, .int .i64 s]) ∧ xs.length ≤ 21 ∧ Rd LTested w' w'.heap.size B d xs ∧ Below w.heap.size w w' := by
  obtain ⟨g, hg⟩ : ∃ g, g = w.heap.size := ⟨_, rfl⟩
  have hc := from_at g A c cs w hg hr (Nat.le_refl _) hb
  have HG := Lib.hid hg
  clear hr hg
  go_enter Tryz.func15, Tryz.ntmps15
  go_wp2_with fail
  refine hc.mono ?_
  rintro e w1 ⟨rfl, hS, hB⟩
  have HB := Lib.hid hB
  have hg1 := hS.g1
  have hc2 := l19Bent_any g A c cs 0 w1 hS (by omega)
  clear hc hS hB
  go_wp2_with fail
  refine hc2.mono ?_
  rintro e w2 ⟨B, d, xs, rfl, hl, ho, hS, hF⟩
  have HO := Lib.hid ho
  have HF := Lib.hid hF
  have hgB : ∀ b, blk B = some b → b ≠ g := fun b e => by have := (ho.blk_lt b e).1; intro h; omega
  have hc3 := one_any 8 g A c cs _ w2 hS (by omega) (by omega)
  clear hc2 hS ho hF
  go_wp2_with fail
  refine hc3.mono ?_
  rintro e w3 ⟨q, rfl, hS, hF⟩
  have HO3 := Lib.hid (hF.own HO.out (fun e => hgB g e rfl))
  have HF3 := Lib.hid (HF.out.trans hF)
  have HS3 := Lib.hid hS
  clear hc3 hS hF HO HF
  cases q
  · have hc4 := pick_any 30 g A c cs _ w3 HS3.out (by omega) (by omega)
    go_wp2_with fail
    refine hc4.mono ?_
    rintro e w4 ⟨x, rfl, x0, x1, hS, hF⟩
    have e1 : IntKind.i64.wrap (20 + x) = 20 + x := wrapS (by omega) (by omega)
    have e2 : IntKind.i64.wrap (100 * (20 + x)) = 100 * (20 + x) := wrapS (by omega) (by omega)
    have HO4 := Lib.hid (hF.own HO3.out (fun e => hgB g e rfl))
    have HF4 := Lib.hid (HF3.out.trans hF)
    clear hc4 hS hF
    go_wp2_with fail
    go_ret2
    exact ⟨B, d, xs, 100 * (20 + x), rfl, hl, HO4.out.rd, fromB HG.out HB.out HF4.out⟩
  · have hc4 := amongLit_any [-1, 0, 100000, 100001] 4 _ rfl rfl (by omega) (by omega) g A c cs _ w3 HS3.out (by omega)
    go_wp2_with fail
    refine hc4.mono ?_
    rintro e w4 ⟨x, rfl, hx, hS, hF⟩
    have HO4 := Lib.hid (hF.own HO3.out (fun e => hgB g e rfl))
    have HF4 := Lib.hid (HF3.out.trans hF)
    clear hc4 hS hF hx
    go_wp2_with fail
    go_ret2
    exact ⟨B, d, xs, x, rfl, hl, HO4.out.rd, fromB HG.out HB.out HF4.out⟩
set_option maxRecDepth 100000 in
set_option maxHeartbeats 1600000 in
theorem drawClassFault_any (A : Option Addr) (c : Nat) (cs : List Int) (w : World) (hr : Rd LU w w.heap.size A c cs) (hb : ∀ x ∈ cs, 0 ≤ x ∧ x ≤ 255) :
    Calls Tryz.prog 12 #[.slice A cs.length c] w fun e w' => ∃ (B : Option Addr) (d : Nat) (xs : List TestedD) (n : ByteArray) (m1 e1 w1 : Int), e = .returned (.tuple #[.slice B xs.length d, .agg #[.string n, .int .i64 m1, .int .i64 e1, .int .i64 w1]]) ∧ xs.length ≤ 21 ∧ OkClass (n, m1, e1, w1) ∧ Rd LTested w' w'.heap.size B d xs ∧ Below w.heap.size w w' := by
  obtain ⟨wa, hwa⟩ : ∃ W, W = w.alloc (.cells #[.string { data := #[] }, .int .i64 0, .int .i64 0, .int .i64 0] 37) := ⟨_, rfl⟩
  have hb0 : Below w.heap.size w wa := by rw [hwa]; exact (Below.refl _ w).alloc (Nat.le_refl _) _
  have hR : CB wa w.heap.size { data := #[] } 0 0 0 := by rw [hwa]; exact CB.new
  have hsa : w.heap.size < wa.heap.size := hR.lt
  obtain ⟨g, hg⟩ : ∃ g, g = wa.heap.size := ⟨_, rfl⟩
  have hc := from_at g A c cs wa hg ((hr.below hb0).more hb0.size) (Nat.le_refl _) hb
  have HG := Lib.hid hg
  have hgw : w.heap.size < g := by omega
  have HR := Lib.hid hR
  have HB0 := Lib.hid hb0
  clear hr hg hR hb0
  go_enter Tryz.func12, Tryz.ntmps12
  go_upto_region 1 with fail
  rw [← hwa]
  clear hwa
  go_wp2_with fail
  refine hc.mono ?_
  rintro e w1 ⟨rfl, hS, hB⟩
  have HB := Lib.hid hB
  have hg1 := hS.g1
  have HR1 := Lib.hid (HR.out.below (by have h := hB; rw [HG.out] at h; exact h))
  have hc2 := l19Bent_any g A c cs 0 w1 hS (by omega)
  clear hc hS hB HR
  go_wp2_with fail
  refine hc2.mono ?_
  rintro e w2 ⟨B, d, xs, rfl, hl, ho, hS, hF⟩
  have HO := Lib.hid ho
  have HF := Lib.hid hF
  have HR2 := Lib.hid (HR1.out.fs hF (by omega))
  have hgB : blk B ≠ some g := fun e => by have := (ho.blk_lt g e).1; omega
  have hgC : blk B ≠ some w.heap.size := fun e => by have := (ho.blk_lt _ e).1; omega
  have hc3 := l19DrawClass_any g A c cs _ w2 hS (by omega)
  clear hc2 hS ho hF HR1
  go_wp2_with fail
  refine hc3.mono ?_
  rintro e w3 ⟨n, m1, e1, t1, rfl, hok, hS, hF⟩
  have HO3 := Lib.hid (hF.own HO.out hgB)
  have HF3 := Lib.hid (HF.out.trans hF)
  have HOK := Lib.hid hok
  obtain ⟨r0, r1, r2, r3, rf, rl⟩ := HR2.out.fs hF (by omega)
  clear hc3 hS hF HR2 hok
  go_wp2_with fail
  refine bodyPost_ret (v := .tuple #[.slice B xs.length d, .agg #[.string n, .int .i64 m1, .int .i64 e1, .int .i64 t1]]) (by simp [results, Tryz.results12, go_sem]; go_simp) rfl ⟨B, d, xs, n, m1, e1, t1, rfl, hl, HOK.out, ?_, ?_⟩
  · exact ((((HO3.out.setFar hgC _).setFar hgC _).setFar hgC _).setFar hgC _).rd
  · refine Below.trans ((HB0.out.trans (HB.out.mono (by omega))).trans (HF3.out.below (B := w.heap.size) (by omega) (by omega))) ?_
    repeat' (first | exact Below.refl _ _ | (refine Below.setCell ?_ ?_ _) | (dsimp only; omega))
set_option maxRecDepth 100000 in
set_option maxHeartbeats 1600000 in
theorem drawBestClass_any (A : Option Addr) (c : Nat) (cs : List Int) (w : World) (hr : Rd LU w w.heap.size A c cs) (hb : ∀ x ∈ cs, 0 ≤ x ∧ x ≤ 255) :
    Calls Tryz.prog 5 #[.slice A cs.length c] w fun e w' => ∃ (B : Option Addr) (d : Nat) (xs : List TestedD) (B2 : Option Addr) (d2 : Nat) (ks : List ClassD), e = .returned (.tuple #[.slice B xs.length d, .slice B2 ks.length d2]) ∧ xs.length ≤ 21 ∧ ks.length ≤ 4 ∧ (∀ n ∈ ks, OkClass n) ∧ Rd LTested w' w'.heap.size B d xs ∧ Rd LClass w' w'.heap.size B2 d2 ks ∧ Below w.heap.size w w' := by
  obtain ⟨g, hg⟩ : ∃ g, g = w.heap.size := ⟨_, rfl⟩
  have hc := from_at g A c cs w hg hr (Nat.le_refl _) hb
  have HG := Lib.hid hg
  clear hr hg
  go_enter Tryz.func5, Tryz.ntmps5
  go_wp2_with fail
  refine hc.mono ?_
  rintro e w1 ⟨rfl, hS, hB⟩
  have HB := Lib.hid hB
  have hg1 := hS.g1
  have hc2 := l19Bent_any g A c cs 0 w1 hS (by omega)
  clear hc hS hB
  go_wp2_with fail
  refine hc2.mono ?_
  rintro e w2 ⟨B, d, xs, rfl, hl, ho, hS, hF⟩
  have hgB : blk B ≠ some g := fun e => by have := (ho.blk_lt g e).1; omega
  have hs2 := hF.size
  have hba : Below w1.heap.size w2 (w2.alloc (.cells #[] 37)) := (Below.refl _ _).alloc (by omega) _
  have HO2 := Lib.hid (ho.alloc (.cells #[] 37))
  have HF2 := Lib.hid (hF.then_ hba (Nat.le_refl _))
  have hB2 := fun g' hg' => (ho.blk_lt g' hg').2
  have HC0 : Own LClass 37 (w2.alloc (.cells #[] 37)) w2.heap.size (some ⟨w2.heap.size, 0, none⟩) 0 ([] : List ClassD) := Own.lit0 _ (Nat.le_refl _) rfl
  have hc3 := pick_any 5 g A c cs _ _ (hS.belowB hba hg1) (by omega) (by omega)
  clear hc2 hS ho hF hba
  go_wp2_with fail
  refine hc3.mono ?_
  rintro e w3 ⟨x, rfl, x0, x1, hS, hF⟩
  obtain ⟨K, rfl⟩ : ∃ K : Nat, x = (K : Int) := ⟨x.toNat, by omega⟩
  have hK : K ≤ 4 := by omega
  have hs3 := hF.size
  simp at hs3
  have HO3 := Lib.hid (hF.own HO2.out hgB)
  have HC3 := Lib.hid (hF.own HC0 (by intro e; injection e with e; dsimp only at e; omega))
  have HF3 := Lib.hid (HF2.out.trans hF)
  have HS3 := Lib.hid hS
  clear hc3 hS hF HO2 HF2 HC0 x0 x1
  go_wp2_with fail
  go_loopw [6, 7] (fun o i wr => ∃ (L : List ClassD) (A1 : Option Addr) (c1 : Nat), L.length ≤ K ∧ i = .int .i64 ((K : Int) - L.length) ∧ o = .slice A1 L.length c1 ∧ Hid (∀ n ∈ L, OkClass n) ∧ Hid (Own LClass 37 wr w2.heap.size A1 c1 L) ∧ Hid (Own LTested 54 wr w1.heap.size B d xs) ∧ Hid (Sr wr g A c cs (200 + 40 * L.length)) ∧ Hid (Fs g w1 wr) ∧ w2.heap.size ≤ wr.heap.size) (fun _ i _ => (intOf i).toNat)
  case atStart => exact ⟨[], _, _, by simp, by go_num, rfl, Lib.hid (fun n hn => by cases hn), HC3, HO3, Lib.hid (HS3.out.more (by simp)), HF3, by omega⟩
  case round =>
    obtain ⟨L, A1, c1, hj, rfl, rfl, HOK, HC, HO, HS, HF, hw2⟩ := hrel
    by_cases hlt : L.length < K
    · have hki : (0 : Int) < (K : Int) - L.length := by omega
      have hl4 : L.length < 4 := by omega
      have hc2 := l19DrawClass_any g A c cs _ wr HS.out (by omega)
      have hnn := HC.out.blk_lt
      go_wp2_with fail
      refine hc2.mono ?_
      rintro e w4 ⟨n, m1, e1, t1, rfl, hok, hS, hF⟩
      have hs4 := hF.size
      have hC4 := hF.own HC.out (fun e => by have := (hnn g e).1; omega)
      have HO4 := Lib.hid (hF.own HO.out hgB)
      have HF4 := Lib.hid (HF.out.trans hF)
      have HS4 := Lib.hid hS
      have HOKn := Lib.hid hok
      clear hc2 hS hF hok
      go_wp2_with (at_builtin; go_loud (refine wpL_app1 (L := LClass) rowCl rfl rfl _ _ rfl rfl hC4 (n, m1, e1, t1) _ rfl rfl (by simp) (by unfold maxLen; omega) (by omega) (by omega) ?_); intro A6 c6 w6 ho6 hg6)
      have hbw : Below w2.heap.size w4 w6 := Grew.below (Below.refl _ _) hg6 (by omega) (fun b e => (hnn b e).1)
      have HS6 := Lib.hid (HS4.out.belowB hbw (by omega))
      have HF6 := Lib.hid (HF4.out.then_ hbw (by omega))
      have HO6 := Lib.hid (HO4.out.keep hbw (fun b e => hB2 b e))
      have HC6 := Lib.hid ho6
      have hs6 := hbw.size
      have HOK6 : Hid (∀ x ∈ L ++ [(n, m1, e1, t1)], OkClass x) := Lib.hid (fun x hx => by
        rcases List.mem_append.1 hx with h | h
        · exact HOK.out x h
        · simp at h; rw [h]; exact HOKn.out)
      clear ho6 hg6 hbw hC4
      go_roundw
      case rel => exact ⟨L ++ [(n, m1, e1, t1)], A6, c6, by simp; omega, by go_num, by simp, HOK6, HC6, HO6, Lib.hid (HS6.out.more (by simp; omega)), HF6, by omega⟩
      case measure => simp [intOf]; omega
    · have hki : (K : Int) - L.length ≤ 0 := by omega
      go_wp2_with fail
      go_ret2
      exact ⟨B, d, xs, A1, c1, L, rfl, hl, by omega, HOK.out, HO.out.rd, HC.out.rd, fromB HG.out HB.out HF.out⟩
end Go.Proofs.YtehmghlhljocbaaGreatDoor
