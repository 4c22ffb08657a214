/-
  yardState.settled: the walk.
-/
import Derived.Test.YtiefiikheaiekaaDoorMovesSet
import Derived.Test.YtiefiikheaiekaaDoorSched
namespace Go.Proofs.YtiefiikheaiekaaDoor
open Go.ChangeShapes Go.WideShapes Go.RowKit

/-- what holds of the state in the boxes -/
structure SetI (G : Nat → Prop) (B0 : Nat) (FIN : St) (o : List Int) (w wr : World) (s : MS) : Prop where
  fin : FIN = settle o s.st
  inv : Inv (dat s.rs) (o.drop s.d)
  ok : MSok (fun b => G b ∨ (w.heap.size ≤ b ∧ b ≤ w.heap.size + 2)) B0 wr s
  len : s.M.length + o.length ≤ 1000000 + s.d
theorem SetI.bd {G : Nat → Prop} {B0 : Nat} {FIN : St} {o : List Int} {w wr : World} {s : MS} (h : SetI G B0 FIN o w wr s) : s.rs.length ≤ 4 ∧ ∀ r ∈ s.rs, r.2.2.length ≤ 6 := by
  obtain ⟨h1, h2⟩ := vy_rows h.inv.vy
  rw [dat_len] at h1
  exact ⟨h1, fun r hr => h2 _ (List.mem_map.2 ⟨r, hr, rfl⟩)⟩

theorem SetI.next {G : Nat → Prop} {B0 : Nat} {FIN : St} {o : List Int} {w wr w' : World} {A1 A5 A6 Am1 : Option Addr} {c1 c5 c6 cm1 d1 k : Nat} {rs1 os : List (Row Int)} {M1 : List (Int × Int)} (h : SetI G B0 FIN o w wr ⟨A1, c1, rs1, d1, Am1, cm1, M1⟩) (hlt : d1 < o.length) (hk : nextK (dat rs1) o[d1] = some k) (hd : dat os = mvX (dat rs1) k (-1))
    (hy : HY (fun b => G b ∨ (w.heap.size ≤ b ∧ b ≤ w.heap.size + 2)) w' A5 c5 os) (hm : Own LMove 45 w' B0 A6 c6 (M1 ++ [((k : Int), -1)])) (hap : ∀ b, blk A6 = some b → ¬ (G b ∨ (w.heap.size ≤ b ∧ b ≤ w.heap.size + 2))) : SetI G B0 FIN o w w' ⟨A5, c5, os, d1 + 1, A6, c6, M1 ++ [((k : Int), -1)]⟩ := by
  have hi := h.inv
  simp only at hi
  rw [drop_at hlt] at hi
  refine ⟨?_, ?_, ⟨hy, hm, hap⟩, ?_⟩
  · rw [h.fin, settle_next (s := MS.st ⟨A1, c1, rs1, d1, Am1, cm1, M1⟩) hlt hk]
    show settle o ⟨mvX (dat rs1) k (-1), d1 + 1, _⟩ = settle o ⟨dat os, d1 + 1, _⟩
    rw [hd]
    rfl
  · show Inv (dat os) (o.drop (d1 + 1))
    rw [hd]
    exact (hi.load hk).1
  · have := h.len
    simp only [List.length_append, List.length_cons, List.length_nil] at this ⊢
    omega

set_option maxRecDepth 100000 in
set_option maxHeartbeats 3200000 in
theorem settled_any (G : Nat → Prop) (B0 : Nat) (o : List Int) (s0 : MS) (Ao : Option Addr) (co : Nat) (w : World) (hs : MSok G B0 w s0) (hB0 : B0 ≤ w.heap.size) (hG : ∀ b, G b → b < w.heap.size) (ho : Rd LI w w.heap.size Ao co o)
    (hi : Inv (dat s0.rs) (o.drop s0.d)) (hd : s0.d ≤ o.length) (hM : s0.M.length + o.length ≤ 1000000 + s0.d) :
    Calls Tryd.prog 55 #[s0.val, .slice Ao o.length co] w fun e w' => ∃ t : MS, e = .returned t.val ∧ t.st = settle o s0.st ∧ MSok G B0 w' t ∧ Below w.heap.size w w' := by
  obtain ⟨FIN, hF⟩ : ∃ F, F = settle o s0.st := ⟨_, rfl⟩
  rw [← hF]
  have hol := ho.len63
  have HSI0 : ∀ wr, Below w.heap.size w wr → SetI G B0 FIN o w wr s0 := fun wr hb => ⟨hF, hi, hs.turn hb.size (fun b hlt _ => hb.block b hlt) (fun b hlt h => h.elim id (fun h => by omega)), hM⟩
  have hlr := hs.y.rd.len63
  have hlm := hs.m.len63
  obtain ⟨A, c, rs, d, Am, cm, M⟩ := s0
  simp only [MS.val] at *
  have HSI := Lib.hid HSI0
  have HG := Lib.hid hG
  have HO := Lib.hid ho
  have HB0 : Hid (∀ o1 o2 o3 : Obj, Below w.heap.size w (((w.alloc o1).alloc o2).alloc o3)) := Lib.hid fun o1 o2 o3 => (((Below.refl _ w).alloc (Nat.le_refl _) _).alloc (by simp) _).alloc (by simp; omega) _
  clear hF hG hs hi ho HSI0
  go_enter Tryd.func55, Tryd.ntmps55
  go_wp2_with fail
  go_loopg [] (o.length - d) (fun k wr => ∃ (A1 : Option Addr) (c1 : Nat) (rs1 : List (Row Int)) (d1 : Nat) (Am1 : Option Addr) (cm1 : Nat) (M1 : List (Int × Int)), k = o.length - d1 ∧ d1 ≤ o.length ∧
    wr.cell? ⟨w.heap.size, 0, none⟩ = some (.slice A1 rs1.length c1) ∧ wr.cell? ⟨w.heap.size, 1, none⟩ = some (.int .i64 d1) ∧ wr.cell? ⟨w.heap.size, 2, none⟩ = some (.slice Am1 M1.length cm1) ∧
    wr.cell? ⟨w.heap.size + 1, 0, none⟩ = some (.slice Ao o.length co) ∧ w.heap.size + 2 < wr.heap.size ∧ (∀ j, wr.frozen? ⟨w.heap.size, j, none⟩ = false) ∧ (∀ j, wr.frozen? ⟨w.heap.size + 1 + 1, j, none⟩ = false) ∧ wr.cell? ⟨w.heap.size + 1 + 1, 0, none⟩ = some (.slice none 0 0) ∧ wr.cell? ⟨w.heap.size + 1 + 1, 1, none⟩ = some (.int .i64 0) ∧ wr.cell? ⟨w.heap.size + 1 + 1, 2, none⟩ = some (.slice none 0 0) ∧ Hid (SetI G B0 FIN o w wr ⟨A1, c1, rs1, d1, Am1, cm1, M1⟩) ∧ Hid (Below w.heap.size w wr))
  case atStart => exact ⟨A, c, rs, d, Am, cm, M, rfl, hd, by go_simp, by go_simp, by go_simp, by go_simp, by simp, fun j => by go_simp, fun j => by go_simp, by go_simp, by go_simp, by go_simp, Lib.hid (HSI.out _ (HB0.out _ _ _)), Lib.hid (HB0.out _ _ _)⟩
  case round =>
    obtain ⟨A1, c1, rs1, d1, Am1, cm1, M1, rfl, hd1, q0, q1, q2, p0, hsz, hfz0, hfz2, z0, z1, z2, HI, HB⟩ := hrel
    obtain ⟨hr4, hr6⟩ := HI.out.bd
    have HR6 := Lib.hid hr6
    have hlr1 := HI.out.ok.y.rd.len63
    have hlm1 : M1.length ≤ 1000000 := by have := HI.out.len; simp only at this; omega
    clear hr6
    by_cases hlt : d1 < o.length
    · have hlti : (d1 : Int) < o.length := by omega
      obtain ⟨p, hp⟩ : ∃ p, p = o[d1] := ⟨_, rfl⟩
      have HP := Lib.hid hp
      have hix := indexFuncY_any A1 c1 rs1 70 #[.pointer (some ⟨w.heap.size + 1, 0, none⟩), .pointer (some ⟨w.heap.size, 0, none⟩)] (fun r => topL r == p) wr.heap.size wr (Nat.le_refl _) HI.out.ok.y.rd
        ⟨eg_set1, fun r hr W' hb => by
          have h := set1_any r.1 r.2.1 r.2.2 d1 Ao co o (w.heap.size + 1) w.heap.size w.heap.size W' ((hb.cell (p := ⟨w.heap.size + 1, 0, none⟩) (by show w.heap.size + 1 < _; omega)).trans p0) ((hb.cell (p := ⟨w.heap.size, 1, none⟩) (by show w.heap.size < _; omega)).trans q1) (((HI.out.ok.y.rd.inn r hr).below hb).more hb.size) ((HO.out.below HB.out).below (hb.mono (by omega))) hlt
          rw [← HP.out] at h
          exact h.mono fun e w'' ⟨h1, h2⟩ => ⟨h1, h2.below⟩⟩
      clear hp
      rcases fIdxY_next (dat rs1) p with ⟨k, hk, he⟩ | ⟨hk, he⟩
      · rw [he] at hix
        have HK := Lib.hid hk
        have HNX := Lib.hid (Inv.next (p := p) (r := o.drop (d1 + 1)) (by have := HI.out.inv; simp only at this; rw [drop_at hlt, ← HP.out] at this; exact this) hk)
        have hkl : k < rs1.length := by have := HNX.out.1; rw [dat_len] at this; exact this
        clear hk he
        go_wp2_with fail
        refine hix.mono ?_
        rintro e w2 ⟨rfl, hb2⟩
        have hs2 := hb2.size
        have hg2 : w.heap.size < w2.heap.size := by omega
        have hb3 : Below wr.heap.size wr (w2.alloc (.cells #[.int .i64 k, .int .i64 (-1)] 45)) := hb2.alloc hs2 _
        have hmv := movePack_any A1 c1 rs1 k (-1) (w2.alloc (.cells #[.int .i64 k, .int .i64 (-1)] 45)) ((HI.out.ok.y.rd.below hb3).more hb3.size) (by omega) (fun r hr => by have := HR6.out r hr; omega) (by unfold I64; omega) (by unfold I64; omega)
        have q0' := (hb2.cell (p := ⟨w.heap.size, 0, none⟩) (by show w.heap.size < _; omega)).trans q0
        clear hix
        go_wp2_with fail
        refine hmv.mono ?_
        intro e w4 hm
        unfold MvR at hm
        rw [if_pos (mvOk_off (X := dat rs1) (f := k) HNX.out.1 HNX.out.2.2)] at hm
        obtain ⟨A5, c5, os, rfl, ho5, hd5, hb5⟩ := hm
        have hs5 := hb5.size
        simp at hs5
        have hb4 := bthen hb3 (Nat.le_refl _) hb5
        have hol5 := ho5.len63
        have hfz0' : ∀ j, w4.frozen? ⟨w.heap.size, j, none⟩ = false := fun j => (hb4.frozen (p := ⟨w.heap.size, j, none⟩) (by show w.heap.size < _; omega)).trans (hfz0 j)
        have hgm : w2.heap.size < w4.heap.size := by omega
        have hq : ∀ (p : Addr) v, p.block < wr.heap.size → p ≠ ⟨w.heap.size, 0, none⟩ → wr.cell? p = some v → (w4.setCell ⟨w.heap.size, 0, none⟩ (.slice A5 os.length c5)).cell? p = some v := fun p v h1 h2 h3 => (World.cell?_setCell_other _ _ _ _ (Ne.symm h2)).trans ((hb4.cell h1).trans h3)
        have e1 := hq ⟨w.heap.size, 1, none⟩ _ (by show w.heap.size < _; omega) (by simp) q1
        have y0 := hq ⟨w.heap.size + 1 + 1, 0, none⟩ _ (by show w.heap.size + 1 + 1 < _; omega) (by simp) z0
        have y1 := hq ⟨w.heap.size + 1 + 1, 1, none⟩ _ (by show w.heap.size + 1 + 1 < _; omega) (by simp) z1
        have y2 := hq ⟨w.heap.size + 1 + 1, 2, none⟩ _ (by show w.heap.size + 1 + 1 < _; omega) (by simp) z2
        have e2 := hq ⟨w.heap.size, 2, none⟩ _ (by show w.heap.size < _; omega) (by simp) q2
        have f0 := hq ⟨w.heap.size + 1, 0, none⟩ _ (by show w.heap.size + 1 < _; omega) (by simp) p0
        have m0 : (w4.setCell ⟨w.heap.size, 0, none⟩ (.slice A5 os.length c5)).cell? ⟨w2.heap.size, 0, none⟩ = some (.int .i64 k) := (World.cell?_setCell_far _ _ _ _ (by show w.heap.size ≠ w2.heap.size; omega)).trans ((hb5.cell (p := ⟨w2.heap.size, 0, none⟩) (by simp)).trans (by go_simp))
        have m1 : (w4.setCell ⟨w.heap.size, 0, none⟩ (.slice A5 os.length c5)).cell? ⟨w2.heap.size, 1, none⟩ = some (.int .i64 (-1)) := (World.cell?_setCell_far _ _ _ _ (by show w.heap.size ≠ w2.heap.size; omega)).trans ((hb5.cell (p := ⟨w2.heap.size, 1, none⟩) (by simp)).trans (by go_simp))
        have hb6 : ∀ b, b ≠ w.heap.size → (w4.setCell ⟨w.heap.size, 0, none⟩ (.slice A5 os.length c5)).heap[b]? = w4.heap[b]? := fun b hb => Below.heap_setCell w4 ⟨w.heap.size, 0, none⟩ _ b hb
        have HYQ := Lib.hid ((HY.of_own (G := fun b => G b ∨ (w.heap.size ≤ b ∧ b ≤ w.heap.size + 2)) ho5 (fun b h1 h2 h3 => by simp at h1; exact h3.elim (fun h => by have := HG.out b h; omega) (fun h => by omega))).turn (G' := fun b => G b ∨ (w.heap.size ≤ b ∧ b ≤ w.heap.size + 2)) (w' := w4.setCell ⟨w.heap.size, 0, none⟩ (.slice A5 os.length c5)) (by simp) (fun b h1 h2 => hb6 b (fun e => h2 (.inr (by omega)))) (fun _ _ h => h))
        have HMQ := Lib.hid (HI.out.ok.m.keepBlk (w' := w4.setCell ⟨w.heap.size, 0, none⟩ (.slice A5 os.length c5)) (fun b e => (hb6 b (fun e2 => HI.out.ok.ap b e (.inr (by omega)))).trans (hb4.block b (HI.out.ok.m.blk_lt b e).2)))
        have HBQ : Hid (Below w.heap.size w (w4.setCell ⟨w.heap.size, 0, none⟩ (.slice A5 os.length c5))) := Lib.hid ((HB.out.trans (hb4.mono (by omega))).setCell (p := ⟨w.heap.size, 0, none⟩) (Nat.le_refl _) _)
        have e0 : (w4.setCell ⟨w.heap.size, 0, none⟩ (.slice A5 os.length c5)).cell? ⟨w.heap.size, 0, none⟩ = some (.slice A5 os.length c5) := by
          have h1 := (hb4.cell (p := ⟨w.heap.size, 0, none⟩) (by show w.heap.size < _; omega)).trans q0
          go_simp
        have hfz : ∀ b j, b < wr.heap.size → (w4.setCell ⟨w.heap.size, 0, none⟩ (.slice A5 os.length c5)).frozen? ⟨b, j, none⟩ = wr.frozen? ⟨b, j, none⟩ := fun b j h => by
          rw [World.frozen?_setCell]
          exact hb4.frozen (p := ⟨b, j, none⟩) h
        have g0 : ∀ j, (w4.setCell ⟨w.heap.size, 0, none⟩ (.slice A5 os.length c5)).frozen? ⟨w.heap.size, j, none⟩ = false := fun j => (hfz _ j (by omega)).trans (hfz0 j)
        have g2 : ∀ j, (w4.setCell ⟨w.heap.size, 0, none⟩ (.slice A5 os.length c5)).frozen? ⟨w.heap.size + 1 + 1, j, none⟩ = false := fun j => (hfz _ j (by omega)).trans (hfz2 j)
        have hsq : w2.heap.size + 1 ≤ (w4.setCell ⟨w.heap.size, 0, none⟩ (.slice A5 os.length c5)).heap.size ∧ wr.heap.size ≤ (w4.setCell ⟨w.heap.size, 0, none⟩ (.slice A5 os.length c5)).heap.size := by simp; omega
        have HD5 := Lib.hid hd5
        have q0w := (hb4.cell (p := ⟨w.heap.size, 0, none⟩) (by show w.heap.size < _; omega)).trans q0
        clear hmv q0 q1 q2 p0 z0 z1 z2 hb2 hb3 hb4 hb5 ho5 hd5 hq hb6 hfz
        go_upto_region 7 with fail
        obtain ⟨wq, hwq⟩ : ∃ wq, wq = w4.setCell ⟨w.heap.size, 0, none⟩ (.slice A5 os.length c5) := ⟨_, rfl⟩
        rw [← hwq] at e0 e1 e2 y0 y1 y2 f0 m0 m1 HYQ HMQ HBQ g0 g2 hsq
        rw [← hwq]
        clear hwq q0' q0w hfz0'
        have hcl := fun W h1 h2 => cloneM_any Am1 cm1 M1 wq.heap.size W h1 h2 (by omega)
        obtain ⟨hsq1, hsq2⟩ := hsq
        have hgq : w.heap.size + 1 + 1 < wq.heap.size := by omega
        have hg2q : w2.heap.size < wq.heap.size := by omega
        have e2a := fun o => (World.cell?_alloc_lt wq o ⟨w.heap.size, 2, none⟩ (by show w.heap.size < _; omega)).trans e2
        refine wp_region_noPanic ?_
        refine startS (S := fun W => W.cell? ⟨w2.heap.size, 0, none⟩ = some (.int .i64 k) ∧ W.cell? ⟨w2.heap.size, 1, none⟩ = some (.int .i64 (-1))) 8 (by kernel_rfl) (by kernel_rfl) ⟨m0, m1⟩ (fun hHeld => ?_)
        refine withS 8 [0, 3, 6] (by as_aux_lemma => kernel_rfl) (by kernel_rfl) (by kernel_rfl) (fun _ _ _ _ _ h => h) ?_
        intro HFR HNS HSZ HQP
        focus
          refine takeS (i := 0) (v := ?_) HFR.out HNS.out HSZ.out HQP.out rfl (by kernel_rfl) (by kernel_rfl) (by decide) (by kernel_rfl) (Or.inl ⟨by rfl, ?_⟩) hHeld rfl (by dsimp only [List.set_cons_succ, List.set_cons_zero]) ?_
          rotate_left
          · intro w hSw; clear hSw; go_simp; (try with_reducible rfl)
        focus
          refine takeS (i := 3) (v := ?_) HFR.out HNS.out HSZ.out HQP.out rfl (by kernel_rfl) (by kernel_rfl) (by decide) (by kernel_rfl) (Or.inl ⟨by rfl, ?_⟩) hHeld rfl (by dsimp only [List.set_cons_succ, List.set_cons_zero]) ?_
          rotate_left
          · intro w hSw; obtain ⟨hS0, hS1⟩ := hSw; go_simp; (try with_reducible rfl)
        refine callS2 (i := 1) (j := 4) HSZ.out (by kernel_rfl) (by kernel_rfl) rfl rfl (fun K hK => ?_) (fun K hK => ?_)
        · skip
          go_simp
          refine hK.out _ _ hHeld (fun hHeldN => ?_)
          clear hK K hHeld
          try simp only [Act.put, List.setIfInBounds_toArray, List.set_cons_zero, List.set_cons_succ]
          have hHeld := hHeldN
          clear hHeldN
          refine callS2 (i := 2) (j := 4) HSZ.out (by kernel_rfl) (by kernel_rfl) rfl rfl (fun K hK => ?_) (fun K hK => ?_)
          · skip
            go_simp
            (with_reducible refine (hcl _ HMQ.out.rd.drew (by simp)).mono ?_)
            rintro e w4 ⟨A4, c4, rfl, ho4, hc4⟩
            have hs4 := hc4.size
            (try simp at hs4)
            have hl4 := ho4.blk_lt
            refine hK.out _ _ ⟨(hc4.cell (p := ⟨w2.heap.size, 0, none⟩) (by simp; omega)).trans hHeld.1, (hc4.cell (p := ⟨w2.heap.size, 1, none⟩) (by simp; omega)).trans hHeld.2⟩ (fun hHeldN => ?_)
            clear hK K hHeld
            try simp only [Act.put, List.setIfInBounds_toArray, List.set_cons_zero, List.set_cons_succ]
            have hHeld := hHeldN
            clear hHeldN
            refine callS (i := 4) HSZ.out (by kernel_rfl) (by kernel_rfl) rfl (fun K hK => ?_)
            go_simp
            refine hK.out _ _ ⟨(World.cell?_alloc_lt _ _ _ (by simp; omega)).trans hHeld.1, (World.cell?_alloc_lt _ _ _ (by simp; omega)).trans hHeld.2⟩ (fun hHeldN => ?_)
            clear hK K hHeld
            try simp only [Act.put, List.setIfInBounds_toArray, List.set_cons_zero, List.set_cons_succ]
            have hHeld := hHeldN
            clear hHeldN
            refine callS (i := 5) HSZ.out (by kernel_rfl) (by kernel_rfl) rfl (fun K hK => ?_)
            refine stepL_app1 (L := LMove) rowMv rfl rfl _ _ rfl rfl (ho4.alloc _) ((k : Int), -1) rfl ?_ (by unfold maxLen; omega) (by omega) (by simp; omega) ?_
            · intro j u hu; show (World.alloc _ _).cell? _ = _; rw [World.cell?_alloc_at (hn := rfl)]; simpa [LMove] using hu
            intro A7 c7 w7 ho7 hg7
            refine hK.out _ _ ⟨(hg7.cell ⟨w2.heap.size, 0, none⟩ (by simp; omega) (fun e => by have := (hl4 _ e).1; simp at this; omega)).trans hHeld.1, (hg7.cell ⟨w2.heap.size, 1, none⟩ (by simp; omega) (fun e => by have := (hl4 _ e).1; simp at this; omega)).trans hHeld.2⟩ (fun hHeldN => ?_)
            clear hK K hHeld
            try simp only [Act.put, List.setIfInBounds_toArray, List.set_cons_zero, List.set_cons_succ]
            have hHeld := hHeldN
            clear hHeldN
            have HB7 := Lib.hid (Grew.below ((bthen HBQ.out.drew (Nat.le_refl _) hc4).alloc (by omega) _) hg7 (by simp; omega) (fun b e => by have := (hl4 b e).1; simp at this; omega))
            have hX : ∀ b, b < wq.heap.size → w7.heap[b]? = wq.heap[b]? := fun b hb => ((hg7.block b (by simp; omega) (fun e => by have := (hl4 _ e.symm).1; simp at this; omega)).trans (Below.heap_alloc _ _ b (by omega))).trans (hc4.block b hb)
            have hXc : ∀ b j, b < wq.heap.size → w7.cell? ⟨b, j, none⟩ = wq.cell? ⟨b, j, none⟩ := fun b j h => cell_blk (p := ⟨b, j, none⟩) (hX b h)
            have hXf : ∀ b j, b < wq.heap.size → w7.frozen? ⟨b, j, none⟩ = wq.frozen? ⟨b, j, none⟩ := fun b j h => frozen_blk (p := ⟨b, j, none⟩) (hX b h)
            have hs7 := hg7.size
            (try simp at hs7)
            have hl7 := ho7.blk_lt
            have i0 : w7.cell? ⟨w.heap.size, 0, none⟩ = some (.slice A5 os.length c5) := (hXc _ _ (by omega)).trans e0
            have i1 : w7.cell? ⟨w.heap.size, 1, none⟩ = some (.int .i64 d1) := (hXc _ _ (by omega)).trans e1
            have i2 : w7.cell? ⟨w.heap.size, 2, none⟩ = some (.slice Am1 M1.length cm1) := (hXc _ _ (by omega)).trans e2
            have i3 : w7.cell? ⟨w.heap.size + 1, 0, none⟩ = some (.slice Ao o.length co) := (hXc _ _ (by omega)).trans f0
            have j0 : w7.cell? ⟨w.heap.size + 1 + 1, 0, none⟩ = some (.slice none 0 0) := (hXc _ _ (by omega)).trans y0
            have j1 : w7.cell? ⟨w.heap.size + 1 + 1, 1, none⟩ = some (.int .i64 0) := (hXc _ _ (by omega)).trans y1
            have j2 : w7.cell? ⟨w.heap.size + 1 + 1, 2, none⟩ = some (.slice none 0 0) := (hXc _ _ (by omega)).trans y2
            have k0 : ∀ j, w7.frozen? ⟨w.heap.size, j, none⟩ = false := fun j => (hXf _ _ (by omega)).trans (g0 j)
            have k2 : ∀ j, w7.frozen? ⟨w.heap.size + 1 + 1, j, none⟩ = false := fun j => (hXf _ _ (by omega)).trans (g2 j)
            focus
              refine takeS (i := 6) (v := ?_) HFR.out HNS.out HSZ.out HQP.out rfl (by kernel_rfl) (by kernel_rfl) (by decide) (by kernel_rfl) (Or.inl ⟨by rfl, ?_⟩) hHeld rfl (by dsimp only [List.set_cons_succ, List.set_cons_zero]) ?_
              rotate_left
              · intro w hSw; clear hSw; go_simp; (try with_reducible rfl)
            refine callS (i := 7) HSZ.out (by kernel_rfl) (by kernel_rfl) rfl (fun K hK => ?_)
            go_simp
            refine hK.out _ _ ⟨(World.cell?_setCell_far _ _ _ _ (by show w.heap.size ≠ w2.heap.size; omega)).trans hHeld.1, (World.cell?_setCell_far _ _ _ _ (by show w.heap.size ≠ w2.heap.size; omega)).trans hHeld.2⟩ (fun hHeldN => ?_)
            clear hK K hHeld
            try simp only [Act.put, List.setIfInBounds_toArray, List.set_cons_zero, List.set_cons_succ]
            have hHeld := hHeldN
            clear hHeldN
            refine doneS HSZ.out (by kernel_rfl) (by kernel_rfl) (NoPanic.normal ?_)
            go_wp2_with fail
            go_roundg (o.length - (d1 + 1))
            case measure => omega
            case rel =>
              have hZ : ∀ b, b ≠ w.heap.size → ((w7.setCell ⟨w.heap.size, 2, none⟩ (.slice A7 (M1.length + 1) c7)).setCell ⟨w.heap.size, 1, none⟩ (.int .i64 ((d1 : Int) + 1))).heap[b]? = w7.heap[b]? := fun b hb => (Below.heap_setCell _ _ _ b hb).trans (Below.heap_setCell _ _ _ b hb)
              have HY7 := HYQ.out.turn (G' := fun b => G b ∨ (w.heap.size ≤ b ∧ b ≤ w.heap.size + 2)) (w' := (w7.setCell ⟨w.heap.size, 2, none⟩ (.slice A7 (M1.length + 1) c7)).setCell ⟨w.heap.size, 1, none⟩ (.int .i64 ((d1 : Int) + 1))) (by simp; omega) (fun b h1 h2 => (hZ b (fun e => h2 (.inr (by omega)))).trans (hX b h1)) (fun _ _ h => h)
              have HAP7 : ∀ b, blk A7 = some b → ¬ (G b ∨ (w.heap.size ≤ b ∧ b ≤ w.heap.size + 2)) := fun b e h3 => by have h1 := (hl7 b e).1; simp at h1; exact h3.elim (fun h => by have := HG.out b h; omega) (fun h => by omega)
              have HM7 := (ho7.lower (b := B0) (by simp; omega)).keepBlk (w' := (w7.setCell ⟨w.heap.size, 2, none⟩ (.slice A7 (M1.length + 1) c7)).setCell ⟨w.heap.size, 1, none⟩ (.int .i64 ((d1 : Int) + 1))) (fun b e => hZ b (fun e2 => HAP7 b e (.inr (by omega))))
              have HI7 := HI.out.next hlt (by rw [← HP.out]; exact HK.out) HD5.out HY7 HM7 HAP7
              exact ⟨A5, c5, os, d1 + 1, A7, c7, M1 ++ [((k : Int), -1)], rfl, by omega, by go_simp, by go_simp, by go_simp, by go_simp, by simp; omega, fun j => by go_simp, fun j => by go_simp, by go_simp, by go_simp, by go_simp, Lib.hid HI7, Lib.hid ((HB7.out.setCell (p := ⟨w.heap.size, 2, none⟩) (Nat.le_refl _) _).setCell (p := ⟨w.heap.size, 1, none⟩) (Nat.le_refl _) _)⟩
          · skip
            go_simp
            refine hK.out _ _ ⟨(World.cell?_alloc_lt _ _ _ (by simp; omega)).trans hHeld.1, (World.cell?_alloc_lt _ _ _ (by simp; omega)).trans hHeld.2⟩ (fun hHeldN => ?_)
            clear hK K hHeld
            try simp only [Act.put, List.setIfInBounds_toArray, List.set_cons_zero, List.set_cons_succ]
            have hHeld := hHeldN
            clear hHeldN
            refine callS (i := 2) HSZ.out (by kernel_rfl) (by kernel_rfl) rfl (fun K hK => ?_)
            go_simp
            (with_reducible refine (hcl _ ((HMQ.out.rd.alloc (Nat.le_refl _) _).drew) (by simp)).mono ?_)
            rintro e w4 ⟨A4, c4, rfl, ho4, hc4⟩
            have hs4 := hc4.size
            (try simp at hs4)
            have hl4 := ho4.blk_lt
            refine hK.out _ _ ⟨(hc4.cell (p := ⟨w2.heap.size, 0, none⟩) (by simp; omega)).trans hHeld.1, (hc4.cell (p := ⟨w2.heap.size, 1, none⟩) (by simp; omega)).trans hHeld.2⟩ (fun hHeldN => ?_)
            clear hK K hHeld
            try simp only [Act.put, List.setIfInBounds_toArray, List.set_cons_zero, List.set_cons_succ]
            have hHeld := hHeldN
            clear hHeldN
            refine callS (i := 5) HSZ.out (by kernel_rfl) (by kernel_rfl) rfl (fun K hK => ?_)
            refine stepL_app1 (L := LMove) rowMv rfl rfl _ _ rfl rfl ho4 ((k : Int), -1) rfl ?_ (by unfold maxLen; omega) (by omega) (by simp; omega) ?_
            · intro j u hu; refine (hc4.cell (p := ⟨wq.heap.size, j, none⟩) (by simp)).trans ?_; show (World.alloc _ _).cell? _ = _; rw [World.cell?_alloc_at (hn := rfl)]; simpa [LMove] using hu
            intro A7 c7 w7 ho7 hg7
            refine hK.out _ _ ⟨(hg7.cell ⟨w2.heap.size, 0, none⟩ (by simp; omega) (fun e => by have := (hl4 _ e).1; simp at this; omega)).trans hHeld.1, (hg7.cell ⟨w2.heap.size, 1, none⟩ (by simp; omega) (fun e => by have := (hl4 _ e).1; simp at this; omega)).trans hHeld.2⟩ (fun hHeldN => ?_)
            clear hK K hHeld
            try simp only [Act.put, List.setIfInBounds_toArray, List.set_cons_zero, List.set_cons_succ]
            have hHeld := hHeldN
            clear hHeldN
            have HB7 := Lib.hid (Grew.below (bthen (HBQ.out.alloc (by omega) _).drew (Nat.le_refl _) hc4) hg7 (by omega) (fun b e => by have := (hl4 b e).1; simp at this; omega))
            have hX : ∀ b, b < wq.heap.size → w7.heap[b]? = wq.heap[b]? := fun b hb => (hg7.block b (by omega) (fun e => by have := (hl4 _ e.symm).1; simp at this; omega)).trans ((hc4.block b (by simp; omega)).trans (Below.heap_alloc _ _ b hb))
            have hXc : ∀ b j, b < wq.heap.size → w7.cell? ⟨b, j, none⟩ = wq.cell? ⟨b, j, none⟩ := fun b j h => cell_blk (p := ⟨b, j, none⟩) (hX b h)
            have hXf : ∀ b j, b < wq.heap.size → w7.frozen? ⟨b, j, none⟩ = wq.frozen? ⟨b, j, none⟩ := fun b j h => frozen_blk (p := ⟨b, j, none⟩) (hX b h)
            have hs7 := hg7.size
            (try simp at hs7)
            have hl7 := ho7.blk_lt
            have i0 : w7.cell? ⟨w.heap.size, 0, none⟩ = some (.slice A5 os.length c5) := (hXc _ _ (by omega)).trans e0
            have i1 : w7.cell? ⟨w.heap.size, 1, none⟩ = some (.int .i64 d1) := (hXc _ _ (by omega)).trans e1
            have i2 : w7.cell? ⟨w.heap.size, 2, none⟩ = some (.slice Am1 M1.length cm1) := (hXc _ _ (by omega)).trans e2
            have i3 : w7.cell? ⟨w.heap.size + 1, 0, none⟩ = some (.slice Ao o.length co) := (hXc _ _ (by omega)).trans f0
            have j0 : w7.cell? ⟨w.heap.size + 1 + 1, 0, none⟩ = some (.slice none 0 0) := (hXc _ _ (by omega)).trans y0
            have j1 : w7.cell? ⟨w.heap.size + 1 + 1, 1, none⟩ = some (.int .i64 0) := (hXc _ _ (by omega)).trans y1
            have j2 : w7.cell? ⟨w.heap.size + 1 + 1, 2, none⟩ = some (.slice none 0 0) := (hXc _ _ (by omega)).trans y2
            have k0 : ∀ j, w7.frozen? ⟨w.heap.size, j, none⟩ = false := fun j => (hXf _ _ (by omega)).trans (g0 j)
            have k2 : ∀ j, w7.frozen? ⟨w.heap.size + 1 + 1, j, none⟩ = false := fun j => (hXf _ _ (by omega)).trans (g2 j)
            focus
              refine takeS (i := 6) (v := ?_) HFR.out HNS.out HSZ.out HQP.out rfl (by kernel_rfl) (by kernel_rfl) (by decide) (by kernel_rfl) (Or.inl ⟨by rfl, ?_⟩) hHeld rfl (by dsimp only [List.set_cons_succ, List.set_cons_zero]) ?_
              rotate_left
              · intro w hSw; clear hSw; go_simp; (try with_reducible rfl)
            refine callS (i := 7) HSZ.out (by kernel_rfl) (by kernel_rfl) rfl (fun K hK => ?_)
            go_simp
            refine hK.out _ _ ⟨(World.cell?_setCell_far _ _ _ _ (by show w.heap.size ≠ w2.heap.size; omega)).trans hHeld.1, (World.cell?_setCell_far _ _ _ _ (by show w.heap.size ≠ w2.heap.size; omega)).trans hHeld.2⟩ (fun hHeldN => ?_)
            clear hK K hHeld
            try simp only [Act.put, List.setIfInBounds_toArray, List.set_cons_zero, List.set_cons_succ]
            have hHeld := hHeldN
            clear hHeldN
            refine doneS HSZ.out (by kernel_rfl) (by kernel_rfl) (NoPanic.normal ?_)
            go_wp2_with fail
            go_roundg (o.length - (d1 + 1))
            case measure => omega
            case rel =>
              have hZ : ∀ b, b ≠ w.heap.size → ((w7.setCell ⟨w.heap.size, 2, none⟩ (.slice A7 (M1.length + 1) c7)).setCell ⟨w.heap.size, 1, none⟩ (.int .i64 ((d1 : Int) + 1))).heap[b]? = w7.heap[b]? := fun b hb => (Below.heap_setCell _ _ _ b hb).trans (Below.heap_setCell _ _ _ b hb)
              have HY7 := HYQ.out.turn (G' := fun b => G b ∨ (w.heap.size ≤ b ∧ b ≤ w.heap.size + 2)) (w' := (w7.setCell ⟨w.heap.size, 2, none⟩ (.slice A7 (M1.length + 1) c7)).setCell ⟨w.heap.size, 1, none⟩ (.int .i64 ((d1 : Int) + 1))) (by simp; omega) (fun b h1 h2 => (hZ b (fun e => h2 (.inr (by omega)))).trans (hX b h1)) (fun _ _ h => h)
              have HAP7 : ∀ b, blk A7 = some b → ¬ (G b ∨ (w.heap.size ≤ b ∧ b ≤ w.heap.size + 2)) := fun b e h3 => by have h1 := (hl7 b e).1; simp at h1; exact h3.elim (fun h => by have := HG.out b h; omega) (fun h => by omega)
              have HM7 := (ho7.lower (b := B0) (by simp; omega)).keepBlk (w' := (w7.setCell ⟨w.heap.size, 2, none⟩ (.slice A7 (M1.length + 1) c7)).setCell ⟨w.heap.size, 1, none⟩ (.int .i64 ((d1 : Int) + 1))) (fun b e => hZ b (fun e2 => HAP7 b e (.inr (by omega))))
              have HI7 := HI.out.next hlt (by rw [← HP.out]; exact HK.out) HD5.out HY7 HM7 HAP7
              exact ⟨A5, c5, os, d1 + 1, A7, c7, M1 ++ [((k : Int), -1)], rfl, by omega, by go_simp, by go_simp, by go_simp, by go_simp, by simp; omega, fun j => by go_simp, fun j => by go_simp, by go_simp, by go_simp, by go_simp, Lib.hid HI7, Lib.hid ((HB7.out.setCell (p := ⟨w.heap.size, 2, none⟩) (Nat.le_refl _) _).setCell (p := ⟨w.heap.size, 1, none⟩) (Nat.le_refl _) _)⟩
        · skip
          go_simp
          refine hK.out _ _ ⟨(World.cell?_alloc_lt _ _ _ (by simp; omega)).trans hHeld.1, (World.cell?_alloc_lt _ _ _ (by simp; omega)).trans hHeld.2⟩ (fun hHeldN => ?_)
          clear hK K hHeld
          try simp only [Act.put, List.setIfInBounds_toArray, List.set_cons_zero, List.set_cons_succ]
          have hHeld := hHeldN
          clear hHeldN
          refine callS (i := 1) HSZ.out (by kernel_rfl) (by kernel_rfl) rfl (fun K hK => ?_)
          go_simp
          refine hK.out _ _ hHeld (fun hHeldN => ?_)
          clear hK K hHeld
          try simp only [Act.put, List.setIfInBounds_toArray, List.set_cons_zero, List.set_cons_succ]
          have hHeld := hHeldN
          clear hHeldN
          refine callS (i := 2) HSZ.out (by kernel_rfl) (by kernel_rfl) rfl (fun K hK => ?_)
          go_simp
          (with_reducible refine (hcl _ ((HMQ.out.rd.alloc (Nat.le_refl _) _).drew) (by simp)).mono ?_)
          rintro e w4 ⟨A4, c4, rfl, ho4, hc4⟩
          have hs4 := hc4.size
          (try simp at hs4)
          have hl4 := ho4.blk_lt
          refine hK.out _ _ ⟨(hc4.cell (p := ⟨w2.heap.size, 0, none⟩) (by simp; omega)).trans hHeld.1, (hc4.cell (p := ⟨w2.heap.size, 1, none⟩) (by simp; omega)).trans hHeld.2⟩ (fun hHeldN => ?_)
          clear hK K hHeld
          try simp only [Act.put, List.setIfInBounds_toArray, List.set_cons_zero, List.set_cons_succ]
          have hHeld := hHeldN
          clear hHeldN
          refine callS (i := 5) HSZ.out (by kernel_rfl) (by kernel_rfl) rfl (fun K hK => ?_)
          refine stepL_app1 (L := LMove) rowMv rfl rfl _ _ rfl rfl ho4 ((k : Int), -1) rfl ?_ (by unfold maxLen; omega) (by omega) (by simp; omega) ?_
          · intro j u hu; refine (hc4.cell (p := ⟨wq.heap.size, j, none⟩) (by simp)).trans ?_; show (World.alloc _ _).cell? _ = _; rw [World.cell?_alloc_at (hn := rfl)]; simpa [LMove] using hu
          intro A7 c7 w7 ho7 hg7
          refine hK.out _ _ ⟨(hg7.cell ⟨w2.heap.size, 0, none⟩ (by simp; omega) (fun e => by have := (hl4 _ e).1; simp at this; omega)).trans hHeld.1, (hg7.cell ⟨w2.heap.size, 1, none⟩ (by simp; omega) (fun e => by have := (hl4 _ e).1; simp at this; omega)).trans hHeld.2⟩ (fun hHeldN => ?_)
          clear hK K hHeld
          try simp only [Act.put, List.setIfInBounds_toArray, List.set_cons_zero, List.set_cons_succ]
          have hHeld := hHeldN
          clear hHeldN
          have HB7 := Lib.hid (Grew.below (bthen (HBQ.out.alloc (by omega) _).drew (Nat.le_refl _) hc4) hg7 (by omega) (fun b e => by have := (hl4 b e).1; simp at this; omega))
          have hX : ∀ b, b < wq.heap.size → w7.heap[b]? = wq.heap[b]? := fun b hb => (hg7.block b (by omega) (fun e => by have := (hl4 _ e.symm).1; simp at this; omega)).trans ((hc4.block b (by simp; omega)).trans (Below.heap_alloc _ _ b hb))
          have hXc : ∀ b j, b < wq.heap.size → w7.cell? ⟨b, j, none⟩ = wq.cell? ⟨b, j, none⟩ := fun b j h => cell_blk (p := ⟨b, j, none⟩) (hX b h)
          have hXf : ∀ b j, b < wq.heap.size → w7.frozen? ⟨b, j, none⟩ = wq.frozen? ⟨b, j, none⟩ := fun b j h => frozen_blk (p := ⟨b, j, none⟩) (hX b h)
          have hs7 := hg7.size
          (try simp at hs7)
          have hl7 := ho7.blk_lt
          have i0 : w7.cell? ⟨w.heap.size, 0, none⟩ = some (.slice A5 os.length c5) := (hXc _ _ (by omega)).trans e0
          have i1 : w7.cell? ⟨w.heap.size, 1, none⟩ = some (.int .i64 d1) := (hXc _ _ (by omega)).trans e1
          have i2 : w7.cell? ⟨w.heap.size, 2, none⟩ = some (.slice Am1 M1.length cm1) := (hXc _ _ (by omega)).trans e2
          have i3 : w7.cell? ⟨w.heap.size + 1, 0, none⟩ = some (.slice Ao o.length co) := (hXc _ _ (by omega)).trans f0
          have j0 : w7.cell? ⟨w.heap.size + 1 + 1, 0, none⟩ = some (.slice none 0 0) := (hXc _ _ (by omega)).trans y0
          have j1 : w7.cell? ⟨w.heap.size + 1 + 1, 1, none⟩ = some (.int .i64 0) := (hXc _ _ (by omega)).trans y1
          have j2 : w7.cell? ⟨w.heap.size + 1 + 1, 2, none⟩ = some (.slice none 0 0) := (hXc _ _ (by omega)).trans y2
          have k0 : ∀ j, w7.frozen? ⟨w.heap.size, j, none⟩ = false := fun j => (hXf _ _ (by omega)).trans (g0 j)
          have k2 : ∀ j, w7.frozen? ⟨w.heap.size + 1 + 1, j, none⟩ = false := fun j => (hXf _ _ (by omega)).trans (g2 j)
          focus
            refine takeS (i := 6) (v := ?_) HFR.out HNS.out HSZ.out HQP.out rfl (by kernel_rfl) (by kernel_rfl) (by decide) (by kernel_rfl) (Or.inl ⟨by rfl, ?_⟩) hHeld rfl (by dsimp only [List.set_cons_succ, List.set_cons_zero]) ?_
            rotate_left
            · intro w hSw; clear hSw; go_simp; (try with_reducible rfl)
          refine callS (i := 7) HSZ.out (by kernel_rfl) (by kernel_rfl) rfl (fun K hK => ?_)
          go_simp
          refine hK.out _ _ ⟨(World.cell?_setCell_far _ _ _ _ (by show w.heap.size ≠ w2.heap.size; omega)).trans hHeld.1, (World.cell?_setCell_far _ _ _ _ (by show w.heap.size ≠ w2.heap.size; omega)).trans hHeld.2⟩ (fun hHeldN => ?_)
          clear hK K hHeld
          try simp only [Act.put, List.setIfInBounds_toArray, List.set_cons_zero, List.set_cons_succ]
          have hHeld := hHeldN
          clear hHeldN
          refine doneS HSZ.out (by kernel_rfl) (by kernel_rfl) (NoPanic.normal ?_)
          go_wp2_with fail
          go_roundg (o.length - (d1 + 1))
          case measure => omega
          case rel =>
            have hZ : ∀ b, b ≠ w.heap.size → ((w7.setCell ⟨w.heap.size, 2, none⟩ (.slice A7 (M1.length + 1) c7)).setCell ⟨w.heap.size, 1, none⟩ (.int .i64 ((d1 : Int) + 1))).heap[b]? = w7.heap[b]? := fun b hb => (Below.heap_setCell _ _ _ b hb).trans (Below.heap_setCell _ _ _ b hb)
            have HY7 := HYQ.out.turn (G' := fun b => G b ∨ (w.heap.size ≤ b ∧ b ≤ w.heap.size + 2)) (w' := (w7.setCell ⟨w.heap.size, 2, none⟩ (.slice A7 (M1.length + 1) c7)).setCell ⟨w.heap.size, 1, none⟩ (.int .i64 ((d1 : Int) + 1))) (by simp; omega) (fun b h1 h2 => (hZ b (fun e => h2 (.inr (by omega)))).trans (hX b h1)) (fun _ _ h => h)
            have HAP7 : ∀ b, blk A7 = some b → ¬ (G b ∨ (w.heap.size ≤ b ∧ b ≤ w.heap.size + 2)) := fun b e h3 => by have h1 := (hl7 b e).1; simp at h1; exact h3.elim (fun h => by have := HG.out b h; omega) (fun h => by omega)
            have HM7 := (ho7.lower (b := B0) (by simp; omega)).keepBlk (w' := (w7.setCell ⟨w.heap.size, 2, none⟩ (.slice A7 (M1.length + 1) c7)).setCell ⟨w.heap.size, 1, none⟩ (.int .i64 ((d1 : Int) + 1))) (fun b e => hZ b (fun e2 => HAP7 b e (.inr (by omega))))
            have HI7 := HI.out.next hlt (by rw [← HP.out]; exact HK.out) HD5.out HY7 HM7 HAP7
            exact ⟨A5, c5, os, d1 + 1, A7, c7, M1 ++ [((k : Int), -1)], rfl, by omega, by go_simp, by go_simp, by go_simp, by go_simp, by simp; omega, fun j => by go_simp, fun j => by go_simp, by go_simp, by go_simp, by go_simp, Lib.hid HI7, Lib.hid ((HB7.out.setCell (p := ⟨w.heap.size, 2, none⟩) (Nat.le_refl _) _).setCell (p := ⟨w.heap.size, 1, none⟩) (Nat.le_refl _) _)⟩
      · have HR : Hid (FIN = ⟨dat rs1, d1, M1⟩) := Lib.hid (by
          rw [HI.out.fin, settle_stop (s := MS.st ⟨A1, c1, rs1, d1, Am1, cm1, M1⟩) (fun _ => by show nextK (dat rs1) (o[d1]'hlt) = none; rw [← HP.out]; exact hk)]
          rfl)
        rw [he] at hix
        clear hk he
        go_wp2_with fail
        refine hix.mono ?_
        rintro e w2 ⟨rfl, hb2⟩
        have hs2 := hb2.size
        have r0 := (hb2.cell (p := ⟨w.heap.size, 0, none⟩) (by show w.heap.size < _; omega)).trans q0
        have r1 := (hb2.cell (p := ⟨w.heap.size, 1, none⟩) (by show w.heap.size < _; omega)).trans q1
        have r2 := (hb2.cell (p := ⟨w.heap.size, 2, none⟩) (by show w.heap.size < _; omega)).trans q2
        have hf := fun j => (hb2.frozen (p := ⟨w.heap.size + 1 + 1, j, none⟩) (by show w.heap.size + 1 + 1 < _; omega)).trans (hfz2 j)
        have t0 := (hb2.cell (p := ⟨w.heap.size + 1 + 1, 0, none⟩) (by show w.heap.size + 1 + 1 < _; omega)).trans z0
        have t1 := (hb2.cell (p := ⟨w.heap.size + 1 + 1, 1, none⟩) (by show w.heap.size + 1 + 1 < _; omega)).trans z1
        have t2 := (hb2.cell (p := ⟨w.heap.size + 1 + 1, 2, none⟩) (by show w.heap.size + 1 + 1 < _; omega)).trans z2
        have hg2 : w.heap.size + 1 + 1 < w2.heap.size := by omega
        have HBX := Lib.hid (HB.out.trans (hb2.mono (show w.heap.size ≤ wr.heap.size by omega)))
        have HOK := Lib.hid (HI.out.ok.below hb2)
        clear hix q0 q1 q2 z0 z1 z2 hfz0 hfz2 hb2
        have d0 : (((w2.setCell ⟨w.heap.size + 1 + 1, 0, none⟩ (.slice A1 rs1.length c1)).setCell ⟨w.heap.size + 1 + 1, 1, none⟩ (.int .i64 d1)).setCell ⟨w.heap.size + 1 + 1, 2, none⟩ (.slice Am1 M1.length cm1)).cell? ⟨w.heap.size + 1 + 1, 0, none⟩ = some (.slice A1 rs1.length c1) := by go_simp
        have d1' : (((w2.setCell ⟨w.heap.size + 1 + 1, 0, none⟩ (.slice A1 rs1.length c1)).setCell ⟨w.heap.size + 1 + 1, 1, none⟩ (.int .i64 d1)).setCell ⟨w.heap.size + 1 + 1, 2, none⟩ (.slice Am1 M1.length cm1)).cell? ⟨w.heap.size + 1 + 1, 1, none⟩ = some (.int .i64 d1) := by go_simp
        have d2 : (((w2.setCell ⟨w.heap.size + 1 + 1, 0, none⟩ (.slice A1 rs1.length c1)).setCell ⟨w.heap.size + 1 + 1, 1, none⟩ (.int .i64 d1)).setCell ⟨w.heap.size + 1 + 1, 2, none⟩ (.slice Am1 M1.length cm1)).cell? ⟨w.heap.size + 1 + 1, 2, none⟩ = some (.slice Am1 M1.length cm1) := by go_simp
        have HOZ := Lib.hid (HOK.out.turn (G' := G) (w' := ((w2.setCell ⟨w.heap.size + 1 + 1, 0, none⟩ (.slice A1 rs1.length c1)).setCell ⟨w.heap.size + 1 + 1, 1, none⟩ (.int .i64 d1)).setCell ⟨w.heap.size + 1 + 1, 2, none⟩ (.slice Am1 M1.length cm1)) (by simp) (fun b _ h2 => by
          have hb : b ≠ w.heap.size + 1 + 1 := fun e => h2 (.inr (by omega))
          rw [Below.heap_setCell _ _ _ b hb, Below.heap_setCell _ _ _ b hb, Below.heap_setCell _ _ _ b hb]) (fun _ _ h => .inl h))
        have HBZ := Lib.hid (((HBX.out.setCell (p := ⟨w.heap.size + 1 + 1, 0, none⟩) (by show w.heap.size ≤ w.heap.size + 1 + 1; omega) (.slice A1 rs1.length c1)).setCell (p := ⟨w.heap.size + 1 + 1, 1, none⟩) (by show w.heap.size ≤ w.heap.size + 1 + 1; omega) (.int .i64 d1)).setCell (p := ⟨w.heap.size + 1 + 1, 2, none⟩) (by show w.heap.size ≤ w.heap.size + 1 + 1; omega) (.slice Am1 M1.length cm1))
        go_wp2_with fail
        exact bodyPost_ret (v := .agg #[.slice A1 rs1.length c1, .int .i64 d1, .slice Am1 M1.length cm1]) (by simp [results, Tryd.results55, go_sem, d0, d1', d2]) rfl ⟨⟨A1, c1, rs1, d1, Am1, cm1, M1⟩, rfl, HR.out.symm, HOZ.out, HBZ.out⟩
    · have HR : Hid (FIN = ⟨dat rs1, d1, M1⟩) := Lib.hid (by
        rw [HI.out.fin, settle_stop (s := MS.st ⟨A1, c1, rs1, d1, Am1, cm1, M1⟩) (fun h => absurd h hlt)]
        rfl)
      have HBX := HB
      have HOK := Lib.hid HI.out.ok
      have hg2 : w.heap.size + 1 + 1 < wr.heap.size := by omega
      have hge : (o.length : Int) ≤ d1 := by omega
      clear hlt
      have d0 : (((wr.setCell ⟨w.heap.size + 1 + 1, 0, none⟩ (.slice A1 rs1.length c1)).setCell ⟨w.heap.size + 1 + 1, 1, none⟩ (.int .i64 d1)).setCell ⟨w.heap.size + 1 + 1, 2, none⟩ (.slice Am1 M1.length cm1)).cell? ⟨w.heap.size + 1 + 1, 0, none⟩ = some (.slice A1 rs1.length c1) := by go_simp
      have d1' : (((wr.setCell ⟨w.heap.size + 1 + 1, 0, none⟩ (.slice A1 rs1.length c1)).setCell ⟨w.heap.size + 1 + 1, 1, none⟩ (.int .i64 d1)).setCell ⟨w.heap.size + 1 + 1, 2, none⟩ (.slice Am1 M1.length cm1)).cell? ⟨w.heap.size + 1 + 1, 1, none⟩ = some (.int .i64 d1) := by go_simp
      have d2 : (((wr.setCell ⟨w.heap.size + 1 + 1, 0, none⟩ (.slice A1 rs1.length c1)).setCell ⟨w.heap.size + 1 + 1, 1, none⟩ (.int .i64 d1)).setCell ⟨w.heap.size + 1 + 1, 2, none⟩ (.slice Am1 M1.length cm1)).cell? ⟨w.heap.size + 1 + 1, 2, none⟩ = some (.slice Am1 M1.length cm1) := by go_simp
      have HOZ := Lib.hid (HOK.out.turn (G' := G) (w' := ((wr.setCell ⟨w.heap.size + 1 + 1, 0, none⟩ (.slice A1 rs1.length c1)).setCell ⟨w.heap.size + 1 + 1, 1, none⟩ (.int .i64 d1)).setCell ⟨w.heap.size + 1 + 1, 2, none⟩ (.slice Am1 M1.length cm1)) (by simp) (fun b _ h2 => by
        have hb : b ≠ w.heap.size + 1 + 1 := fun e => h2 (.inr (by omega))
        rw [Below.heap_setCell _ _ _ b hb, Below.heap_setCell _ _ _ b hb, Below.heap_setCell _ _ _ b hb]) (fun _ _ h => .inl h))
      have HBZ := Lib.hid (((HBX.out.setCell (p := ⟨w.heap.size + 1 + 1, 0, none⟩) (by show w.heap.size ≤ w.heap.size + 1 + 1; omega) (.slice A1 rs1.length c1)).setCell (p := ⟨w.heap.size + 1 + 1, 1, none⟩) (by show w.heap.size ≤ w.heap.size + 1 + 1; omega) (.int .i64 d1)).setCell (p := ⟨w.heap.size + 1 + 1, 2, none⟩) (by show w.heap.size ≤ w.heap.size + 1 + 1; omega) (.slice Am1 M1.length cm1))
      go_wp2_with fail
      exact bodyPost_ret (v := .agg #[.slice A1 rs1.length c1, .int .i64 d1, .slice Am1 M1.length cm1]) (by simp [results, Tryd.results55, go_sem, d0, d1', d2]) rfl ⟨⟨A1, c1, rs1, d1, Am1, cm1, M1⟩, rfl, HR.out.symm, HOZ.out, HBZ.out⟩
theorem settled_at (G : Nat → Prop) (B0 : Nat) (o : List Int) (A : Option Addr) (c : Nat) (rs : List (Row Int)) (d : Nat) (Am : Option Addr) (cm : Nat) (M : List (Int × Int)) (Ao : Option Addr) (co : Nat) (w : World) (hs : MSok G B0 w ⟨A, c, rs, d, Am, cm, M⟩) (hB0 : B0 ≤ w.heap.size) (hG : ∀ b, G b → b < w.heap.size) (ho : Rd LI w w.heap.size Ao co o)
    (hi : Inv (dat rs) (o.drop d)) (hd : d ≤ o.length) (hM : M.length + o.length ≤ 1000000 + d) :
    Calls Tryd.prog 55 #[.agg #[.slice A rs.length c, .int .i64 d, .slice Am M.length cm], .slice Ao o.length co] w fun e w' => ∃ (A1 : Option Addr) (c1 : Nat) (rs1 : List (Row Int)) (d1 : Nat) (Am1 : Option Addr) (cm1 : Nat) (M1 : List (Int × Int)),
      e = .returned (.agg #[.slice A1 rs1.length c1, .int .i64 d1, .slice Am1 M1.length cm1]) ∧ (⟨dat rs1, d1, M1⟩ : St) = settle o ⟨dat rs, d, M⟩ ∧ MSok G B0 w' ⟨A1, c1, rs1, d1, Am1, cm1, M1⟩ ∧ Below w.heap.size w w' :=
  (settled_any G B0 o ⟨A, c, rs, d, Am, cm, M⟩ Ao co w hs hB0 hG ho hi hd hM).mono fun e w' ⟨t, h1, h2, h3, h4⟩ => ⟨t.A, t.c, t.rs, t.d, t.Am, t.cm, t.M, h1, h2, h3, h4⟩
end Go.Proofs.YtiefiikheaiekaaDoor
