/-
  Draws of hands and what pairs are worth (under way).
-/
import Derived.Test.YtofcmljnckdknaaPayH
import Derived.Test.YtofcmljnckdknaaGrid
import Derived.Test.YtofcmljnckdknaaNumSS
import Derived.Deep.CutRange
namespace Go.Proofs.Ytofcmljnckdknaa
open Go.ChangeShapes Go.WideShapes Go.RowKit

theorem OwnR.alloc' {α : Type} {Li : Lay α} {T1 T2 : TypeId} {w : World} {base c : Nat} {A : Option Addr} {rs : List (Row α)} (h : OwnR Li T1 T2 w base A c rs) (o : Obj) : OwnR Li T1 T2 (w.alloc o) base A c rs := h.below ((Below.refl _ _).alloc (Nat.le_refl _) _)
theorem OwnR.dr' {α : Type} {Li : Lay α} {T1 T2 : TypeId} {w : World} {base c : Nat} {A : Option Addr} {rs : List (Row α)} (h : OwnR Li T1 T2 w base A c rs) : OwnR Li T1 T2 w.drew base A c rs := ⟨h.out, h.inn, h.ap⟩
theorem OwnR.appRow' {α : Type} {Li : Lay α} {T1 T2 : TypeId} {w w' : World} {base c g : Nat} {rs : List (Row α)} (h : OwnR Li T1 T2 w base (some ⟨g, 0, none⟩) c rs) (hT : T1 ≠ T2) {i : Nat} (hi : i < rs.length) (r : Row α) (hr : Own Li T2 w' base r.1 r.2.1 r.2.2) (hg : Grew w w' rs[i].1 r.1) :
    OwnR Li T1 T2 (w'.setCell ⟨g, i, none⟩ (.slice r.1 r.2.2.length r.2.1)) base (some ⟨g, 0, none⟩) c (rs.set i r) := by
  have hout := Grew.own hg h.out (fun g' e1 e2 => own_types h.out (h.inn _ (List.getElem_mem hi)) hT g' e1 e2)
  have hne : ∀ {s : Row α}, Own Li T2 w' base s.1 s.2.1 s.2.2 → blk s.1 ≠ some g := fun hs e => own_types hout.1 hs hT g rfl e
  have hoth : ∀ j (hj : j < rs.length), j ≠ i → Own Li T2 w' base rs[j].1 rs[j].2.1 rs[j].2.2 ∧ Ap rs[j].1 r.1 := fun j hj e => by
    have := Grew.own hg (h.inn _ (List.getElem_mem hj)) (fun g' e1 e2 => h.apart hj hi e g' e1 e2)
    exact ⟨this.1, this.2⟩
  refine ⟨?_, ?_, pair_set h.ap i r fun j hj e => (hoth j hj e).2⟩
  · rw [List.map_set]
    exact hout.1.setVal i (hd r)
  · intro s hs
    obtain ⟨j, hj, rfl⟩ := List.mem_iff_getElem.1 hs
    simp only [List.length_set] at hj
    rw [List.getElem_set]
    by_cases e : i = j
    · subst e
      rw [if_pos rfl]
      exact hr.setFar (hne hr) _
    · rw [if_neg e]
      have h1 := (hoth j hj (fun h => e h.symm)).1
      exact h1.setFar (hne h1) _
theorem Sr.dr {w : World} {g c m : Nat} {A : Option Addr} {cs : List Int} (h : Sr w g A c cs m) : Sr w.drew g A c cs m := ⟨h.c0, h.c1, h.c2, h.f1, h.f2, h.rd.drew, h.by_, h.g1⟩
theorem Fs.ownR {g : Nat} {w w' : World} (h : Fs g w w') {T1 T2 : TypeId} {base c : Nat} {A : Option Addr} {rs : List (Row Int)} (hr : OwnR LI T1 T2 w base A c rs) (hg : g < base) : OwnR LI T1 T2 w' base A c rs :=
  hr.keepBlk (fun b e => h.block b (hr.blk_lt.1 b e).2 (by have := (hr.blk_lt.1 b e).1; omega)) (fun r hm b e => h.block b (hr.blk_lt.2 r hm b e).2 (by have := (hr.blk_lt.2 r hm b e).1; omega))
/-- rows from the second on -/
theorem OwnR.tail {T1 T2 : TypeId} {w : World} {base c G : Nat} {rs : List (Row Int)} (h : OwnR LI T1 T2 w base (some ⟨G, 0, none⟩) c rs) {X : Addr} (hX : X = if c = 1 then (⟨G, 0, none⟩ : Addr) else (⟨G, 0, none⟩ : Addr).add 1) : RdR LI w w.heap.size (some X) (c - 1) (rs.drop 1) := by
  have hr := h.rd
  have hle := h.out.le
  have hcap := h.out.cap
  refine ⟨⟨by simp at hle ⊢; omega, by omega, fun i hi => ?_⟩, fun r hm => hr.inn r (List.mem_of_mem_drop hm)⟩
  have hi2 : 1 + i < (rs.map hd).length := by simp at hi ⊢; omega
  obtain ⟨ad, e, hb, hc⟩ := hr.out.at_ (1 + i) hi2
  cases e
  have hc1 : ¬ c = 1 := by simp at hi hle; omega
  rw [if_neg hc1] at hX
  subst hX
  refine ⟨_, rfl, by rw [block_of_add]; exact hb, fun j u hu => ?_⟩
  rw [add_of_add]
  have := hc j u (by simpa [Nat.add_comm] using hu)
  rw [show (1 + i) * LV.sz + j = 1 + (i * LV.sz + j) by simp [LV]; omega] at this
  exact this
theorem dat_set0 {rs : List (Row Int)} {r : Row Int} {m : Nat} (h : ∀ x ∈ dat rs, x.length ≤ m) (hr : r.2.2.length ≤ m) : ∀ x ∈ dat (rs.set 0 r), x.length ≤ m := by
  intro x hx
  obtain ⟨y, hy, rfl⟩ := List.mem_map.1 hx
  rcases List.mem_or_eq_of_mem_set hy with h1 | h1
  · exact h _ (List.mem_map.2 ⟨y, h1, rfl⟩)
  · rw [h1]; exact hr
def DrewHX (w : World) (e : Ending) (w' : World) : Prop :=
  ∃ (B : Option Addr) (d : Nat) (xs : List HandD) (A4 : Option Addr) (c4 : Nat) (rs : List (Row Int)), e = .returned (.tuple #[.slice B xs.length d, .slice A4 rs.length c4]) ∧ xs.length ≤ 21 ∧ rs.length ≤ 21 ∧ (∀ r ∈ dat rs, r.length ≤ 23) ∧ Own LHand 58 w' w.heap.size B d xs ∧ RdR LI w' w'.heap.size A4 c4 rs ∧ (∀ n ∈ xs, OkHand n) ∧ Below w.heap.size w w'
def HandsI (g : Nat) (A : Option Addr) (c : Nat) (cs : List Int) (m n : Nat) (w0 : World) (B : Option Addr) (d l : Nat) (w : World) : Prop :=
  ∃ xs : List HandD, xs.length = l ∧ Own LHand 58 w n B d xs ∧ (∀ n ∈ xs, OkHand n) ∧ Sr w g A c cs m ∧ Fs g w0 w
set_option maxRecDepth 100000 in
set_option maxHeartbeats 1600000 in
theorem drawPair_any (A : Option Addr) (c : Nat) (cs : List Int) (w : World) (hr : Rd LU w w.heap.size A c cs) (hb : ∀ x ∈ cs, 0 ≤ x ∧ x ≤ 255) :
    Calls Try.prog 30 #[.slice A cs.length c] w (DrewHX w) := by
  obtain ⟨g, hg⟩ : ∃ g, g = w.heap.size := ⟨_, rfl⟩
  have hc := from_at g A c cs w hg hr (Nat.le_refl _) hb
  have HG := Lib.hid hg
  clear hg hr
  go_enter Try.func30, Try.ntmps30
  go_wp2_with fail
  refine hc.mono ?_
  rintro e w1 ⟨rfl, hS, hb1⟩
  have hg1 := hS.g1
  have hgw : w.heap.size ≤ g := by rw [HG.out]; exact Nat.le_refl _
  have hs1 := hb1.size
  have hc2 := l23Bent_any g A c cs 0 w1 hS (by omega)
  rw [HG.out] at hb1
  have HB1 := Lib.hid hb1
  clear hc hS hb1
  go_wp2_with fail
  refine hc2.mono ?_
  rintro e w2 ⟨B, d, xs, rfl, hl, ho, hok, hS, hF⟩
  have hs2 := hF.size
  have HO := Lib.hid ho
  have HOK := Lib.hid hok
  have HF := Lib.hid hF
  have HS := Lib.hid hS
  clear hc2 ho hok hF hS
  go_upto_region 3 with fail
  obtain ⟨n, hn⟩ : ∃ n, n = xs.length := ⟨_, rfl⟩
  go_cut [22] from 16 to 22 (fun s wx => ∃ q : Bool, s = .bool q ∧ HandsI g A c cs (0 + 200 + 2) w1.heap.size w1 B d xs.length wx)
  case first =>
    by_cases h1 : 1 < xs.length
    · have h2 : (1 : Int) < xs.length := by omega
      have hc3 := one_any 2 g A c cs _ w2 HS.out (by omega) (by omega)
      go_wp2_with fail
      refine hc3.mono ?_
      rintro e w3 ⟨q, rfl, hS, hF⟩
      have HO3 := Lib.hid (hF.own HO.out (fun e => by have := (HO.out.blk_lt g e).1; omega))
      have HF3 := Lib.hid (HF.out.trans hF)
      have HS3 := Lib.hid hS
      clear hc3 hS hF
      go_wp2_with fail
      go_meet
      case rel => exact ⟨q, rfl, xs, rfl, HO3.out, HOK.out, HS3.out, HF3.out⟩
    · have h2 : (xs.length : Int) ≤ 1 := by omega
      go_wp2_with fail
      go_meet
      case rel => exact ⟨false, rfl, xs, rfl, HO.out, HOK.out, HS.out.more (by omega), HF.out⟩
  case rest =>
  obtain ⟨q, rfl, ys, hys, ho, hok, hS, hF⟩ := hcut
  rw [← hys]
  rw [← hys] at hl
  clear hn hys HO HOK HF HS hs2
  have HO := Lib.hid ho
  have HOK := Lib.hid hok
  have HF := Lib.hid hF
  have HS := Lib.hid hS
  have hsc := hF.size
  clear ho hok hF hS
  go_upto_if 22 with fail
  go_cut [6] from 22 to 35 (fun s wx => HandsI g A c cs (0 + 200 + 2) w1.heap.size w1 B d ys.length wx)
  case first =>
    cases q
    · go_wp2_with fail
      go_meet
      case rel => exact ⟨ys, rfl, HO.out, HOK.out, HS.out, HF.out⟩
    · go_wp2_with fail
      go_loopw [6] (fun i wr => ∃ (j : Nat) (L : List HandD), j ≤ ys.length ∧ i = .int .i64 j ∧ Hid (L.length = ys.length) ∧ Hid (Own LHand 58 wr w1.heap.size B d L) ∧ Hid (∀ n ∈ L, OkHand n) ∧ Hid (Sr wr g A c cs (0 + 200 + 2)) ∧ Hid (Fs g w1 wr)) (fun i _ => ys.length - (intOf i).toNat)
      case atStart => exact ⟨0, ys, by omega, rfl, Lib.hid rfl, HO, HOK, HS, HF⟩
      case round =>
        obtain ⟨j, L, hj, rfl, HL, HO2, HOK2, HS2, HF2⟩ := hrel
        by_cases hlt : j < ys.length
        · have hji : (j : Int) < ys.length := by omega
          have hjL : j < L.length := by rw [HL.out]; exact hlt
          obtain ⟨b, rfl, hb0, hb1, hcl, hfz⟩ := HO2.out.field hjL
          have q2 : wr.cell? ⟨b, j * 3 + 2, none⟩ = some (.bool L[j].2.2) := hcl 2 _ rfl
          clear hcl
          go_wp2_with fail
          have hBl : Below w1.heap.size wr (wr.setCell ⟨b, j * 3 + 2, none⟩ (.bool ((j : Int) % 2 == 1))) := (Below.refl _ wr).setCell (p := ⟨b, j * 3 + 2, none⟩) (by dsimp only; omega) _
          have HO3 := Lib.hid (HO2.out.setField hjL 2 (by decide) (.bool ((j : Int) % 2 == 1)) (L[j].1, L[j].2.1, ((j : Int) % 2 == 1)) rfl)
          have HOK3 : Hid (∀ n ∈ L.set j (L[j].1, L[j].2.1, ((j : Int) % 2 == 1)), OkHand n) := Lib.hid (fun n hn => by
            rcases List.mem_or_eq_of_mem_set hn with h | h
            · exact HOK2.out n h
            · rw [h]; have h4 := HOK2.out _ (List.getElem_mem hjL); exact ⟨h4.1, h4.2⟩)
          go_roundw
          case rel => exact ⟨j + 1, L.set j (L[j].1, L[j].2.1, ((j : Int) % 2 == 1)), by omega, by go_num, Lib.hid (by rw [List.length_set]; exact HL.out), HO3, HOK3, Lib.hid (HS2.out.belowB hBl hg1), Lib.hid (HF2.out.then_ hBl (Nat.le_refl _))⟩
          case measure => simp [intOf]; omega
        · have hji : (ys.length : Int) ≤ j := by omega
          go_wp2_with fail
          go_meet
          case rel => exact ⟨L, HL.out, HO2.out, HOK2.out, HS2.out, HF2.out⟩
  case rest =>
  clear HO HOK HF HS hsc
  obtain ⟨zs, hzs, ho, hok, hS, hF⟩ := hcut
  rw [← hzs]
  rw [← hzs] at hl
  clear hzs
  have hsc := hF.size
  have HO := Lib.hid ho
  have HOK := Lib.hid hok
  have HF := Lib.hid hF
  have HS := Lib.hid hS
  clear ho hok hF hS
  have hbw : Below w1.heap.size wc (wc.alloc (.cells #[] 26)) := (Below.refl _ wc).alloc hsc _
  have hR0 : OwnR LI 26 2 (wc.alloc (.cells #[] 26)) w1.heap.size (some ⟨wc.heap.size, 0, none⟩) 0 ([] : List (Row Int)) := ⟨Own.lit0 _ hsc rfl, (fun r hr => by cases hr), List.Pairwise.nil⟩
  have HLY : Hid (∀ (b : Bool) (W : World), Own LHand 58 W w1.heap.size B d zs → Calls Try.prog 52 #[.slice B zs.length d, .bool b] W fun e w' => ∃ A1 c1, e = .returned (.slice A1 (layT zs b zs.length).length c1) ∧ Own LI 2 w' W.heap.size A1 c1 (layT zs b zs.length) ∧ Below W.heap.size W w') := Lib.hid (fun b W h => l23LayersW_any B d zs b W.heap.size W (Nat.le_refl _) h.rd (by omega))
  have hly1 := layT_len zs false zs.length
  have hly2 := layT_len zs true zs.length
  have hc5 := HLY.out false _ (HO.out.alloc (.cells #[] 26))
  go_wp2_with fail
  refine hc5.mono ?_
  rintro e w3 ⟨A3, c3, rfl, _, hb3⟩
  have hs3 := hb3.size
  simp at hs3
  have HO3 := Lib.hid ((HO.out.alloc (.cells #[] 26)).below hb3)
  have HR3 := Lib.hid (hR0.below hb3)
  have HS3 := Lib.hid ((HS.out.belowB hbw hg1).below hb3)
  have HF3 := Lib.hid ((HF.out.then_ hbw (Nat.le_refl _)).then_ hb3 (by simp; omega))
  obtain ⟨NC, hNC⟩ : ∃ NC, NC = (layT zs false zs.length).length := ⟨_, rfl⟩
  obtain ⟨NL, hNL⟩ : ∃ NL, NL = (layT zs true zs.length).length := ⟨_, rfl⟩
  have hb5 := hly1
  have hb6 := hly2
  have HLT : Hid (∀ (W : World), Own LHand 58 W w1.heap.size B d zs → Calls Try.prog 52 #[.slice B zs.length d, .bool true] W fun e w' => ∃ A1 c1, e = .returned (.slice A1 NL c1) ∧ Below W.heap.size W w') := Lib.hid (fun W h => (HLY.out true W h).mono fun e w' h => by obtain ⟨A1, c1, h1, _, h2⟩ := h; exact ⟨A1, c1, by rw [hNL]; exact h1, h2⟩)
  rw [← hNC]
  rw [← hNC] at hb5
  rw [← hNL] at hb6
  clear hc5 hb3 hR0 hbw HO HF HS hNC hNL hly1 hly2 HLY
  go_wp2_with fail
  go_loopw [7, 9] (fun o i wr => ∃ (k : Nat) (A1 : Option Addr) (c1 : Nat) (L1 : List (Option Addr × Nat × Nat)) (rs : List (Row Int)), k ≤ NL ∧ i = .int .i64 k ∧ o = .slice A1 L1.length c1 ∧ Hid (L1 = rs.map hd) ∧ Hid (L1.length ≤ k) ∧ Hid (∀ r ∈ dat rs, r.length ≤ 22) ∧ Hid (OwnR LI 26 2 wr w1.heap.size A1 c1 rs) ∧ Hid (Own LHand 58 wr w1.heap.size B d zs) ∧ Hid (Sr wr g A c cs (300 + 100 * k)) ∧ Hid (Fs g w1 wr)) (fun _ i _ => NL - (intOf i).toNat)
  case atStart => exact ⟨0, _, _, [], [], by omega, rfl, rfl, Lib.hid rfl, Lib.hid (by simp), Lib.hid (fun r hr => by cases hr), HR3, HO3, Lib.hid (HS3.out.more (by omega)), HF3⟩
  case round =>
    obtain ⟨k, A1, c1, L1, rs, hk, rfl, rfl, HL1, HLK, HD, HR, HO, HS, HF⟩ := hrel
    obtain ⟨wq, rfl⟩ : ∃ wq : World, wq = wr := ⟨_, rfl⟩
    have hct := HLT.out wq HO.out
    have hfq := HF.out.size
    by_cases hlt : k < NL
    · have hki : (k : Int) < NL := by omega
      go_wp2_with fail
      refine hct.mono ?_
      rintro e w4 ⟨A5, c5, rfl, hb4⟩
      have hs4 := hb4.size
      have HlR := Lib.hid HR.out.blk_lt
      have HR4 := Lib.hid ((HR.out.below hb4).alloc' (.cells #[] 2))
      have HO4 := Lib.hid ((HO.out.below hb4).alloc (.cells #[] 2))
      have hb4a : Below wq.heap.size wq (w4.alloc (.cells #[] 2)) := hb4.alloc hs4 _
      have HS4 := Lib.hid (HS.out.belowB hb4a (by omega))
      have HF4 := Lib.hid (HF.out.then_ hb4a hfq)
      have hL0 : Own LI 2 (w4.alloc (.cells #[] 2)) w4.heap.size (some ⟨w4.heap.size, 0, none⟩) 0 ([] : List Int) := Own.lit0 w4 (Nat.le_refl _) rfl
      have HL0 := Lib.hid hL0
      clear hct hb4 hb4a hL0 HR HO HS HF
      go_wp2_with fail
      go_loopw [10, 11] (fun o i wr => ∃ (j : Nat) (A2 : Option Addr) (c2 : Nat) (L : List Int), j ≤ NC ∧ i = .int .i64 j ∧ o = .slice A2 L.length c2 ∧ Hid (L.length ≤ j) ∧ Hid (Own LI 2 wr w4.heap.size A2 c2 L) ∧ Hid (OwnR LI 26 2 wr w1.heap.size A1 c1 rs) ∧ Hid (Own LHand 58 wr w1.heap.size B d zs) ∧ Hid (Sr wr g A c cs (300 + 100 * k + 4 * j)) ∧ Hid (Fs g w1 wr) ∧ Hid (w4.heap.size ≤ wr.heap.size)) (fun _ i _ => NC - (intOf i).toNat)
      case atStart => exact ⟨0, _, _, [], by omega, rfl, rfl, Lib.hid (by simp), HL0, HR4, HO4, HS4, HF4, Lib.hid (by simp)⟩
      case round =>
        obtain ⟨j, A2, c2, L, hj, rfl, rfl, HLJ, HL, HR, HO, HS, HF, HZ⟩ := hrel
        have hz := HZ.out
        have hLJ := HLJ.out
        by_cases hlt2 : j < NC
        · have hji : (j : Int) < NC := by omega
          have hp := pick_any 20 g A c cs _ wr HS.out (by omega) (by omega)
          go_wp2_with fail
          refine hp.mono ?_
          rintro e w5 ⟨v, rfl, v0, v1, hS, hF⟩
          have hs5 := hF.size
          have hnn := HL.out.blk_lt
          have HL5 := Lib.hid (hF.own HL.out (fun e => by have := (hnn g e).1; omega))
          have HO5 := Lib.hid (hF.own HO.out (fun e => by have := (HO.out.blk_lt g e).1; omega))
          have HR5 := Lib.hid (HR.out.keepBlk (fun b e => hF.block b (HR.out.blk_lt.1 b e).2 (by have := (HR.out.blk_lt.1 b e).1; omega)) (fun r hr b e => hF.block b (HR.out.blk_lt.2 r hr b e).2 (by have := (HR.out.blk_lt.2 r hr b e).1; omega)))
          have HF5 := Lib.hid (HF.out.trans hF)
          have HS5 := Lib.hid hS
          clear hp hS hF HL HR HO HS HF
          go_wp2_with (at_builtin; go_loud (refine wpL_app1 (L := LI) rowI rfl rfl _ _ rfl rfl HL5.out v _ rfl rfl (by simp) (by unfold maxLen; omega) (by omega) (by omega) ?_); intro A6 c6 w6 ho6 hg6)
          have hbz : Below w4.heap.size w5 w6 := hg6.below' (by omega) (fun b e => (hnn b e).1)
          have HR6 := Lib.hid (HR5.out.keep hbz (fun b e => by have := (HlR.out.1 b e).2; omega) (fun r hr b e => by have := (HlR.out.2 r hr b e).2; omega))
          have HO6 := Lib.hid (hg6.own HO5.out (fun b h1 h2 => (own_types HO5.out HL5.out (by decide)) b h1 h2)).1
          have HS6 := Lib.hid (HS5.out.belowB hbz (by omega))
          have HF6 := Lib.hid (HF5.out.then_ hbz (by omega))
          have HL6 := Lib.hid ho6
          have HZ6 := Lib.hid (show w4.heap.size ≤ w6.heap.size by have := hbz.size; omega)
          clear ho6 hg6 hbz
          go_roundw
          case rel => exact ⟨j + 1, A6, c6, L ++ [v], by omega, by go_num, by simp, Lib.hid (by simp; omega), HL6, HR6, HO6, Lib.hid (HS6.out.more (by omega)), HF6, HZ6⟩
          case measure => simp [intOf]; omega
        · have hji : (NC : Int) ≤ j := by omega
          have hout : Own LV 26 wr w1.heap.size A1 c1 L1 := by rw [HL1.out]; exact HR.out.out
          have hLk := HLK.out
          have hwz : w1.heap.size ≤ wr.heap.size := HF.out.size
          have hk21 : NL ≤ 21 := by omega
          have hNC : NC ≤ 21 := by omega
          go_wp2_with (at_builtin; go_loud (refine wpL_app1 (L := LV) rowV rfl rfl _ _ rfl rfl hout (A2, L.length, c2) _ rfl rfl (by simp) (by unfold maxLen; omega) (by omega) (by omega) ?_); intro A6 c6 w6 ho6 hg6)
          have hsn : OwnR LI 26 2 w6 w1.heap.size A6 c6 (rs ++ [(A2, c2, L)]) := OwnR.snoc (r := (A2, c2, L)) HR.out (by decide) (HL.out.lower (by omega)) (fun s hs g h1 h2 => by have := (HlR.out.2 s hs g h1).2; have := (HL.out.blk_lt g h2).1; omega) (by
            rw [HL1.out] at ho6
            exact ho6) hg6
          have hbz : Below w1.heap.size wr w6 := hg6.below' (by omega) (fun b e => (hout.blk_lt b e).1)
          have HO6 := Lib.hid (hg6.own HO.out (fun b h1 h2 => (own_types HO.out hout (by decide)) b h1 h2)).1
          have HS6 := Lib.hid (HS.out.belowB hbz hg1)
          have HF6 := Lib.hid (HF.out.then_ hbz (Nat.le_refl _))
          have HSN := Lib.hid hsn
          have HD6 : Hid (∀ r ∈ dat (rs ++ [(A2, c2, L)]), r.length ≤ 22) := Lib.hid (fun r hr => by
            rw [dat_append] at hr
            rcases List.mem_append.1 hr with h | h
            · exact HD.out r h
            · simp [dat] at h; rw [h]; omega)
          have HE6 : Hid (L1 ++ [(A2, L.length, c2)] = (rs ++ [(A2, c2, L)]).map hd) := Lib.hid (by rw [HL1.out, List.map_append]; rfl)
          clear ho6 hg6 hbz hsn hout
          go_roundw
          case rel => exact ⟨k + 1, A6, c6, L1 ++ [(A2, L.length, c2)], _, by omega, by go_num, by simp, HE6, Lib.hid (by simp; omega), HD6, HSN, HO6, Lib.hid (HS6.out.more (by omega)), HF6⟩
          case measure => simp [intOf]; omega
    · have hki : (NL : Int) ≤ k := by omega
      go_wp2_with fail
      refine hct.mono ?_
      rintro e w4 ⟨A5, c5, rfl, hb4⟩
      have hs4 := hb4.size
      have HR4 := Lib.hid (HR.out.below hb4)
      have HO4 := Lib.hid (HO.out.below hb4)
      have HS4 := Lib.hid (HS.out.below hb4)
      have HF4 := Lib.hid (HF.out.then_ hb4 hfq)
      have hl1 : L1.length = rs.length := by rw [HL1.out]; simp
      have hk21 : NL ≤ 21 := by omega
      have hLk := HLK.out
      have hr21 : rs.length ≤ 21 := by omega
      rw [hl1]
      clear hct hb4 HR HO HS HF hl1 hLk HLK HL1
      by_cases hz : 0 < rs.length
      rotate_left
      · have hzi : (rs.length : Int) ≤ 0 := by omega
        have HBz := Lib.hid (HB1.out.trans (HF4.out.below HB1.out.size hgw))
        go_wp2_with fail
        exact bodyPost_ret (v := .tuple #[.slice B zs.length d, .slice A1 rs.length c1]) (by simp [results, Try.results30, go_sem]) rfl ⟨B, d, zs, A1, c1, rs, rfl, hl, hr21, (fun r hr => by have := HD.out r hr; omega), HO4.out.lower (by omega), HR4.out.rd, HOK.out, HBz.out⟩
      have hzi : (0 : Int) < rs.length := by omega
      have hp := pick_any 16 g A c cs _ w4 HS4.out (by omega) (by omega)
      clear HS4
      go_wp2_with fail
      refine hp.mono ?_
      rintro e w5 ⟨q, rfl, q0, q1, hS, hF⟩
      have hs5 := hF.size
      have HO5 := Lib.hid (hF.own HO4.out (fun e => by have := (HO4.out.blk_lt g e).1; omega))
      have HR5 := Lib.hid (HR4.out.keepBlk (fun b e => hF.block b (HR4.out.blk_lt.1 b e).2 (by have := (HR4.out.blk_lt.1 b e).1; omega)) (fun r hr b e => hF.block b (HR4.out.blk_lt.2 r hr b e).2 (by have := (HR4.out.blk_lt.2 r hr b e).1; omega)))
      have HF5 := Lib.hid (HF4.out.trans hF)
      have HS5 := Lib.hid hS
      clear hp hS hF HR4 HO4 HF4
      by_cases z0 : q = 0
      · subst z0
        obtain ⟨G1, rfl, hG1b, hG1l, hcG, hfG, hrow⟩ := HR5.out.at_ hz
        have hlr := HD.out _ (List.mem_map.2 ⟨_, List.getElem_mem hz, rfl⟩)
        have hgr : ∀ {W W' : World} {A' : Option Addr}, Grew W W' rs[0].1 A' → Grew W W' (rs[0]'hz).1 A' := fun h => h
        obtain ⟨Ar, hAr⟩ : ∃ Ar, Ar = rs[0].1 := ⟨_, rfl⟩
        obtain ⟨cr, hcr⟩ : ∃ cr, cr = rs[0].2.1 := ⟨_, rfl⟩
        obtain ⟨xr, hxr⟩ : ∃ xr, xr = rs[0].2.2 := ⟨_, rfl⟩
        rw [← hAr, ← hcr, ← hxr] at hrow
        rw [← hAr, ← hcr, ← hxr] at hcG
        rw [← hxr] at hlr
        have HGR : Hid (∀ (W W' : World) (A' : Option Addr), Grew W W' Ar A' → Grew W W' (rs[0]'hz).1 A') := Lib.hid (fun W W' A' h => by rw [← hAr]; exact h)
        have hnb := hrow.blk_lt
        have HRW := Lib.hid hrow
        have HSd := Lib.hid HS5.out.dr
        have HRd := Lib.hid HR5.out.dr'
        have HFd := Lib.hid HF5.out.drew
        have hnG : blk Ar ≠ some G1 := fun e => own_types HR5.out.out hrow (by decide) G1 rfl e
        clear hAr hcr hxr hrow HS5 hgr
        go_upto_region 22 with fail
        go_region_law (first
          | (go_simp; go_at_call 65; refine (amongLit_any [-1, 0, 1000, 1001] 4 _ rfl rfl (by omega) (by omega) g A c cs _ _ HSd.out (by omega)).mono ?_; rintro e w6 ⟨v, rfl, hv, hS, hF⟩; have hs6 := hF.size; (try simp at hs6); have HR6 := Lib.hid (OwnR.alloc' (hF.ownR HRd.out (by omega)) (.cells #[.int .i64 v] 2)); have HO6 := Lib.hid (hF.own (show Own LHand 58 w5.drew w1.heap.size B d zs from HO5.out) (fun e => by have := (HO5.out.blk_lt g e).1; omega)); have HF6 := Lib.hid (HFd.out.trans hF); have hcG6 : w6.cell? ⟨G1, 0, none⟩ = some (.slice Ar xr.length cr) := (hF.cell ⟨G1, 0, none⟩ (by simp; omega) (by simp; omega)).trans hcG; have hcH6 : ∀ o : Obj, (w6.alloc o).cell? ⟨G1, 0, none⟩ = some (.slice Ar xr.length cr) := (fun o => (World.cell?_alloc_lt w6 o _ (by show G1 < _; omega)).trans hcG6); have hfG6 : w6.frozen? ⟨G1, 0, none⟩ = false := (hF.frozen ⟨G1, 0, none⟩ (by simp; omega) (by simp; omega)).trans hfG; have HX6 := Lib.hid ((hF.own (show Own LI 2 w5.drew w1.heap.size Ar cr xr from HRW.out) (fun e => by have := (hnb g e).1; omega)).alloc (.cells #[.int .i64 v] 2)))
          | (refine stepL_app1 (L := LI) rowI rfl rfl _ _ rfl rfl HX6.out v rfl ?_ (by unfold maxLen; omega) (by omega) (by simp; omega) ?_; (focus (intro j v hv; cases j <;> simp [LI] at hv; subst hv; go_simp)); intro A7 c7 w7 ho7 hg7; have hcG7 : w7.cell? ⟨G1, 0, none⟩ = some (.slice Ar xr.length cr) := (hg7.cell ⟨G1, 0, none⟩ (by simp; omega) hnG).trans ((World.cell?_alloc_lt w6 _ _ (by show G1 < _; omega)).trans hcG6); have hfG7 : w7.frozen? ⟨G1, 0, none⟩ = false := (hg7.frozen ⟨G1, 0, none⟩ (by simp; omega) hnG).trans ((((Below.refl _ w6).alloc (Nat.le_refl _) _).frozen (p := ⟨G1, 0, none⟩) (by show G1 < _; omega)).trans hfG6)))
        all_goals
          as_aux_lemma =>
          have hbz : Below w1.heap.size w6 w7 := ((Below.refl w1.heap.size w6).alloc (by omega) _).trans (hg7.below' (by simp; omega) (fun b e => (hnb b e).1))
          have HR7 := Lib.hid (HR6.out.appRow' (by decide) hz (A7, c7, xr ++ [v]) ho7 (HGR.out _ _ _ hg7))
          have HO7 := Lib.hid (((hg7.own (HO6.out.alloc _) (fun b h1 h2 => (own_types (HO6.out.alloc _) HX6.out (show (58 : TypeId) ≠ 2 by decide)) b h1 h2)).1).setFar (p := ⟨G1, 0, none⟩) (fun e => own_types (HO6.out.alloc (.cells #[.int .i64 v] 2)) HR6.out.out (show (58 : TypeId) ≠ 26 by decide) G1 e rfl) (.slice A7 (xr ++ [v]).length c7))
          have HF7 := Lib.hid ((HF6.out.then_ hbz (Nat.le_refl _)).then_ ((Below.refl w1.heap.size w7).setCell (p := ⟨G1, 0, none⟩) hG1b (.slice A7 (xr ++ [v]).length c7)) (Nat.le_refl _))
          have HBz := Lib.hid (HB1.out.trans (HF7.out.below HB1.out.size hgw))
          have HDz := Lib.hid (dat_set0 (m := 23) (r := (A7, c7, xr ++ [v])) (fun r hr => by have := HD.out r hr; omega) (by simp; omega))
          go_wp2_with fail
          exact bodyPost_ret (v := .tuple #[.slice B zs.length d, .slice (some ⟨G1, 0, none⟩) rs.length c1]) (by simp [results, Try.results30, go_sem]) rfl ⟨B, d, zs, some ⟨G1, 0, none⟩, c1, rs.set 0 (A7, c7, xr ++ [v]), by simp, hl, by simp; exact hr21, HDz.out, by simpa using HO7.out.lower (by omega), by simpa using HR7.out.rd, HOK.out, by simpa using HBz.out⟩
      by_cases z1 : q = 1
      · subst z1
        obtain ⟨G1, rfl, hG1b, hG1l, hcG, hfG, hrow⟩ := HR5.out.at_ hz
        have hcap := HR5.out.out.cap
        have hle := HR5.out.out.le
        rw [List.length_map] at hle
        obtain ⟨X, hX⟩ : ∃ X : Addr, X = if c1 = 1 then (⟨G1, 0, none⟩ : Addr) else (⟨G1, 0, none⟩ : Addr).add 1 := ⟨_, rfl⟩
        have HT := Lib.hid (HR5.out.tail hX)
        have HBz := Lib.hid (HB1.out.trans (HF5.out.below HB1.out.size hgw))
        clear HS5
        by_cases hc1 : c1 = 1
        · rw [if_pos hc1] at hX
          subst hX
          go_wp2_with fail
          exact bodyPost_ret (v := .tuple #[.slice B zs.length d, .slice (some ⟨G1, 0, none⟩) (rs.length - 1) (c1 - 1)]) (by simp [results, Try.results30, go_sem, hc1]) rfl ⟨B, d, zs, some ⟨G1, 0, none⟩, c1 - 1, rs.drop 1, by simp [hc1], hl, by simp; omega, (fun r hr => by have := HD.out r (by unfold dat at hr ⊢; rw [List.map_drop] at hr; exact List.mem_of_mem_drop hr); omega), HO5.out.lower (by omega), HT.out, HOK.out, HBz.out⟩
        · rw [if_neg hc1, add_lit] at hX
          subst hX
          go_wp2_with fail
          exact bodyPost_ret (v := .tuple #[.slice B zs.length d, .slice (some ⟨G1, 1, none⟩) (rs.length - 1) (c1 - 1)]) (by simp [results, Try.results30, go_sem]) rfl ⟨B, d, zs, some ⟨G1, 1, none⟩, c1 - 1, rs.drop 1, by simp, hl, by simp; omega, (fun r hr => by have := HD.out r (by unfold dat at hr ⊢; rw [List.map_drop] at hr; exact List.mem_of_mem_drop hr); omega), HO5.out.lower (by omega), HT.out, HOK.out, HBz.out⟩
      by_cases z2 : q = 2
      · subst z2
        obtain ⟨G1, rfl, hG1b, hG1l, hcG, hfG, hrow⟩ := HR5.out.at_ hz
        have hlr := HD.out _ (List.mem_map.2 ⟨_, List.getElem_mem hz, rfl⟩)
        obtain ⟨Ar, hAr⟩ : ∃ Ar, Ar = rs[0].1 := ⟨_, rfl⟩
        obtain ⟨cr, hcr⟩ : ∃ cr, cr = rs[0].2.1 := ⟨_, rfl⟩
        obtain ⟨xr, hxr⟩ : ∃ xr, xr = rs[0].2.2 := ⟨_, rfl⟩
        rw [← hAr, ← hcr, ← hxr] at hrow
        rw [← hAr, ← hcr, ← hxr] at hcG
        rw [← hxr] at hlr
        have hxl := hrow.len63
        by_cases hx0 : 0 < xr.length
        · have hxi : (0 : Int) < xr.length := by omega
          obtain ⟨G2, hG2, hG2b, hG2l, hc2, hf2⟩ := hrow.int hx0
          have HA2 : Hid (rs[0].1 = some ⟨G2, 0, none⟩) := Lib.hid (by rw [← hAr, hG2])
          rw [hG2] at hcG
          have HX2 := Lib.hid hxr
          generalize xr[0] = old at *
          have HSd := Lib.hid HS5.out.dr
          have HRd := Lib.hid HR5.out.dr'
          have HFd := Lib.hid HF5.out.drew
          clear hAr hcr hxr hrow HS5 hG2
          go_upto_region 27 with fail
          go_region_law (first
            | (go_simp; go_at_call 65; refine (amongLit_any [-1, 0, 1000, 1001] 4 _ rfl rfl (by omega) (by omega) g A c cs _ _ HSd.out (by omega)).mono ?_; rintro e w6 ⟨v, rfl, hv, hS, hF⟩; have hs6 := hF.size; (try simp at hs6); have HR6 := Lib.hid (hF.ownR HRd.out (by omega)); have HO6 := Lib.hid (hF.own (show Own LHand 58 w5.drew w1.heap.size B d zs from HO5.out) (fun e => by have := (HO5.out.blk_lt g e).1; omega)); have HF6 := Lib.hid (HFd.out.trans hF); have hcG6 : w6.cell? ⟨G1, 0, none⟩ = some (.slice (some ⟨G2, 0, none⟩) xr.length cr) := (hF.cell ⟨G1, 0, none⟩ (by simp; omega) (by simp; omega)).trans hcG; have hc26 : w6.cell? ⟨G2, 0, none⟩ = some (.int .i64 old) := (hF.cell ⟨G2, 0, none⟩ (by simp; omega) (by simp; omega)).trans hc2; have hf26 : w6.frozen? ⟨G2, 0, none⟩ = false := (hF.frozen ⟨G2, 0, none⟩ (by simp; omega) (by simp; omega)).trans hf2))
          all_goals
            as_aux_lemma =>
            have HR7 := Lib.hid (HR6.out.setInt (by decide) hz HA2.out 0 v)
            have HO7 := Lib.hid (HO6.out.setFar (p := ⟨G2, 0, none⟩) (fun e => own_types HO6.out (HR6.out.inn _ (List.getElem_mem hz)) (by decide) G2 e (by rw [HA2.out]; rfl)) (.int .i64 v))
            have HF7 := Lib.hid (HF6.out.then_ ((Below.refl w1.heap.size w6).setCell (p := ⟨G2, 0, none⟩) hG2b (.int .i64 v)) (Nat.le_refl _))
            have HBz := Lib.hid (HB1.out.trans (HF7.out.below HB1.out.size hgw))
            have HDz := Lib.hid (dat_set0 (m := 23) (r := (rs[0].1, rs[0].2.1, rs[0].2.2.set 0 v)) (fun r hr => by have := HD.out r hr; omega) (by have := HD.out _ (List.mem_map.2 ⟨_, List.getElem_mem hz, rfl⟩); simp at this ⊢; omega))
            go_wp2_with fail
            exact bodyPost_ret (v := .tuple #[.slice B zs.length d, .slice (some ⟨G1, 0, none⟩) rs.length c1]) (by simp [results, Try.results30, go_sem]) rfl ⟨B, d, zs, some ⟨G1, 0, none⟩, c1, rs.set 0 (rs[0].1, rs[0].2.1, rs[0].2.2.set 0 v), by simp, hl, by simp; exact hr21, HDz.out, by simpa using HO7.out.lower (by omega), by simpa using HR7.out.rd, HOK.out, by simpa using HBz.out⟩
        · have hxi : (xr.length : Int) ≤ 0 := by omega
          have HBz := Lib.hid (HB1.out.trans (HF5.out.below HB1.out.size hgw))
          have hx00 : xr.length = 0 := by omega
          rw [hx00] at hcG
          clear HS5 hxi hx0 hx00
          go_wp2_with fail
          exact bodyPost_ret (v := .tuple #[.slice B zs.length d, .slice (some ⟨G1, 0, none⟩) rs.length c1]) (by simp [results, Try.results30, go_sem]) rfl ⟨B, d, zs, _, c1, rs, rfl, hl, hr21, (fun r hr => by have := HD.out r hr; omega), HO5.out.lower (by omega), HR5.out.rd, HOK.out, HBz.out⟩
      have f0 : (q == 0) = false := by rw [beq_eq_false_iff_ne]; exact z0
      have f1 : (q == 1) = false := by rw [beq_eq_false_iff_ne]; exact z1
      have f2 : (q == 2) = false := by rw [beq_eq_false_iff_ne]; exact z2
      have HBz := Lib.hid (HB1.out.trans (HF5.out.below HB1.out.size hgw))
      go_wp2_with fail
      exact bodyPost_ret (v := .tuple #[.slice B zs.length d, .slice A1 rs.length c1]) (by simp [results, Try.results30, go_sem]) rfl ⟨B, d, zs, A1, c1, rs, rfl, hl, hr21, (fun r hr => by have := HD.out r hr; omega), HO5.out.lower (by omega), HR5.out.rd, HOK.out, HBz.out⟩
end Go.Proofs.Ytofcmljnckdknaa
