/-
  The reference's best list, FewestMoves and BestMoves.
-/
import Derived.Test.YtiefiikheaiekaaDoorMovesRef
import Derived.Test.YtiefiikheaiekaaDoorYardH
import Derived.Test.YtiefiikheaiekaaDoorJoinZ
namespace Go.Proofs.YtiefiikheaiekaaDoor
open Go.ChangeShapes Go.WideShapes Go.RowKit

theorem inv_of {X : List (List Int)} {o : List Int} (h : ocP X o = 0) : Inv X o := by
  unfold ocP at h
  split at h
  · rename_i hv
    split at h
    · rename_i ho
      have ho := dB_true ho
      refine ⟨hv, fun p hp => ?_, ?_⟩
      · obtain ⟨i, hi, rfl⟩ := List.getElem_of_mem hp
        exact (ho i hi).1
      · unfold List.Nodup
        rw [List.pairwise_iff_getElem]
        intro i j hi hj hij e
        exact (ho j hj).2 (by rw [List.mem_take_iff_getElem]; exact ⟨i, by omega, e⟩)
    · omega
  · omega
theorem vy_oc {X : List (List Int)} {o : List Int} (h : ocP X o = 0) : vyB X = true := (inv_of h).vy
theorem ocP_bd (X : List (List Int)) (o : List Int) : 0 ≤ ocP X o ∧ ocP X o ≤ 2 := by
  unfold ocP
  split
  · split <;> omega
  · omega
noncomputable def bmP (X : List (List Int)) (o : List Int) : List (Int × Int) × Int := if ocP X o = 0 then (match bestP X o with | some p => (p.1, 0) | none => ([], 3)) else ([], ocP X o)
noncomputable def fmP (X : List (List Int)) (o : List Int) : Int × Int := if ocP X o = 0 then (match bestP X o with | some p => ((p.2 : Int), 0) | none => (0, 3)) else (0, ocP X o)
theorem bm_bad {X : List (List Int)} {o : List Int} {k : Int} (h : ocP X o = k) (h0 : k ≠ 0) : bmP X o = ([], k) ∧ fmP X o = (0, k) := by
  unfold bmP fmP
  rw [h, if_neg h0, if_neg h0]
  exact ⟨rfl, rfl⟩
theorem bm_some {X : List (List Int)} {o : List Int} {L : List (Int × Int)} {n : Nat} (h : ocP X o = 0) (hb : Best X o L n) : bmP X o = (L, 0) ∧ fmP X o = ((n : Int), 0) := by
  unfold bmP fmP
  rw [if_pos h, if_pos h, bestP_some hb]
  exact ⟨rfl, rfl⟩
theorem bm_none {X : List (List Int)} {o : List Int} (h : ocP X o = 0) (hb : ∀ L n, ¬ Sol X o L n) : bmP X o = ([], 3) ∧ fmP X o = (0, 3) := by
  unfold bmP fmP
  rw [if_pos h, if_pos h, bestP_none hb]
  exact ⟨rfl, rfl⟩
theorem fm_snd (X : List (List Int)) (o : List Int) : (fmP X o).2 = (bmP X o).2 := by
  unfold bmP fmP
  split
  · cases bestP X o <;> rfl
  · rfl
theorem bmP_len (X : List (List Int)) (o : List Int) : (bmP X o).1.length ≤ 1048576 := by
  by_cases h : ocP X o = 0
  · have hv := inv_of h
    by_cases h2 : X.length = 1 ∧ 0 < wayX o X
    · rw [(bm_none h (no_sol hv h2.1 h2.2)).1]
      simp
    · obtain ⟨L, n, hs, hl, hn⟩ := least_some hv (fun e => by have : ¬ 0 < wayX o X := fun hw => h2 ⟨e, hw⟩; omega)
      obtain ⟨L2, _, hb⟩ := srch_best hv hs hl (Nat.le_refl _)
      rw [(bm_some h hb).1]
      have h3 := hb.sol.len
      have h4 := ord_len hv
      simp only
      omega
  · rw [(bm_bad rfl h).1]
    simp
def BlR (X : List (List Int)) (o : List Int) (w : World) (e : Ending) (w' : World) : Prop :=
  ∃ (A1 : Option Addr) (c1 : Nat), e = .returned (.tuple #[.slice A1 (bmP X o).1.length c1, .int .i64 (fmP X o).1, .int .i64 (bmP X o).2]) ∧ Own LMove 45 w' w.heap.size A1 c1 (bmP X o).1 ∧ Below w.heap.size w w'
set_option maxRecDepth 100000 in
set_option maxHeartbeats 3200000 in
theorem l20Best_any (A : Option Addr) (c : Nat) (rs : List (Row Int)) (Ao : Option Addr) (co : Nat) (o : List Int) (w : World) (hr : RdR LI w w.heap.size A c rs) (hn : tlL (dat rs) ≤ 1048576) (hnil : ∀ r ∈ rs, r.1 = none → r.2.1 = 0) (ho : Rd LI w w.heap.size Ao co o) :
    Calls Tryd.prog 28 #[.slice A rs.length c, .slice Ao o.length co] w (BlR (dat rs) o w) := by
  have hc := l20Code_any A c rs Ao co o w hr hn ho
  have hlen := hr.len63
  have hleno := ho.len63
  have HX := Lib.hid (dat_len rs)
  have HRR := Lib.hid hr
  have HRO := Lib.hid ho
  have HNIL := Lib.hid hnil
  obtain ⟨b1, b2⟩ := ocP_bd (dat rs) o
  unfold BlR
  by_cases h0 : ocP (dat rs) o = 0
  rotate_left
  · have HB := Lib.hid (bm_bad rfl h0)
    have hz : (ocP (dat rs) o != 0) = true := by rw [bne_iff_ne]; exact h0
    generalize ocP (dat rs) o = k at *
    rw [HB.out.1, HB.out.2]
    clear hr hn hnil ho h0
    go_enter Tryd.func28, Tryd.ntmps28
    go_wp2_with fail
    refine hc.mono ?_
    rintro e w1 ⟨rfl, hb1⟩
    go_wp2_with fail
    exact bodyPost_ret (v := .tuple #[.slice none 0 0, .int .i64 0, .int .i64 k]) (by simp [results, Tryd.results28, go_sem]) rfl ⟨none, 0, rfl, Own.none_, hb1⟩
  have HV := Lib.hid (inv_of h0)
  have hwy := fun W h1 h2 => l20Way_any A c rs Ao co o w.heap.size W h1 hn h2
  rw [h0] at hc
  have hX := HX.out
  by_cases hone : (dat rs).length = 1 ∧ 0 < wayX o (dat rs)
  · have HB := Lib.hid (bm_none h0 (no_sol HV.out hone.1 hone.2))
    rw [HB.out.1, HB.out.2]
    have hw1 : (0 : Int) < wayX o (dat rs) := by have := hone.2; omega
    have hr1 : rs.length = 1 := by rw [← hX]; exact hone.1
    have hri : ((rs.length : Int) == 1) = true := by rw [beq_iff_eq]; omega
    have hrn : (rs.length == 1) = true := by rw [beq_iff_eq]; omega
    generalize wayX o (dat rs) = way at *
    have hw2 : 0 < way := by omega
    have HR1 := Lib.hid hr1
    clear hr hn hnil ho h0 hone b1 b2 hX hr1
    go_enter Tryd.func28, Tryd.ntmps28
    go_wp2_with fail
    refine hc.mono ?_
    rintro e w1 ⟨rfl, hb1⟩
    go_wp2_with fail
    refine (hwy _ (HRR.out.below hb1) (HRO.out.below hb1)).mono ?_
    rintro e w2 ⟨rfl, rfl⟩
    go_wp2_with fail
    exact bodyPost_ret (v := .tuple #[.slice none 0 0, .int .i64 0, .int .i64 3]) (by simp [results, Tryd.results28, go_sem]) rfl ⟨none, 0, rfl, Own.none_, hb1⟩
  · obtain ⟨L0, n, hs, hl, hn6⟩ := least_some HV.out (fun e => by have : ¬ 0 < wayX o (dat rs) := fun hw => hone ⟨e, hw⟩; omega)
    have ho6 := ord_len HV.out
    have hwn := way_le hs HV.out
    have HS := Lib.hid hs
    have HL := Lib.hid hl
    have H0 := Lib.hid h0
    have hgo : decide (0 < wayX o (dat rs)) = false ∨ ((rs.length : Int) == 1) = false ∧ (rs.length == 1) = false := by
      by_cases hw : 0 < wayX o (dat rs)
      · refine .inr ⟨?_, ?_⟩
        · rw [beq_eq_false_iff_ne]; intro e; exact hone ⟨by rw [hX]; omega, hw⟩
        · rw [beq_eq_false_iff_ne]; intro e; exact hone ⟨by rw [hX]; omega, hw⟩
      · exact .inl (decide_eq_false hw)
    have hIH := fun (q : Nat) (hq : q ≤ n) W h1 h2 => l20Search_any (q + o.length) A c rs Ao co o q (-1) W h1 HNIL.out h2 HV.out (Nat.le_refl _) (by omega) (by unfold I64; omega)
    have HIH := Lib.hid hIH
    obtain ⟨L, hL, hB⟩ := srch_best HV.out hs hl (Nat.le_refl _)
    have HE := Lib.hid (bm_some h0 hB)
    have HLL := Lib.hid hL
    rw [HE.out.1, HE.out.2]
    generalize wayX o (dat rs) = way at *
    clear hr hn hnil ho h0 hone b1 b2 hX hs hl hIH hL hB
    rcases hgo with hg | ⟨hg1, hg2⟩
    · have hw0 : way = 0 := by have := of_decide_eq_false hg; omega
      have hgi : decide ((0 : Int) < (way : Int)) = false := decide_eq_false (by omega)
      have HW0 := Lib.hid hw0
      clear hw0
      go_enter Tryd.func28, Tryd.ntmps28
      go_wp2_with fail
      refine hc.mono ?_
      rintro e w1 ⟨rfl, hb1⟩
      go_wp2_with fail
      refine (hwy _ (HRR.out.below hb1) (HRO.out.below hb1)).mono ?_
      rintro e w2 ⟨rfl, rfl⟩
      have HB1 := Lib.hid hb1
      clear hc hwy hb1
      go_wp2_with fail
      go_loopw [9] (fun i wz => ∃ q : Nat, q ≤ n ∧ i = .int .i64 q ∧ Hid (Below w.heap.size w wz)) (fun i _ => n - (intOf i).toNat)
      case atStart => exact ⟨way, hwn, rfl, HB1⟩
      case round =>
        obtain ⟨q, hq, rfl, HBz⟩ := hrel
        have hs := HIH.out q hq wr ((HRR.out.below HBz.out).more HBz.out.size) ((HRO.out.below HBz.out).more HBz.out.size)
        by_cases hqn : q = n
        · subst hqn
          unfold SrR at hs
          rw [HLL.out] at hs
          go_wp2_with fail
          refine hs.mono ?_
          rintro e w4 ⟨A4, c4, L4, rfl, ho4, hl4, hm4, hb4⟩
          obtain rfl := hm4 L rfl
          have HB4 := Lib.hid (bthen HBz.out (Nat.le_refl _) hb4)
          have HO4 := Lib.hid (ho4.lower HBz.out.size)
          clear hs hm4 hb4 ho4
          go_wp2_with fail
          exact bodyPost_ret (v := .tuple #[.slice A4 L4.length c4, .int .i64 q, .int .i64 0]) (by simp [results, Tryd.results28, go_sem]) rfl ⟨A4, c4, rfl, HO4.out, HB4.out⟩
        · have hL := srch_none (f := q + o.length) HL.out (show q < n by omega)
          unfold SrR at hs
          rw [hL] at hs
          clear hL
          go_wp2_with fail
          refine hs.mono ?_
          rintro e w4 ⟨A4, c4, L4, rfl, ho4, hl4, hm4, hb4⟩
          have HB4 := Lib.hid (bthen HBz.out (Nat.le_refl _) hb4)
          clear hs hm4 hb4 ho4
          go_wp2_with fail
          go_roundw
          case rel => exact ⟨q + 1, by omega, by go_num, HB4⟩
          case measure => simp [intOf]; omega
    · by_cases hw0 : 0 < way
      · have hgi : (0 : Int) < (way : Int) := by omega
        go_enter Tryd.func28, Tryd.ntmps28
        go_wp2_with fail
        refine hc.mono ?_
        rintro e w1 ⟨rfl, hb1⟩
        go_wp2_with fail
        refine (hwy _ (HRR.out.below hb1) (HRO.out.below hb1)).mono ?_
        rintro e w2 ⟨rfl, rfl⟩
        have HB1 := Lib.hid hb1
        clear hc hwy hb1
        go_wp2_with fail
        go_loopw [9] (fun i wz => ∃ q : Nat, q ≤ n ∧ i = .int .i64 q ∧ Hid (Below w.heap.size w wz)) (fun i _ => n - (intOf i).toNat)
        case atStart => exact ⟨way, hwn, rfl, HB1⟩
        case round =>
          obtain ⟨q, hq, rfl, HBz⟩ := hrel
          have hs := HIH.out q hq wr ((HRR.out.below HBz.out).more HBz.out.size) ((HRO.out.below HBz.out).more HBz.out.size)
          by_cases hqn : q = n
          · subst hqn
            unfold SrR at hs
            rw [HLL.out] at hs
            go_wp2_with fail
            refine hs.mono ?_
            rintro e w4 ⟨A4, c4, L4, rfl, ho4, hl4, hm4, hb4⟩
            obtain rfl := hm4 L rfl
            have HB4 := Lib.hid (bthen HBz.out (Nat.le_refl _) hb4)
            have HO4 := Lib.hid (ho4.lower HBz.out.size)
            clear hs hm4 hb4 ho4
            go_wp2_with fail
            exact bodyPost_ret (v := .tuple #[.slice A4 L4.length c4, .int .i64 q, .int .i64 0]) (by simp [results, Tryd.results28, go_sem]) rfl ⟨A4, c4, rfl, HO4.out, HB4.out⟩
          · have hL := srch_none (f := q + o.length) HL.out (show q < n by omega)
            unfold SrR at hs
            rw [hL] at hs
            clear hL
            go_wp2_with fail
            refine hs.mono ?_
            rintro e w4 ⟨A4, c4, L4, rfl, ho4, hl4, hm4, hb4⟩
            have HB4 := Lib.hid (bthen HBz.out (Nat.le_refl _) hb4)
            clear hs hm4 hb4 ho4
            go_wp2_with fail
            go_roundw
            case rel => exact ⟨q + 1, by omega, by go_num, HB4⟩
            case measure => simp [intOf]; omega
      · have hg : decide (0 < way) = false := decide_eq_false hw0
        have hgi : decide ((0 : Int) < (way : Int)) = false := decide_eq_false (by omega)
        have HW0 := Lib.hid hw0
        clear hw0
        go_enter Tryd.func28, Tryd.ntmps28
        go_wp2_with fail
        refine hc.mono ?_
        rintro e w1 ⟨rfl, hb1⟩
        go_wp2_with fail
        refine (hwy _ (HRR.out.below hb1) (HRO.out.below hb1)).mono ?_
        rintro e w2 ⟨rfl, rfl⟩
        have HB1 := Lib.hid hb1
        clear hc hwy hb1
        go_wp2_with fail
        go_loopw [9] (fun i wz => ∃ q : Nat, q ≤ n ∧ i = .int .i64 q ∧ Hid (Below w.heap.size w wz)) (fun i _ => n - (intOf i).toNat)
        case atStart => exact ⟨way, hwn, rfl, HB1⟩
        case round =>
          obtain ⟨q, hq, rfl, HBz⟩ := hrel
          have hs := HIH.out q hq wr ((HRR.out.below HBz.out).more HBz.out.size) ((HRO.out.below HBz.out).more HBz.out.size)
          by_cases hqn : q = n
          · subst hqn
            unfold SrR at hs
            rw [HLL.out] at hs
            go_wp2_with fail
            refine hs.mono ?_
            rintro e w4 ⟨A4, c4, L4, rfl, ho4, hl4, hm4, hb4⟩
            obtain rfl := hm4 L rfl
            have HB4 := Lib.hid (bthen HBz.out (Nat.le_refl _) hb4)
            have HO4 := Lib.hid (ho4.lower HBz.out.size)
            clear hs hm4 hb4 ho4
            go_wp2_with fail
            exact bodyPost_ret (v := .tuple #[.slice A4 L4.length c4, .int .i64 q, .int .i64 0]) (by simp [results, Tryd.results28, go_sem]) rfl ⟨A4, c4, rfl, HO4.out, HB4.out⟩
          · have hL := srch_none (f := q + o.length) HL.out (show q < n by omega)
            unfold SrR at hs
            rw [hL] at hs
            clear hL
            go_wp2_with fail
            refine hs.mono ?_
            rintro e w4 ⟨A4, c4, L4, rfl, ho4, hl4, hm4, hb4⟩
            have HB4 := Lib.hid (bthen HBz.out (Nat.le_refl _) hb4)
            clear hs hm4 hb4 ho4
            go_wp2_with fail
            go_roundw
            case rel => exact ⟨q + 1, by omega, by go_num, HB4⟩
            case measure => simp [intOf]; omega
set_option maxRecDepth 100000 in
set_option maxHeartbeats 3200000 in
theorem specFewestMoves_any (A : Option Addr) (c : Nat) (rs : List (Row Int)) (Ao : Option Addr) (co : Nat) (o : List Int) (w : World) (hr : RdR LI w w.heap.size A c rs) (ho : Rd LI w w.heap.size Ao co o) (hn : tlL (dat rs) ≤ 1048576) (hnil : ∀ r ∈ rs, r.1 = none → r.2.1 = 0) (_ht : TabW w) :
    Calls Tryd.prog 7 #[.slice A rs.length c, .slice Ao o.length co] w fun e w' => e = .returned (.tuple #[.int .i64 (fmP (dat rs) o).1, .int .i64 (fmP (dat rs) o).2]) ∧ Below w.heap.size w w' := by
  have hc := l20Best_any A c rs Ao co o w hr hn hnil ho
  unfold BlR at hc
  have HE := Lib.hid (fm_snd (dat rs) o)
  generalize fmP (dat rs) o = F at *
  generalize bmP (dat rs) o = B at *
  obtain ⟨f1, f2⟩ := F
  obtain ⟨L, b2⟩ := B
  dsimp only at *
  have HE2 : Hid (f2 = b2) := HE
  clear HE
  go_enter Tryd.func7, Tryd.ntmps7
  go_wp2_with fail
  refine hc.mono ?_
  rintro e w1 ⟨A1, c1, rfl, ho1, hb1⟩
  go_wp2_with fail
  go_ret2
  exact ⟨ret_ii rfl HE2.out.symm, hb1⟩
set_option maxRecDepth 100000 in
set_option maxHeartbeats 3200000 in
theorem specBestMoves_any (A : Option Addr) (c : Nat) (rs : List (Row Int)) (Ao : Option Addr) (co : Nat) (o : List Int) (w : World) (hr : RdR LI w w.heap.size A c rs) (ho : Rd LI w w.heap.size Ao co o) (hn : tlL (dat rs) ≤ 1048576) (hnil : ∀ r ∈ rs, r.1 = none → r.2.1 = 0) (_ht : TabW w) :
    Calls Tryd.prog 13 #[.slice A rs.length c, .slice Ao o.length co] w fun e w' => ∃ B d, e = .returned (.tuple #[.slice B (bmP (dat rs) o).1.length d, .int .i64 (bmP (dat rs) o).2]) ∧ Own LMove 45 w' w.heap.size B d (bmP (dat rs) o).1 ∧ Below w.heap.size w w' := by
  have hc := l20Best_any A c rs Ao co o w hr hn hnil ho
  unfold BlR at hc
  generalize fmP (dat rs) o = F at *
  generalize bmP (dat rs) o = B at *
  obtain ⟨f1, f2⟩ := F
  obtain ⟨L, b2⟩ := B
  dsimp only at *
  go_enter Tryd.func13, Tryd.ntmps13
  go_wp2_with fail
  refine hc.mono ?_
  rintro e w1 ⟨A1, c1, rfl, ho1, hb1⟩
  go_wp2_with fail
  go_ret2
  exact ⟨A1, c1, rfl, ho1, hb1⟩
end Go.Proofs.YtiefiikheaiekaaDoor
