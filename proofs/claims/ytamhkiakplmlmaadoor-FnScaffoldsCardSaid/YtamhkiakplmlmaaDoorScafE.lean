/-
  Scaffolds: RoomFor.
-/
import Derived.Test.YtamhkiakplmlmaaDoorScafC
import Derived.Test.YtamhkiakplmlmaaDoorSteps
namespace Go.Proofs.YtamhkiakplmlmaaDoor
open Go.ChangeShapes Go.WideShapes Go.RowKit

/-- what the first k bays still bear -/
def rfL (n : Int) (ss : List StandD) (tier : Int) (k : Nat) : List Int := (List.range k).map fun (i : Nat) => max (n - wt ss tier i) 0
theorem rfL_succ (n : Int) (ss : List StandD) (tier : Int) (k : Nat) : rfL n ss tier (k + 1) = rfL n ss tier k ++ [max (n - wt ss tier k) 0] := by simp [rfL, List.range_succ]
theorem rfL_len (n : Int) (ss : List StandD) (tier : Int) (k : Nat) : (rfL n ss tier k).length = k := by simp [rfL]
def rfP (b t : List Int) (n : Int) (ss : List StandD) (tier : Int) : List Int × Int := if scT b t n ss tier = 0 then (rfL n ss tier b.length, 0) else ([], scT b t n ss tier)
theorem scT_parts {b t : List Int} {n : Int} {ss : List StandD} {tier : Int} (h : scT b t n ss tier = 0) : vsB b t n = true ∧ scB b t ss = true ∧ inB tier 0 ((t.length : Int) - 1) = true := by
  unfold scT at h
  cases hv : vsB b t n
  · simp [hv] at h
  · rw [hv, if_pos rfl] at h
    by_cases hc : scB b t ss = true ∧ inB tier 0 ((t.length : Int) - 1) = true
    · exact ⟨rfl, hc⟩
    · rw [if_neg hc] at h; cases h
theorem scC_zero' {b t : List Int} {n : Int} {ss : List StandD} (h : scC b t n ss = 0) : vsB b t n = true ∧ scB b t ss = true := by
  unfold scC at h
  cases hv : vsB b t n <;> cases hs : scB b t ss <;> simp [hv, hs] at h ⊢
theorem rfP_len (b t : List Int) (n : Int) (ss : List StandD) (tier : Int) : (rfP b t n ss tier).1.length ≤ 1048576 := by
  unfold rfP
  split
  · rename_i h
    have := (vsB_parts (scT_parts h).1).1
    rw [rfL_len]
    omega
  · simp
theorem ret_sl {A : Option Addr} {m m' c : Nat} {a b : Int} (h : m = m') (h2 : a = b) : Ending.returned (.tuple #[.slice A m c, .int .i64 a]) = .returned (.tuple #[.slice A m' c, .int .i64 b]) := by rw [h, h2]

set_option maxHeartbeats 3200000 in
theorem implRoomFor_any (A0b : Option Addr) (c0b : Nat) (x0b : List Int) (A0t : Option Addr) (c0t : Nat) (x0t : List Int) (n0 : Int) (As : Option Addr) (cs : Nat) (ss : List StandD) (tier : Int) (w : World) (hb : Rd LI w w.heap.size A0b c0b x0b) (ht : Rd LI w w.heap.size A0t c0t x0t) (hs : Rd LStand w w.heap.size As cs ss) :
    Calls Tryd.prog 6 #[.agg #[.slice A0b x0b.length c0b, .slice A0t x0t.length c0t, .int .i64 n0], .slice As ss.length cs, .int .i64 tier] w fun e w' => ∃ B d, e = .returned (.tuple #[.slice B (rfP x0b x0t n0 ss tier).1.length d, .int .i64 (rfP x0b x0t n0 ss tier).2]) ∧ Own LI 2 w' w.heap.size B d (rfP x0b x0t n0 ss tier).1 ∧ Below w.heap.size w w' := by
  have hl1 := hb.len63
  have hl2 := ht.len63
  have hb0 : Below w.heap.size w (w.alloc (.cells #[.slice A0b x0b.length c0b, .slice A0t x0t.length c0t, .int .i64 n0] 26)) := (Below.refl _ w).alloc (Nat.le_refl _) _
  have hz : (w.alloc (.cells #[.slice A0b x0b.length c0b, .slice A0t x0t.length c0t, .int .i64 n0] 26)).heap.size = w.heap.size + 1 := by simp
  have hcc := standsCode_any A0b c0b x0b A0t c0t x0t n0 As cs ss tier (w.alloc (.cells #[.slice A0b x0b.length c0b, .slice A0t x0t.length c0t, .int .i64 n0] 26)) (hb.al _) (ht.al _) (hs.al _)
  by_cases hc : scT x0b x0t n0 ss tier = 0
  · have HP : Hid (rfP x0b x0t n0 ss tier = (rfL n0 ss tier x0b.length, 0)) := Lib.hid (by unfold rfP; rw [if_pos hc])
    rw [HP.out]
    obtain ⟨hv, hsc, hti⟩ := scT_parts hc
    rw [hc] at hcc
    have Hc := Lib.hid hc
    clear hc
    go_enter Tryd.func6, Tryd.ntmps6
    go_wp2_with fail
    refine hcc.mono ?_
    rintro e w1 ⟨rfl, hd⟩
    clear hcc
    have hb1 := bthen hb0 (Nat.le_refl _) hd
    have f0 : w1.cell? ⟨w.heap.size, 0, none⟩ = some (.slice A0b x0b.length c0b) := (hd.cell (by simp <;> omega)).trans (by go_simp)
    have f2 : w1.cell? ⟨w.heap.size, 2, none⟩ = some (.int .i64 n0) := (hd.cell (by simp <;> omega)).trans (by go_simp)
    have hs1 := hd.size
    rw [hz] at hs1
    obtain ⟨hn, hso⟩ := scB_parts hsc
    have hw : ∀ x ∈ ss, 0 ≤ x.2.2 ∧ x.2.2 ≤ 10000 := fun x hx => (stOk_parts (hso x hx)).2.2
    obtain ⟨⟨hm1, hm2⟩, _, _, _, hn0, hn1⟩ := vsB_parts hv
    have HW := Lib.hid hw
    have hsR := hs.below hb1
    clear hso hsc hv hw hd hb0 hz hti
    have kl : w.heap.size < w1.heap.size := by omega
    go_wp2_with fail
    go_loopw [9, 10, 22] (fun o _ i wr => ∃ (k : Nat) (A1 : Option Addr) (c1 : Nat), k ≤ x0b.length ∧ i = .int .i64 k ∧ o = .slice A1 (rfL n0 ss tier k).length c1 ∧ Own LI 2 wr w1.heap.size A1 c1 (rfL n0 ss tier k) ∧ Below w1.heap.size w1 wr) (fun _ _ i _ => x0b.length - (intOf i).toNat)
    case atStart => exact ⟨0, _, _, by omega, rfl, rfl, Own.lit0 w1 (Nat.le_refl _) rfl, (Below.refl _ _).alloc (Nat.le_refl _) _⟩
    case round =>
      obtain ⟨k, A1, c1, hk, rfl, rfl, ho1, hbo⟩ := hrel
      have hso := hbo.size
      by_cases hlt : k < x0b.length
      · have g2 : wr.cell? ⟨w.heap.size, 2, none⟩ = some (.int .i64 n0) := (hbo.cell (by simp <;> omega)).trans f2
        have hsW : Rd LStand wr w.heap.size As cs ss := hsR.below (hbo.mono (by omega))
        have hcw := fun W hR hB => weightOn_any As cs ss tier (k : Int) w.heap.size W hR hB HW.out hn
        obtain ⟨b0, b1⟩ := wt_bd HW.out hn tier (k : Int) ss.length
        rw [List.take_of_length_le (Nat.le_refl _)] at b0 b1
        have HS : Hid (rfL n0 ss tier (k + 1) = rfL n0 ss tier k ++ [if n0 - wt ss tier k < 0 then 0 else n0 - wt ss tier k]) := Lib.hid (by rw [rfL_succ]; congr 2; split <;> omega)
        have hln : (rfL n0 ss tier k).length ≤ k := Nat.le_of_eq (rfL_len n0 ss tier k)
        generalize wt ss tier k = V at *
        generalize rfL n0 ss tier k = L1 at *
        have hwr : IntKind.i64.wrap (n0 - V) = n0 - V := wrapS (by omega) (by omega)
        go_wp2_with fail
        go_region_held3 (fun W => W.cell? ⟨w.heap.size, 2, none⟩ = some (.int .i64 n0))
          (first | go_keep | (refine (hc2.cell ?_).trans ?_; (focus (simp <;> omega)); assumption) | (refine (hg4.cell _ ?_ ?_).trans ?_; (focus (simp <;> omega)); (focus (intro e; have := ho1.blk_lt _ e; simp at this; omega)); assumption))
          ((first
            | (go_at_call 32; (with_reducible refine (hcw _ hsW.drew (by simp <;> omega)).mono ?_); rintro e w2 ⟨rfl, hc2⟩; have hb2 := bthen hbo.drew (Nat.le_refl _) hc2; have hs2 := hc2.size; (try simp at hs2); have ho2 := Own.below ho1.drew hc2)
            | (refine stepL_app1 (L := LI) (w := w2.alloc _) rowI rfl rfl _ _ rfl rfl (ho2.alloc _) (if n0 - V < 0 then 0 else n0 - V) rfl ?_ (by unfold maxLen; omega) (by omega) (by simp; omega) ?_; (focus (intro j v hv; cases j <;> simp [LI] at hv; subst hv; rw [World.cell?_alloc_at (hn := rfl)]; rfl)); intro A4 c4 w4 ho4 hg4)))
        go_wp2_with fail
        go_roundw
        case rel =>
          refine ⟨k + 1, A4, c4, by omega, by go_num, ?_, by rw [HS.out]; exact ho4, Grew.below (hb2.alloc (by omega) _) hg4 (by simp; omega) fun g' hg' => (ho1.blk_lt g' hg').1⟩
          rw [HS.out]; simp
        case measure => simp [intOf]; omega
      · have hkk : k = x0b.length := by omega
        subst hkk
        go_wp2_with fail
        refine bodyPost_ret (v := .tuple #[.slice A1 (rfL n0 ss tier x0b.length).length c1, .int .i64 0]) (by simp [results, Tryd.results6, go_sem]) rfl ⟨A1, c1, rfl, ho1.lower hb1.size, hb1.trans (hbo.mono hb1.size)⟩
  · have HP : Hid (rfP x0b x0t n0 ss tier = ([], scT x0b x0t n0 ss tier)) := Lib.hid (by unfold rfP; rw [if_neg hc])
    have hne : (scT x0b x0t n0 ss tier != 0) = true := by simpa using hc
    rw [HP.out]
    generalize scT x0b x0t n0 ss tier = C at *
    clear hc
    go_enter Tryd.func6, Tryd.ntmps6
    go_wp2_with fail
    refine hcc.mono ?_
    rintro e w1 ⟨rfl, hd⟩
    clear hcc
    have hb1 := bthen hb0 (Nat.le_refl _) hd
    have f0 : w1.cell? ⟨w.heap.size, 0, none⟩ = some (.slice A0b x0b.length c0b) := (hd.cell (by simp <;> omega)).trans (by go_simp)
    have f2 : w1.cell? ⟨w.heap.size, 2, none⟩ = some (.int .i64 n0) := (hd.cell (by simp <;> omega)).trans (by go_simp)
    have hs1 := hd.size
    rw [hz] at hs1
    go_wp2_with fail
    go_ret2
    exact ⟨none, 0, rfl, Own.none_, hb1⟩

theorem scC_T {b t : List Int} {n : Int} {ss : List StandD} {tier : Int} (h : scC b t n ss ≠ 0) : scT b t n ss tier = scC b t n ss := by
  unfold scC scT at *
  cases hv : vsB b t n
  · simp
  · cases hs : scB b t ss
    · simp
    · simp [hv, hs] at h
theorem scC_0 {b t : List Int} {n : Int} {ss : List StandD} {tier : Int} (h : scC b t n ss = 0) : scT b t n ss tier = if inB tier 0 ((t.length : Int) - 1) = true then 0 else 2 := by
  obtain ⟨hv, hs⟩ := scC_zero' h
  simp [scT, hv, hs]

set_option maxHeartbeats 3200000 in
theorem specRoomFor_any (A0b : Option Addr) (c0b : Nat) (x0b : List Int) (A0t : Option Addr) (c0t : Nat) (x0t : List Int) (n0 : Int) (As : Option Addr) (cs : Nat) (ss : List StandD) (tier : Int) (w : World) (hb : Rd LI w w.heap.size A0b c0b x0b) (ht : Rd LI w w.heap.size A0t c0t x0t) (hs : Rd LStand w w.heap.size As cs ss) :
    Calls Tryd.prog 7 #[.agg #[.slice A0b x0b.length c0b, .slice A0t x0t.length c0t, .int .i64 n0], .slice As ss.length cs, .int .i64 tier] w fun e w' => ∃ B d, e = .returned (.tuple #[.slice B (rfP x0b x0t n0 ss tier).1.length d, .int .i64 (rfP x0b x0t n0 ss tier).2]) ∧ Own LI 2 w' w.heap.size B d (rfP x0b x0t n0 ss tier).1 ∧ Below w.heap.size w w' := by
  have hl1 := hb.len63
  have hl2 := ht.len63
  have hb0 : Below w.heap.size w (w.alloc (.cells #[.slice A0b x0b.length c0b, .slice A0t x0t.length c0t, .int .i64 n0] 26)) := (Below.refl _ w).alloc (Nat.le_refl _) _
  have hz : (w.alloc (.cells #[.slice A0b x0b.length c0b, .slice A0t x0t.length c0t, .int .i64 n0] 26)).heap.size = w.heap.size + 1 := by simp
  have hcc := l22Stands_any A0b c0b x0b A0t c0t x0t n0 As cs ss w.heap.size (w.alloc (.cells #[.slice A0b x0b.length c0b, .slice A0t x0t.length c0t, .int .i64 n0] 26)) (hb.al _) (ht.al _) (hs.al _) (by go_simp) (by go_simp) (by go_simp)
  by_cases hc : scC x0b x0t n0 ss = 0
  · have HT := Lib.hid (scC_0 (tier := tier) hc)
    obtain ⟨hv, hsc⟩ := scC_zero' hc
    rw [hc] at hcc
    obtain ⟨hn, hso⟩ := scB_parts hsc
    have hw : ∀ x ∈ ss, 0 ≤ x.2.2 ∧ x.2.2 ≤ 10000 := fun x hx => (stOk_parts (hso x hx)).2.2
    obtain ⟨⟨hm1, hm2⟩, _, _, _, hn0, hn1⟩ := vsB_parts hv
    have HW := Lib.hid hw
    clear hc hso hsc hv hw
    cases hi : inB tier 0 ((x0t.length : Int) - 1)
    · have HP : Hid (rfP x0b x0t n0 ss tier = ([], 2)) := Lib.hid (by unfold rfP; rw [HT.out, hi]; rfl)
      rw [HP.out]
      go_enter Tryd.func7, Tryd.ntmps7
      go_wp2_with fail
      refine hcc.mono ?_
      rintro e w1 ⟨rfl, hd⟩
      have hb1 := hb0.trans hd.below
      have f1 : w1.cell? ⟨w.heap.size, 1, none⟩ = some (.slice A0t x0t.length c0t) := by obtain ⟨m, rfl⟩ := hd; go_simp
      have hs1 := hb1.size
      have hd1 : w.heap.size + 1 ≤ w1.heap.size := by obtain ⟨m, rfl⟩ := hd; simp
      clear hcc hd
      go_wp2_with (go_at_call 34; refine (l00In_any _ _ _ _).mono ?_; rintro e w' ⟨rfl, rfl⟩)
      go_ret2
      exact ⟨none, 0, rfl, Own.none_, hb1⟩
    · have HP : Hid (rfP x0b x0t n0 ss tier = (rfL n0 ss tier x0b.length, 0)) := Lib.hid (by unfold rfP; rw [HT.out, hi]; rfl)
      rw [HP.out]
      go_enter Tryd.func7, Tryd.ntmps7
      go_wp2_with fail
      refine hcc.mono ?_
      rintro e w1 ⟨rfl, hd⟩
      have hb1 := hb0.trans hd.below
      have f0 : w1.cell? ⟨w.heap.size, 0, none⟩ = some (.slice A0b x0b.length c0b) := by obtain ⟨m, rfl⟩ := hd; go_simp
      have f1 : w1.cell? ⟨w.heap.size, 1, none⟩ = some (.slice A0t x0t.length c0t) := by obtain ⟨m, rfl⟩ := hd; go_simp
      have f2 : w1.cell? ⟨w.heap.size, 2, none⟩ = some (.int .i64 n0) := by obtain ⟨m, rfl⟩ := hd; go_simp
      have hs1 := hb1.size
      have kl : w.heap.size < w1.heap.size := by obtain ⟨m, rfl⟩ := hd; simp
      have hsR := hs.below hb1
      clear hcc hd hb0 hz
      go_wp2_with (go_at_call 34; refine (l00In_any _ _ _ _).mono ?_; rintro e w' ⟨rfl, rfl⟩)
      go_loopw [9, 10] (fun o i wr => ∃ (k : Nat) (A1 : Option Addr) (c1 : Nat), k ≤ x0b.length ∧ i = .int .i64 k ∧ o = .slice A1 (rfL n0 ss tier k).length c1 ∧ Own LI 2 wr w1.heap.size A1 c1 (rfL n0 ss tier k) ∧ Below w1.heap.size w1 wr) (fun _ i _ => x0b.length - (intOf i).toNat)
      case atStart => exact ⟨0, _, _, by omega, rfl, rfl, Own.lit0 w1 (Nat.le_refl _) rfl, (Below.refl _ _).alloc (Nat.le_refl _) _⟩
      case round =>
        obtain ⟨k, A1, c1, hk, rfl, rfl, ho1, hbo⟩ := hrel
        have hso := hbo.size
        have g0 : wr.cell? ⟨w.heap.size, 0, none⟩ = some (.slice A0b x0b.length c0b) := (hbo.cell (by simp <;> omega)).trans f0
        by_cases hlt : k < x0b.length
        · have g2 : wr.cell? ⟨w.heap.size, 2, none⟩ = some (.int .i64 n0) := (hbo.cell (by simp <;> omega)).trans f2
          have hcw := fun W hR => l22Weight_any As cs ss (k : Int) tier w.heap.size W hR HW.out hn
          have hsW : Rd LStand wr w.heap.size As cs ss := hsR.below (hbo.mono (by omega))
          obtain ⟨b0, b1⟩ := wt_bd HW.out hn tier (k : Int) ss.length
          rw [List.take_of_length_le (Nat.le_refl _)] at b0 b1
          have HS : Hid (rfL n0 ss tier (k + 1) = rfL n0 ss tier k ++ [max 0 (n0 - wt ss tier k)]) := Lib.hid (by rw [rfL_succ]; congr 2; omega)
          have hln : (rfL n0 ss tier k).length ≤ k := Nat.le_of_eq (rfL_len n0 ss tier k)
          generalize wt ss tier k = V at *
          generalize rfL n0 ss tier k = L1 at *
          have hwr : IntKind.i64.wrap (n0 - V) = n0 - V := wrapS (by omega) (by omega)
          have hmx := fun W => l00Max_any 0 (n0 - V) W
          generalize max 0 (n0 - V) = M at *
          go_wp2_with fail
          go_region_held3 (fun W => W.cell? ⟨w.heap.size, 2, none⟩ = some (.int .i64 n0))
            (first | go_keep | (refine (hg4.cell _ ?_ ?_).trans ?_; (focus (simp <;> omega)); (focus (intro e; have := ho1.blk_lt _ e; simp at this; omega)); assumption))
            ((first
              | (go_at_call 36; (with_reducible refine (hcw _ hsW.drew).mono ?_); rintro e w2 ⟨rfl, rfl⟩)
              | (go_at_call 35; (with_reducible refine (hmx _).mono ?_); rintro e w2 ⟨rfl, rfl⟩)
              | (refine stepL_app1 (L := LI) rowI rfl rfl _ _ rfl rfl (ho1.alloc _).drew M rfl ?_ (by unfold maxLen; omega) (by omega) (by simp; omega) ?_; (focus (intro j v hv; cases j <;> simp [LI] at hv; subst hv; go_simp)); intro A4 c4 w4 ho4 hg4)))
          go_wp2_with fail
          go_roundw
          case rel =>
            refine ⟨k + 1, A4, c4, by omega, by go_num, ?_, by rw [HS.out]; exact ho4, Grew.below ((hbo.alloc (by omega) _).drew) hg4 (by simp; omega) fun g' hg' => (ho1.blk_lt g' hg').1⟩
            rw [HS.out]; simp
          case measure => simp [intOf]; omega
        · have hkk : k = x0b.length := by omega
          subst hkk
          go_wp2_with fail
          refine bodyPost_ret (v := .tuple #[.slice A1 (rfL n0 ss tier x0b.length).length c1, .int .i64 0]) (by simp [results, Tryd.results7, go_sem]) rfl ⟨A1, c1, rfl, ho1.lower hb1.size, hb1.trans (hbo.mono hb1.size)⟩
  · have HT := Lib.hid (scC_T (tier := tier) hc)
    have HP : Hid (rfP x0b x0t n0 ss tier = ([], scC x0b x0t n0 ss)) := Lib.hid (by unfold rfP; rw [HT.out, if_neg hc])
    have hne : (scC x0b x0t n0 ss != 0) = true := by simpa using hc
    have hne2 : (scC x0b x0t n0 ss == 0) = false := by simpa using hc
    rw [HP.out]
    generalize scC x0b x0t n0 ss = C at *
    clear hc
    go_enter Tryd.func7, Tryd.ntmps7
    go_wp2_with fail
    refine hcc.mono ?_
    rintro e w1 ⟨rfl, hd⟩
    have hb1 := hb0.trans hd.below
    clear hcc hd
    go_wp2_with fail
    go_ret2
    exact ⟨none, 0, rfl, Own.none_, hb1⟩
end Go.Proofs.YtamhkiakplmlmaaDoor
