/-
  Draws of texts of tested bricks, and of two lists.
-/
import Derived.Test.YtehmghlhljocbaaGreatDoorTsDrawB
namespace Go.Proofs.YtehmghlhljocbaaGreatDoor
open Go.ChangeShapes Go.WideShapes Go.RowKit

def SpL : List ByteArray := [{ data := #[32] }, { data := #[48] }, { data := #[45] }, { data := #[120] }, { data := #[49] }, { data := #[57] }, { data := #[46] }]
theorem SpL_size {n : ByteArray} (h : n ∈ SpL) : n.size ≤ 10 := by
  unfold SpL at h
  simp only [List.mem_cons, List.not_mem_nil, or_false] at h
  rcases h with h | h | h | h | h | h | h <;> subst h <;> decide
def DrewSt (g : Nat) (A : Option Addr) (c : Nat) (cs : List Int) (m n : Nat) (w0 : World) (e : Ending) (w' : World) : Prop :=
  ∃ v : ByteArray, e = .returned (.string v) ∧ v.size ≤ n ∧ Sr w' g A c cs m ∧ Fs g w0 w'
theorem textLitD_any (xs : List ByteArray) (n : Nat) (cv : Array Value) (hn : n = xs.length) (hcs : cv.toList = xs.flatMap LS.f) (h0 : 0 < n) (h1 : n ≤ 1000) (g : Nat) (A : Option Addr) (c : Nat) (cs : List Int) (m : Nat) (w : World)
    (h : Sr w g A c cs m) (hm : m ≤ 4611686018427387000) :
    Calls Tryz.prog 66 #[.pointer (some ⟨g, 0, none⟩), .slice (some ⟨w.heap.size, 0, none⟩) n n] (w.alloc (.cells cv 9)).drew (DrewT g A c cs (m + 2) xs w) := by
  subst hn
  have hg := h.g1
  have hb : Below w.heap.size w (w.alloc (.cells cv 9)) := (Below.refl _ _).alloc (Nat.le_refl _) _
  refine (text_any (some ⟨w.heap.size, 0, none⟩) xs.length xs w.heap.size g A c cs m _ (Own.lit w (Nat.le_refl _) rfl xs cv _ rfl (by unfold maxLen; omega) hcs).drew (by intro e; injection e with e; dsimp only at e; omega) h0 h1 (h.below hb).dr hm).mono ?_
  rintro e w' ⟨v, rfl, hv, hS, hF⟩
  exact ⟨v, rfl, hv, hS, (Fs.of_below hb).drew.trans hF⟩
theorem ext_le (t : ByteArray) (a b : Nat) : (t.extract a b).size ≤ t.size := by
  rw [ByteArray.size_extract]
  omega
set_option maxRecDepth 100000 in
set_option maxHeartbeats 1600000 in
theorem l01Spoil_any (t : ByteArray) (g : Nat) (A : Option Addr) (c : Nat) (cs : List Int) (m : Nat) (w : World) (h : Sr w g A c cs m) (hm : m ≤ 1000000) (ht : t.size ≤ 100000) :
    Calls Tryz.prog 59 #[.pointer (some ⟨g, 0, none⟩), .string t] w (DrewSt g A c cs (m + 10) (t.size + 10) w) := by
  have hg := h.g1
  have hc := pick_any 5 g A c cs m w h (by omega) (by omega)
  clear h
  go_enter Tryz.func59, Tryz.ntmps59
  go_wp2_with fail
  refine hc.mono ?_
  rintro e w1 ⟨z, rfl, z0, z1, hS, hF⟩
  have HS1 := Lib.hid hS
  have HF1 := Lib.hid hF
  clear hc hS hF
  by_cases h0 : z = 0
  · subst h0
    have e1 : IntKind.i64.wrap ((t.size : Int) + 1) = (t.size : Int) + 1 := wrapS (by omega) (by omega)
    have hc2 := pick_any ((t.size : Int) + 1) g A c cs _ w1 HS1.out (by omega) (by omega)
    go_wp2_with fail
    refine hc2.mono ?_
    rintro e w2 ⟨x, rfl, x0, x1, hS, hF⟩
    obtain ⟨a, rfl⟩ : ∃ a : Nat, x = (a : Int) := ⟨x.toNat, by omega⟩
    have ha : a ≤ t.size := by omega
    have hai : (a : Int) ≤ t.size := by omega
    have HS2 := Lib.hid hS
    have HF2 := Lib.hid (HF1.out.trans hF)
    clear hc2 hS hF HS1 HF1 e1 x0 x1
    have hq1 := ext_le t 0 a
    have hq2 := ext_le t a t.size
    have hct := textLitD_any SpL 7 #[.string { data := #[32] }, .string { data := #[48] }, .string { data := #[45] }, .string { data := #[120] }, .string { data := #[49] }, .string { data := #[57] }, .string { data := #[46] }] rfl rfl (by omega) (by omega) g A c cs _ w2 HS2.out (by omega)
    go_wp2_with fail
    go_region_held3 (fun _ => True) (trivial)
      ((go_at_call 66; (with_reducible refine hct.mono ?_); rintro e w3 ⟨v, rfl, hv, hS3, hF3⟩; have hv10 := SpL_size hv; have a1 := (fun W : World => run_string_add_sum (P := Tryz.prog) W (t.extract 0 a) v (by omega)); have a2 := (fun W : World => run_string_add_sum (P := Tryz.prog) W (t.extract 0 a ++ v) (t.extract a t.size) (by rw [ByteArray.size_append]; omega))))
    go_wp2_with fail
    go_ret
    exact ⟨_, rfl, by rw [ByteArray.size_append, ByteArray.size_append, ByteArray.size_extract, ByteArray.size_extract]; omega, hS3.more (by omega), HF2.out.trans hF3⟩
  · by_cases h1 : z = 1
    · subst h1
      by_cases hz : t.size = 0
      · have hte : t.toList.isEmpty = true := by
          rw [Lib.toList_data]
          have : t.data.toList.length = 0 := by rw [size_data]; exact hz
          rw [List.length_eq_zero_iff.1 this]
          rfl
        clear h0
        go_wp2_with fail
        go_ret
        exact ⟨t, rfl, by omega, HS1.out.more (by omega), HF1.out⟩
      · have hte : t.toList.isEmpty = false := by
          rw [Lib.toList_data]
          have : t.data.toList.length ≠ 0 := by rw [size_data]; exact hz
          cases hh : t.data.toList with
          | nil => rw [hh] at this; exact absurd rfl this
          | cons _ _ => rfl
        have hc2 := pick_any (t.size : Int) g A c cs _ w1 HS1.out (by omega) (by omega)
        clear h0
        go_wp2_with fail
        refine hc2.mono ?_
        rintro e w2 ⟨x, rfl, x0, x1, hS, hF⟩
        obtain ⟨a, rfl⟩ : ∃ a : Nat, x = (a : Int) := ⟨x.toNat, by omega⟩
        have ha : a < t.size := by omega
        have ha1 : a + 1 ≤ t.size := by omega
        have hai : (a : Int) ≤ t.size := by omega
        have hai1 : (a : Int) + 1 ≤ t.size := by omega
        have HS2 := Lib.hid hS
        have HF2 := Lib.hid (HF1.out.trans hF)
        clear hc2 hS hF HS1 HF1 x0 x1
        have hq1 := ext_le t 0 a
        have hq2 := ext_le t (a + 1) t.size
        have e1 : IntKind.i64.wrap ((a : Int) + 1) = (a : Int) + 1 := wrapS (by omega) (by omega)
        have a1 := fun W : World => run_string_add_sum (P := Tryz.prog) W (t.extract 0 a) (t.extract (a + 1) t.size) (by omega)
        go_wp2_with fail
        go_quiet (fail)
        go_wp2_with fail
        go_ret
        exact ⟨_, rfl, by rw [ByteArray.size_append, ByteArray.size_extract, ByteArray.size_extract]; omega, (HS2.out.drewN _).more (by omega), HF2.out.drewN _⟩
    · have y0 : (z == 0) = false := by rw [beq_eq_false_iff_ne]; exact h0
      have y1 : (z == 1) = false := by rw [beq_eq_false_iff_ne]; exact h1
      go_wp2_with fail
      go_ret
      exact ⟨t, rfl, by omega, HS1.out.more (by omega), HF1.out⟩
theorem td_valid {xs : List TestedD} (hl : xs.length ≤ 7) (h : ∀ x ∈ xs, TsD x) : vtB xs = true := by
  unfold vtB
  rw [Bool.and_eq_true]
  refine ⟨decide_eq_true (by omega), ?_⟩
  rw [Bool.not_eq_true', List.any_eq_false]
  intro x hx
  obtain ⟨h1, h2, h3, h4⟩ := h x hx
  have : tsOk x = true := by
    unfold tsOk
    rw [inB_mk ⟨by omega, by omega⟩, inB_mk ⟨by omega, by omega⟩]
    rfl
  simp [this]
theorem tt_size {xs : List TestedD} (hv : vtB xs = true) : (bs (ttL xs)).size ≤ 1000 := by
  obtain ⟨hn20, hpt⟩ := vt_parts hv
  rw [bs_size]
  have h1 := jn_len [32] (xs.map ttE) 43 (fun l hl => by
    obtain ⟨x, hx, rfl⟩ := List.mem_map.1 hl
    exact ttE_len (hpt x hx))
  rw [List.length_map] at h1
  have h2 : xs.length * (43 + [(32 : UInt8)].length) ≤ 20 * 44 := Nat.mul_le_mul hn20 (Nat.le_refl _)
  unfold ttL
  omega
set_option maxRecDepth 100000 in
set_option maxHeartbeats 1600000 in
theorem drawReadTested_any (A : Option Addr) (c : Nat) (cs : List Int) (w : World) (hr : Rd LU w w.heap.size A c cs) (hb : ∀ x ∈ cs, 0 ≤ x ∧ x ≤ 255) :
    Calls Tryz.prog 23 #[.slice A cs.length c] w fun e w' => ∃ v : ByteArray, e = .returned (.string v) ∧ v.size ≤ 2000 ∧ Below w.heap.size w w' := by
  obtain ⟨g, hg⟩ : ∃ g, g = w.heap.size := ⟨_, rfl⟩
  have hc := from_at g A c cs w hg hr (Nat.le_refl _) hb
  have HG := Lib.hid hg
  clear hr hg
  go_enter Tryz.func23, Tryz.ntmps23
  go_wp2_with fail
  refine hc.mono ?_
  rintro e w1 ⟨rfl, hS, hB⟩
  have HB := Lib.hid hB
  have hc2 := l19Draw_any g A c cs 0 w1 hS (by omega)
  have hg1 := hS.g1
  clear hc hS hB
  go_wp2_with fail
  refine hc2.mono ?_
  rintro e w2 ⟨B, d, xs, rfl, hl, ho, htd, hS, hF⟩
  have hv := td_valid hl htd
  have hsz := tt_size hv
  have hct := l19Text_any B d xs w2 ho.rd hv
  have HF := Lib.hid hF
  have HS := Lib.hid hS
  have hs2 := hF.size
  clear hc2 hS ho hF htd hv
  generalize bs (ttL xs) = tx at *
  go_wp2_with fail
  refine hct.mono ?_
  rintro e w3 ⟨rfl, hb3⟩
  have HF3 := Lib.hid (HF.out.then_ hb3 hs2)
  have HS3 := Lib.hid (HS.out.below hb3)
  have hc4 := one_any 3 g A c cs _ w3 HS3.out (by omega) (by omega)
  clear hct hb3 HF HS
  go_wp2_with fail
  refine hc4.mono ?_
  rintro e w4 ⟨q, rfl, hS, hF⟩
  have HF4 := Lib.hid (HF3.out.trans hF)
  have hc5 := l01Spoil_any tx g A c cs _ w4 hS (by omega) (by omega)
  clear hc4 hF hS HF3 HS3
  cases q
  · go_wp2_with fail
    go_ret
    exact ⟨tx, rfl, by omega, fromB HG.out HB.out HF4.out⟩
  · go_wp2_with fail
    refine hc5.mono ?_
    rintro e w5 ⟨v, rfl, hv, _, hF⟩
    have HF5 := Lib.hid (HF4.out.trans hF)
    clear hc5 hF
    go_wp2_with fail
    go_ret
    exact ⟨v, rfl, by omega, fromB HG.out HB.out HF5.out⟩
set_option maxRecDepth 100000 in
set_option maxHeartbeats 1600000 in
theorem drawSameTested_any (A : Option Addr) (c : Nat) (cs : List Int) (w : World) (hr : Rd LU w w.heap.size A c cs) (hb : ∀ x ∈ cs, 0 ≤ x ∧ x ≤ 255) :
    Calls Tryz.prog 25 #[.slice A cs.length c] w fun e w' => ∃ (B : Option Addr) (d : Nat) (xs : List TestedD) (B2 : Option Addr) (d2 : Nat) (ys : List TestedD), e = .returned (.tuple #[.slice B xs.length d, .slice B2 ys.length d2]) ∧ Rd LTested w' w'.heap.size B d xs ∧ Rd LTested w' w'.heap.size B2 d2 ys ∧ Below w.heap.size w w' := by
  obtain ⟨g, hg⟩ : ∃ g, g = w.heap.size := ⟨_, rfl⟩
  have hc := from_at g A c cs w hg hr (Nat.le_refl _) hb
  have HG := Lib.hid hg
  clear hr hg
  go_enter Tryz.func25, Tryz.ntmps25
  go_wp2_with fail
  refine hc.mono ?_
  rintro e w1 ⟨rfl, hS, hB⟩
  have HB := Lib.hid hB
  have hc2 := l19Draw_any g A c cs 0 w1 hS (by omega)
  have HG0 := Lib.hid hS.g1
  clear hc hS hB
  go_wp2_with fail
  refine hc2.mono ?_
  rintro e w2 ⟨B, d, xs, rfl, hl, ho, htd, hS, hF⟩
  have hs2 := hF.size
  have hg2 := HG0.out
  have hgB : blk B ≠ some g := fun e => by have := (ho.blk_lt g e).1; omega
  have HX := Lib.hid ho
  have HTD := Lib.hid htd
  have HF2 := Lib.hid hF
  have HS2 := Lib.hid hS
  have hfl := Lib.hid ((ho.rd.al (.cells #[] 54)).flat)
  have hna : B = none → xs.length = 0 ∧ d = 0 := by
    intro e
    rcases ho.parts with ⟨_, e2, e3⟩ | ⟨_, _, e2, _⟩
    · exact ⟨by rw [e2]; rfl, e3⟩
    · rw [e2] at e; cases e
  have HNA := Lib.hid hna
  have HBL := Lib.hid ho.blk_lt
  clear hc2 ho hS hF htd hna
  have HYL : Hid (xs.length = xs.length) := Lib.hid rfl
  by_cases h0 : xs.length = 0
  · have hz1 : (xs.length : Int) ≤ 0 := by omega
    have hz2 : decide (0 < xs.length) = false := decide_eq_false (by omega)
    have hz3 : decide ((0 : Int) < (xs.length : Int)) = false := decide_eq_false (by omega)
    have hz4 : ¬ 0 < xs.length := by omega
    clear h0
    go_wp2_with (at_builtin; go_loud (refine wpL_app (L := LTested) rowTs rfl rfl _ _ rfl rfl (Own.lit0 (base := w2.heap.size) w2 (Nat.le_refl _) rfl) B xs.length d xs rfl rfl (fun h => HNA.out h) (fun ad' e => hfl.out ad' e) (by unfold maxLen; simp; omega) (by simp; omega) (by simp) ?_); intro B4 c4 w4 ho4 hg4)
    have hbw : Below w2.heap.size w2 w4 := Grew.below ((Below.refl _ w2).alloc (Nat.le_refl _) _) hg4 (by simp) (fun b e => by simp [blk] at e; omega)
    rw [List.nil_append] at ho4
    have HY := Lib.hid ho4
    have HX4 := Lib.hid (HX.out.below hbw)
    have HF4 := Lib.hid (HF2.out.then_ hbw hs2)
    have HS4 := Lib.hid (HS2.out.belowB hbw (by omega))
    have hgY : blk B4 ≠ some g := fun e => by have := (ho4.blk_lt g e).1; omega
    have HAP : Hid (∀ g, blk B = some g → blk B4 ≠ some g) := Lib.hid fun b e e2 => by have := (HBL.out b e).2; have := (ho4.blk_lt b e2).1; omega
    clear ho4 hg4 hbw hfl HNA HX HF2 HS2 HBL
    have HXt := HX4
    have HYt := HY
    have HFt := HF4
    have HSt := HS4
    clear HX4 HY HF4 HS4 hz2 hz3 hz4
    have hc9 := one_any 5 g A c cs _ _ HSt.out (by omega) (by omega)
    skip
    refine hc9.mono ?_
    rintro e w9 ⟨q2, rfl, hS, hF⟩
    have HX9 := Lib.hid (hF.own HXt.out hgB)
    have HY9 := Lib.hid ((hF.own HYt.out hgY).lower hs2)
    have HF9 := Lib.hid (HFt.out.trans hF)
    have hs9 := HF9.out.size
    clear hc9 hS hF HXt HYt HFt HSt
    cases q2
    · go_wp2_with fail
      go_ret2
      exact ⟨B, d, xs, B4, c4, xs, by first | rfl | (rw [HYL.out]; rfl), HX9.out.rd, HY9.out.rd, fromB HG.out HB.out HF9.out⟩
    · have hyl := HY9.out.len63
      have hyb : xs.length ≤ 7 := by first | omega | (simp; omega)
      go_wp2_with (at_builtin; go_loud (refine wpL_app1 (L := LTested) rowTs rfl rfl _ _ rfl (by first | rfl | (rw [HYL.out]; rfl)) HY9.out ((0 : Int), (0 : Int)) _ rfl rfl (by simp) (by unfold maxLen; omega) (by omega) (by have h6 := HG.out; omega) ?_); intro A6 c6 w10 ho6 hg6)
      go_ret2
      exact ⟨B, d, xs, A6, c6, _ ++ [((0 : Int), (0 : Int))], by simp, (hg6.own HX9.out HAP.out).1.rd, ho6.rd, Grew.below (fromB HG.out HB.out HF9.out) hg6 (by have h6 := HG.out; omega) (fun b e => by have := (HY9.out.blk_lt b e).1; have h5 := HG.out; omega)⟩
  · have hz1 : (0 : Int) < xs.length := by omega
    have hz2 : 0 < xs.length := by omega
    go_wp2_with (at_builtin; go_loud (refine wpL_app (L := LTested) rowTs rfl rfl _ _ rfl rfl (Own.lit0 (base := w2.heap.size) w2 (Nat.le_refl _) rfl) B xs.length d xs rfl rfl (fun h => HNA.out h) (fun ad' e => hfl.out ad' e) (by unfold maxLen; simp; omega) (by simp; omega) (by simp) ?_); intro B4 c4 w4 ho4 hg4)
    have hbw : Below w2.heap.size w2 w4 := Grew.below ((Below.refl _ w2).alloc (Nat.le_refl _) _) hg4 (by simp) (fun b e => by simp [blk] at e; omega)
    rw [List.nil_append] at ho4
    have HY := Lib.hid ho4
    have HX4 := Lib.hid (HX.out.below hbw)
    have HF4 := Lib.hid (HF2.out.then_ hbw hs2)
    have HS4 := Lib.hid (HS2.out.belowB hbw (by omega))
    have hgY : blk B4 ≠ some g := fun e => by have := (ho4.blk_lt g e).1; omega
    have HAP : Hid (∀ g, blk B = some g → blk B4 ≠ some g) := Lib.hid fun b e e2 => by have := (HBL.out b e).2; have := (ho4.blk_lt b e2).1; omega
    clear ho4 hg4 hbw hfl HNA HX HF2 HS2 HBL
    have hc6 := one_any 2 g A c cs _ w4 HS4.out (by omega) (by omega)
    refine hc6.mono ?_
    rintro e w5 ⟨q, rfl, hS, hF⟩
    have HX5 := Lib.hid (hF.own HX4.out hgB)
    have HY5 := Lib.hid (hF.own HY.out hgY)
    have HF5 := Lib.hid (HF4.out.trans hF)
    have HS5 := Lib.hid hS
    clear hc6 hS hF HX4 HY HF4 HS4
    cases q
    · have HXt := HX5
      have HYt := HY5
      have HFt := HF5
      have HSt := HS5
      clear HX5 HY5 HF5 HS5
      have hc9 := one_any 5 g A c cs _ _ HSt.out (by omega) (by omega)
      go_wp2_with fail
      refine hc9.mono ?_
      rintro e w9 ⟨q2, rfl, hS, hF⟩
      have HX9 := Lib.hid (hF.own HXt.out hgB)
      have HY9 := Lib.hid ((hF.own HYt.out hgY).lower hs2)
      have HF9 := Lib.hid (HFt.out.trans hF)
      have hs9 := HF9.out.size
      clear hc9 hS hF HXt HYt HFt HSt
      cases q2
      · go_wp2_with fail
        go_ret2
        exact ⟨B, d, xs, B4, c4, xs, by first | rfl | (rw [HYL.out]; rfl), HX9.out.rd, HY9.out.rd, fromB HG.out HB.out HF9.out⟩
      · have hyl := HY9.out.len63
        have hyb : xs.length ≤ 7 := by first | omega | (simp; omega)
        go_wp2_with (at_builtin; go_loud (refine wpL_app1 (L := LTested) rowTs rfl rfl _ _ rfl (by first | rfl | (rw [HYL.out]; rfl)) HY9.out ((0 : Int), (0 : Int)) _ rfl rfl (by simp) (by unfold maxLen; omega) (by omega) (by have h6 := HG.out; omega) ?_); intro A6 c6 w10 ho6 hg6)
        go_ret2
        exact ⟨B, d, xs, A6, c6, _ ++ [((0 : Int), (0 : Int))], by simp, (hg6.own HX9.out HAP.out).1.rd, ho6.rd, Grew.below (fromB HG.out HB.out HF9.out) hg6 (by have h6 := HG.out; omega) (fun b e => by have := (HY9.out.blk_lt b e).1; have h5 := HG.out; omega)⟩
    · obtain ⟨bb, rfl, hb1, hb2⟩ := HY5.out.ptr hz2
      obtain ⟨gg, hgg, _, hltg, hcl, hfz⟩ := HY5.out.field (k := 0) hz2
      cases hgg
      have q1 : w5.cell? ⟨bb, 1, none⟩ = some (.int .i64 xs[0].2) := hcl 1 _ rfl
      obtain ⟨_, _, t3, t4⟩ := HTD.out _ (List.getElem_mem hz2)
      have hbg : bb ≠ g := by omega
      have hcp := pick_any 2 g A c cs _ w5.drew HS5.out.dr (by omega) (by omega)
      have HYd := Lib.hid HY5.out.drew
      have HXd := Lib.hid HX5.out.drew
      have HFd := Lib.hid HF5.out.drew
      generalize hwt : xs[0].2 = wt at *
      clear hcl
      go_upto_region 5 with fail
      go_region_law (first
        | (go_simp; go_at_call 33; refine hcp.mono ?_; rintro e w6 ⟨v, rfl, v0, v1, hS6, hF6⟩; have hs6 := hF6.size; (try simp at hs6); have HY6 := Lib.hid (hF6.own HYd.out hgY); have HX6 := Lib.hid (hF6.own HXd.out hgB); have HF6 := Lib.hid (HFd.out.trans hF6); have HS6 := Lib.hid hS6; have hc26 := (hF6.cell ⟨bb, 1, none⟩ (by simp; omega) hbg).trans (show _ = some (Value.int .i64 wt) from q1); have hf26 : w6.frozen? ⟨bb, 1, none⟩ = false := (hF6.frz ⟨bb, 1, none⟩ (by simp; omega) hbg).trans (hfz 1); have ew : IntKind.i64.wrap (wt + v) = wt + v := (wrapS (by omega) (by omega))))
      all_goals
        have hbz : Below w1.heap.size w6 (w6.setCell ⟨bb, 1, none⟩ (.int .i64 (wt + v))) := (Below.refl w1.heap.size w6).setCell (p := ⟨bb, 1, none⟩) (by dsimp only; omega) _
        have HXt := Lib.hid (HX6.out.setFar (p := ⟨bb, 1, none⟩) (fun e => HAP.out bb e rfl) (.int .i64 (wt + v)))
        have HYt : Hid (Own LTested 54 (w6.setCell ⟨bb, 1, none⟩ (.int .i64 (wt + v))) w2.heap.size (some ⟨bb, 0, none⟩) c4 (xs.set 0 (xs[0].1, wt + v))) := Lib.hid (setTested_1 HY6.out hz2 (wt + v))
        have HSt := Lib.hid (HS6.out.belowB hbz (by omega))
        have HFt := Lib.hid (HF6.out.then_ hbz (Nat.le_refl _))
        have hyl2 : (xs.set 0 (xs[0].1, wt + v)).length = xs.length := by simp
        obtain ⟨w7, hw7⟩ : ∃ W, W = w6.setCell ⟨bb, 1, none⟩ (.int .i64 (wt + v)) := ⟨_, rfl⟩
        rw [← hw7] at HXt HYt HSt HFt
        rw [← hw7]
        have HYL := Lib.hid hyl2
        clear hw7 hbz hc26 hf26 HY6 HX6 HF6 HS6 HYd HXd HFd q1 hfz hF6 hS6
        generalize xs.set 0 (xs[0].1, wt + v) = zs at *
        have hyl3 : zs.length ≤ 7 := by omega
        clear hyl2
        obtain ⟨B4, hB4⟩ : ∃ B4, B4 = some (⟨bb, 0, none⟩ : Addr) := ⟨_, rfl⟩
        rw [← hB4] at HYt HAP hgY
        rw [← hB4]
        clear hB4
        have hc9 := one_any 5 g A c cs _ _ HSt.out (by omega) (by omega)
        go_wp2_with fail
        refine hc9.mono ?_
        rintro e w9 ⟨q2, rfl, hS, hF⟩
        have HX9 := Lib.hid (hF.own HXt.out hgB)
        have HY9 := Lib.hid ((hF.own HYt.out hgY).lower hs2)
        have HF9 := Lib.hid (HFt.out.trans hF)
        have hs9 := HF9.out.size
        clear hc9 hS hF HXt HYt HFt HSt
        cases q2
        · go_wp2_with fail
          go_ret2
          exact ⟨B, d, xs, B4, c4, zs, by first | rfl | (rw [HYL.out]; rfl), HX9.out.rd, HY9.out.rd, fromB HG.out HB.out HF9.out⟩
        · have hyl := HY9.out.len63
          have hyb : zs.length ≤ 7 := by first | omega | (simp; omega)
          go_wp2_with (at_builtin; go_loud (refine wpL_app1 (L := LTested) rowTs rfl rfl _ _ rfl (by first | rfl | (rw [HYL.out]; rfl)) HY9.out ((0 : Int), (0 : Int)) _ rfl rfl (by simp) (by unfold maxLen; omega) (by omega) (by have h6 := HG.out; omega) ?_); intro A6 c6 w10 ho6 hg6)
          go_ret2
          exact ⟨B, d, xs, A6, c6, _ ++ [((0 : Int), (0 : Int))], by simp, (hg6.own HX9.out HAP.out).1.rd, ho6.rd, Grew.below (fromB HG.out HB.out HF9.out) hg6 (by have h6 := HG.out; omega) (fun b e => by have := (HY9.out.blk_lt b e).1; have h5 := HG.out; omega)⟩
end Go.Proofs.YtehmghlhljocbaaGreatDoor
