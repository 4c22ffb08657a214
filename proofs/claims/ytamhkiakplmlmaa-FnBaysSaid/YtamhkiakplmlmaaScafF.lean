/-
  Scaffolds: TiesOf.
-/
import Derived.Test.YtamhkiakplmlmaaScafA
import Derived.Test.YtamhkiakplmlmaaSteps
import Derived.Test.YtamhkiakplmlmaaNumSS
namespace Go.Proofs.Ytamhkiakplmlmaa
open Go.ChangeShapes Go.WideShapes Go.RowKit

/-- the ties of the first k tiers' poles: (tier, pole) with an even sum, of so many poles -/
def tyR (tier : Nat) (k : Nat) : List (List Int) := ((List.range k).filter fun p => (tier + p) % 2 == 0).map fun (p : Nat) => [(tier : Int), (p : Int)]
def tyL (np : Nat) (t : Nat) : List (List Int) := (List.range t).flatMap fun q => tyR q np
theorem tyR_succ (tier k : Nat) : tyR tier (k + 1) = tyR tier k ++ if (tier + k) % 2 = 0 then [[(tier : Int), (k : Int)]] else [] := by
  unfold tyR
  rw [List.range_succ, List.filter_append, List.map_append]
  by_cases h : (tier + k) % 2 = 0 <;> simp [h]
theorem tyL_succ (np t : Nat) : tyL np (t + 1) = tyL np t ++ tyR t np := by simp [tyL, List.range_succ]
theorem tyR_len (tier k : Nat) : (tyR tier k).length ≤ k := by
  unfold tyR
  rw [List.length_map]
  have := List.length_filter_le (fun p => (tier + p) % 2 == 0) (List.range k)
  simpa using this
theorem tyL_len (np t : Nat) : (tyL np t).length ≤ t * np := by
  induction t with
  | zero => simp [tyL]
  | succ t ih =>
    rw [tyL_succ, List.length_append, Nat.add_mul]
    have := tyR_len t np
    omega
def tyP (b t : List Int) (n : Int) : List (List Int) × Int := if vsB b t n = true then (tyL (b.length + 1) t.length, 0) else ([], 1)
theorem tyP_tl (b t : List Int) (n : Int) : tlL (tyP b t n).1 ≤ 1048576 := by
  unfold tyP
  split
  · rename_i h
    obtain ⟨⟨_, h1⟩, _, ⟨_, h2⟩, _⟩ := vsB_parts h
    have h3 : ∀ r ∈ tyL (b.length + 1) t.length, r.length ≤ 2 := by
      intro r hr
      obtain ⟨q, _, hq⟩ := List.mem_flatMap.1 hr
      obtain ⟨p, _, rfl⟩ := List.mem_map.1 hq
      simp
    have h4 : ∀ l : List (List Int), (∀ r ∈ l, r.length ≤ 2) → tlL l ≤ 2 * l.length := by
      intro l
      induction l with
      | nil => intro _; simp [tlL]
      | cons a l ih =>
        intro h
        have h1 := h a (List.mem_cons_self ..)
        have h2 := ih fun r hr => h r (List.mem_cons_of_mem _ hr)
        simp only [tlL, List.length_cons]
        omega
    have h5 := h4 _ h3
    have h6 := tyL_len (b.length + 1) t.length
    have h7 : t.length * (b.length + 1) ≤ 12 * 21 := Nat.mul_le_mul h2 (by omega)
    simp only
    omega
  · decide

/-- one more tie: its row in a new block, then the row's header appended -/
theorem tie_snoc {wr w4 : World} {base c1 c4 : Nat} {A1 A4 : Option Addr} {rs : List (Row Int)} {L1 : List (Option Addr × Nat × Nat)} (hO : OwnR LI 24 2 wr base A1 c1 rs) (hL : L1 = rs.map hd) (hB : base ≤ wr.heap.size) (a b : Int)
    (ho4 : Own LV 24 w4 base A4 c4 (L1 ++ [(some ⟨wr.heap.size, 0, none⟩, 2, 2)])) (hg : Grew (wr.alloc (.cells #[.int .i64 a, .int .i64 b] 2)) w4 A1 A4) :
    OwnR LI 24 2 w4 base A4 c4 (rs ++ [(some ⟨wr.heap.size, 0, none⟩, 2, [a, b])]) := by
  subst hL
  have hO2 := hO.below ((Below.refl wr.heap.size wr).alloc (Nat.le_refl _) (.cells #[.int .i64 a, .int .i64 b] 2))
  have hr2 : Own LI 2 (wr.alloc (.cells #[.int .i64 a, .int .i64 b] 2)) base (some ⟨wr.heap.size, 0, none⟩) 2 [a, b] := Own.lit wr hB rfl [a, b] _ 2 rfl (by decide) rfl
  exact OwnR.snoc (r := (some ⟨wr.heap.size, 0, none⟩, 2, [a, b])) hO2 (by decide) hr2 (fun s hs g h1 h2 => by
    have := hO.blk_lt.2 s hs g h1
    simp [blk] at h2
    omega) ho4 hg

set_option maxHeartbeats 3200000 in
theorem implTiesOf_any (A0b : Option Addr) (c0b : Nat) (x0b : List Int) (A0t : Option Addr) (c0t : Nat) (x0t : List Int) (n0 : Int) (w : World) (hb : Rd LI w w.heap.size A0b c0b x0b) (ht : Rd LI w w.heap.size A0t c0t x0t) :
    Calls Try.prog 11 #[.agg #[.slice A0b x0b.length c0b, .slice A0t x0t.length c0t, .int .i64 n0]] w fun e w' => ∃ A1 c1 rs, e = .returned (.tuple #[.slice A1 rs.length c1, .int .i64 (tyP x0b x0t n0).2]) ∧ OwnR LI 24 2 w' w.heap.size A1 c1 rs ∧ dat rs = (tyP x0b x0t n0).1 ∧ Below w.heap.size w w' := by
  cases hv : vsB x0b x0t n0
  · have HP : Hid (tyP x0b x0t n0 = ([], 1)) := Lib.hid (by unfold tyP; rw [hv]; rfl)
    simp only [HP.out]
    have hc := implValidScaffold_any A0b c0b x0b A0t c0t x0t n0 (w.alloc (.cells #[.slice A0b x0b.length c0b, .slice A0t x0t.length c0t, .int .i64 n0] 30)) (hb.al _) (ht.al _)
    rw [hv] at hc
    have hl1 := hb.len63
    have hl2 := ht.len63
    go_enter Try.func11, Try.ntmps11
    go_wp2_with fail
    refine hc.mono ?_
    rintro e w1 ⟨rfl, hb1⟩
    have hbw : Below w.heap.size w w1 := ((Below.refl _ w).alloc (Nat.le_refl _) _).trans (hb1.mono (by simp))
    have hs1 := hb1.size
    simp at hs1
    have kl : w.heap.size < w1.heap.size := by omega
    have q0 : w1.cell? ⟨w.heap.size, 0, none⟩ = some (.slice A0b x0b.length c0b) := by rw [hb1.cell (by simp)]; go_simp
    have q1 : w1.cell? ⟨w.heap.size, 1, none⟩ = some (.slice A0t x0t.length c0t) := by rw [hb1.cell (by simp)]; go_simp
    have q2 : w1.cell? ⟨w.heap.size, 2, none⟩ = some (.int .i64 n0) := by rw [hb1.cell (by simp)]; go_simp
    have hbr := (hb.below hbw).more hbw.size
    have htr := (ht.below hbw).more hbw.size
    clear hc
    go_wp2_with fail
    go_ret2
    exact ⟨none, 0, [], rfl, OwnR.none_, rfl, hbw⟩
  · have HP : Hid (tyP x0b x0t n0 = (tyL (x0b.length + 1) x0t.length, 0)) := Lib.hid (by unfold tyP; rw [hv]; rfl)
    simp only [HP.out]
    obtain ⟨⟨_, hm1⟩, _, ⟨_, hm2⟩, _⟩ := vsB_parts hv
    have hc := implValidScaffold_any A0b c0b x0b A0t c0t x0t n0 (w.alloc (.cells #[.slice A0b x0b.length c0b, .slice A0t x0t.length c0t, .int .i64 n0] 30)) (hb.al _) (ht.al _)
    rw [hv] at hc
    have hl1 := hb.len63
    have hl2 := ht.len63
    go_enter Try.func11, Try.ntmps11
    go_wp2_with fail
    refine hc.mono ?_
    rintro e w1 ⟨rfl, hb1⟩
    have hbw : Below w.heap.size w w1 := ((Below.refl _ w).alloc (Nat.le_refl _) _).trans (hb1.mono (by simp))
    have hs1 := hb1.size
    simp at hs1
    have kl : w.heap.size < w1.heap.size := by omega
    have q0 : w1.cell? ⟨w.heap.size, 0, none⟩ = some (.slice A0b x0b.length c0b) := by rw [hb1.cell (by simp)]; go_simp
    have q1 : w1.cell? ⟨w.heap.size, 1, none⟩ = some (.slice A0t x0t.length c0t) := by rw [hb1.cell (by simp)]; go_simp
    have q2 : w1.cell? ⟨w.heap.size, 2, none⟩ = some (.int .i64 n0) := by rw [hb1.cell (by simp)]; go_simp
    have hbr := (hb.below hbw).more hbw.size
    have htr := (ht.below hbw).more hbw.size
    clear hc
    go_wp2_with fail
    go_loopw [4, 5, 6, 14, 21] (fun o _ _ i _ wr => ∃ (k : Nat) (A1 : Option Addr) (c1 : Nat) (rs : List (Row Int)) (L1 : List (Option Addr × Nat × Nat)), k ≤ x0t.length ∧ i = .int .i64 k ∧ o = .slice A1 L1.length c1 ∧ Hid (L1 = rs.map hd) ∧ OwnR LI 24 2 wr w1.heap.size A1 c1 rs ∧ Hid (dat rs = tyL (x0b.length + 1) k) ∧ Below w1.heap.size w1 wr) (fun _ _ _ i _ _ => x0t.length - (intOf i).toNat)
    case atStart => exact ⟨0, _, _, [], [], by omega, rfl, rfl, Lib.hid rfl, ⟨Own.lit0 w1 (Nat.le_refl _) rfl, (fun r hr => by cases hr), List.Pairwise.nil⟩, Lib.hid rfl, (Below.refl _ _).alloc (Nat.le_refl _) _⟩
    case round =>
      obtain ⟨k, A1, c1, rs, L1, hk, rfl, rfl, HL1, hO, Hd, hbo⟩ := hrel
      have hso := hbo.size
      have g0 : wr.cell? ⟨w.heap.size, 0, none⟩ = some (.slice A0b x0b.length c0b) := (hbo.cell (by simp <;> omega)).trans q0
      by_cases hlt : k < x0t.length
      · go_wp2_with fail
        go_loopw [4, 6, 21] (fun o _ i wr => ∃ (j : Nat) (A1 : Option Addr) (c1 : Nat) (rs : List (Row Int)) (L1 : List (Option Addr × Nat × Nat)), j ≤ x0b.length + 1 ∧ i = .int .i64 j ∧ o = .slice A1 L1.length c1 ∧ Hid (L1 = rs.map hd) ∧ OwnR LI 24 2 wr w1.heap.size A1 c1 rs ∧ Hid (dat rs = tyL (x0b.length + 1) k ++ tyR k j) ∧ Below w1.heap.size w1 wr) (fun _ _ i _ => x0b.length + 1 - (intOf i).toNat)
        case atStart => exact ⟨0, A1, c1, rs, L1, by omega, rfl, rfl, HL1, hO, Lib.hid (by rw [Hd.out]; simp [tyR]), hbo⟩
        case round =>
          obtain ⟨j, A1, c1, rs, L1, hj, rfl, rfl, HL1, hO, Hd, hbo⟩ := hrel
          have hso := hbo.size
          by_cases hjn : j < x0b.length + 1
          · have hj0 : (j : Int) < (x0b.length : Int) + 1 := by omega
            have HS := Lib.hid (tyR_succ k j)
            have hLk : L1.length ≤ 1000 := by
              rw [HL1.out, List.length_map, ← dat_len, Hd.out, List.length_append]
              have h1 := tyL_len (x0b.length + 1) k
              have h2 := tyR_len k j
              have h3 : k * (x0b.length + 1) ≤ 12 * 21 := Nat.mul_le_mul (by omega) (by omega)
              omega
            by_cases hp : (k + j) % 2 = 0
            · have HE : Hid (tyR k (j + 1) = tyR k j ++ [[(k : Int), (j : Int)]]) := Lib.hid (by rw [HS.out, if_pos hp])
              have hp' : (((k : Int) + (j : Int)) % 2 == 0) = true := by simp; omega
              have ho1 : Own LV 24 (wr.alloc (.cells #[.int .i64 k, .int .i64 j] 2)) w1.heap.size A1 c1 L1 := by rw [HL1.out]; exact hO.out.alloc _
              clear hp
              go_wp2_with (at_builtin; go_loud (refine wpL_app1 (L := LV) rowV rfl rfl _ _ rfl rfl ho1 (some ⟨wr.heap.size, 0, none⟩, 2, 2) _ rfl rfl (by simp) (by unfold maxLen; omega) (by omega) (by simp; omega) ?_); intro A4 c4 w4 ho4 hg4)
              go_roundw
              case rel =>
                have HlO := hO.blk_lt
                exact ⟨j + 1, A4, c4, _, L1 ++ [(some ⟨wr.heap.size, 0, none⟩, 2, 2)], by omega, by go_num, by simp, Lib.hid (by rw [HL1.out, List.map_append]; rfl), tie_snoc hO HL1.out hso k j ho4 hg4, Lib.hid (by rw [dat_append, Hd.out, HE.out, List.append_assoc]; rfl), Grew.below (hbo.alloc hso _) hg4 (by simp; omega) fun g' hg' => (HlO.1 g' hg').1⟩
              case measure => simp [intOf]; omega
            · have HE : Hid (tyR k (j + 1) = tyR k j) := Lib.hid (by rw [HS.out, if_neg hp]; simp)
              have hp' : (((k : Int) + (j : Int)) % 2 == 0) = false := by simp; omega
              clear hp
              go_wp2_with fail
              go_roundw
              case rel => exact ⟨j + 1, A1, c1, rs, L1, by omega, by go_num, rfl, HL1, hO, Lib.hid (by rw [HE.out]; exact Hd.out), hbo⟩
              case measure => simp [intOf]; omega
          · have hjj : j = x0b.length + 1 := by omega
            subst hjj
            go_wp2_with fail
            go_roundw
            case rel => exact ⟨k + 1, A1, c1, rs, L1, by omega, by go_num, rfl, HL1, hO, Lib.hid (by rw [Hd.out, tyL_succ]), hbo⟩
            case measure => simp [intOf]; omega
      · have hkk : k = x0t.length := by omega
        subst hkk
        have HLn : Hid (L1.length = rs.length) := Lib.hid (by rw [HL1.out, List.length_map])
        go_wp2_with fail
        go_ret2
        exact ⟨A1, c1, rs, by rw [← HLn.out]; rfl, ⟨hO.out.lower hbw.size, fun r hr => (hO.inn r hr).lower hbw.size, hO.ap⟩, Hd.out, hbw.trans (hbo.mono hbw.size)⟩
set_option maxHeartbeats 3200000 in
theorem specTiesOf_any (A0b : Option Addr) (c0b : Nat) (x0b : List Int) (A0t : Option Addr) (c0t : Nat) (x0t : List Int) (n0 : Int) (w : World) (hb : Rd LI w w.heap.size A0b c0b x0b) (ht : Rd LI w w.heap.size A0t c0t x0t) :
    Calls Try.prog 12 #[.agg #[.slice A0b x0b.length c0b, .slice A0t x0t.length c0t, .int .i64 n0]] w fun e w' => ∃ A1 c1 rs, e = .returned (.tuple #[.slice A1 rs.length c1, .int .i64 (tyP x0b x0t n0).2]) ∧ OwnR LI 24 2 w' w.heap.size A1 c1 rs ∧ dat rs = (tyP x0b x0t n0).1 ∧ Below w.heap.size w w' := by
  cases hv : vsB x0b x0t n0
  · have HP : Hid (tyP x0b x0t n0 = ([], 1)) := Lib.hid (by unfold tyP; rw [hv]; rfl)
    simp only [HP.out]
    have hc := l22Ok_any A0b c0b x0b A0t c0t x0t n0 w.heap.size (w.alloc (.cells #[.slice A0b x0b.length c0b, .slice A0t x0t.length c0t, .int .i64 n0] 30)) (hb.al _) (ht.al _) (by go_simp) (by go_simp) (by go_simp)
    rw [hv] at hc
    have hl1 := hb.len63
    have hl2 := ht.len63
    have hbw : Below w.heap.size w (w.alloc (.cells #[.slice A0b x0b.length c0b, .slice A0t x0t.length c0t, .int .i64 n0] 30)) := (Below.refl _ w).alloc (Nat.le_refl _) _
    have hbr : Rd LI (w.alloc (.cells #[.slice A0b x0b.length c0b, .slice A0t x0t.length c0t, .int .i64 n0] 30)) (w.alloc (.cells #[.slice A0b x0b.length c0b, .slice A0t x0t.length c0t, .int .i64 n0] 30)).heap.size A0b c0b x0b := hb.al _
    have htr : Rd LI (w.alloc (.cells #[.slice A0b x0b.length c0b, .slice A0t x0t.length c0t, .int .i64 n0] 30)) (w.alloc (.cells #[.slice A0b x0b.length c0b, .slice A0t x0t.length c0t, .int .i64 n0] 30)).heap.size A0t c0t x0t := ht.al _
    go_enter Try.func12, Try.ntmps12
    go_wp2_with fail
    refine hc.mono ?_
    rintro e w1 ⟨rfl, rfl⟩
    clear hc
    go_wp2_with fail
    go_ret2
    exact ⟨none, 0, [], rfl, OwnR.none_, rfl, hbw⟩
  · have HP : Hid (tyP x0b x0t n0 = (tyL (x0b.length + 1) x0t.length, 0)) := Lib.hid (by unfold tyP; rw [hv]; rfl)
    simp only [HP.out]
    obtain ⟨⟨_, hm1⟩, _, ⟨_, hm2⟩, _⟩ := vsB_parts hv
    have hc := l22Ok_any A0b c0b x0b A0t c0t x0t n0 w.heap.size (w.alloc (.cells #[.slice A0b x0b.length c0b, .slice A0t x0t.length c0t, .int .i64 n0] 30)) (hb.al _) (ht.al _) (by go_simp) (by go_simp) (by go_simp)
    rw [hv] at hc
    have hl1 := hb.len63
    have hl2 := ht.len63
    have hbw : Below w.heap.size w (w.alloc (.cells #[.slice A0b x0b.length c0b, .slice A0t x0t.length c0t, .int .i64 n0] 30)) := (Below.refl _ w).alloc (Nat.le_refl _) _
    have hbr : Rd LI (w.alloc (.cells #[.slice A0b x0b.length c0b, .slice A0t x0t.length c0t, .int .i64 n0] 30)) (w.alloc (.cells #[.slice A0b x0b.length c0b, .slice A0t x0t.length c0t, .int .i64 n0] 30)).heap.size A0b c0b x0b := hb.al _
    have htr : Rd LI (w.alloc (.cells #[.slice A0b x0b.length c0b, .slice A0t x0t.length c0t, .int .i64 n0] 30)) (w.alloc (.cells #[.slice A0b x0b.length c0b, .slice A0t x0t.length c0t, .int .i64 n0] 30)).heap.size A0t c0t x0t := ht.al _
    go_enter Try.func12, Try.ntmps12
    go_wp2_with fail
    refine hc.mono ?_
    rintro e w1 ⟨rfl, rfl⟩
    clear hc
    go_wp2_with fail
    have q0 : (w.alloc (.cells #[.slice A0b x0b.length c0b, .slice A0t x0t.length c0t, .int .i64 n0] 30)).cell? ⟨w.heap.size, 0, none⟩ = some (.slice A0b x0b.length c0b) := by go_simp
    have q1 : (w.alloc (.cells #[.slice A0b x0b.length c0b, .slice A0t x0t.length c0t, .int .i64 n0] 30)).cell? ⟨w.heap.size, 1, none⟩ = some (.slice A0t x0t.length c0t) := by go_simp
    have kl : w.heap.size < (w.alloc (.cells #[.slice A0b x0b.length c0b, .slice A0t x0t.length c0t, .int .i64 n0] 30)).heap.size := by simp
    have HZ : Hid ((w.alloc (.cells #[.slice A0b x0b.length c0b, .slice A0t x0t.length c0t, .int .i64 n0] 30)).heap.size = w.heap.size + 1) := Lib.hid (by simp)
    generalize w.alloc (.cells #[.slice A0b x0b.length c0b, .slice A0t x0t.length c0t, .int .i64 n0] 30) = w1 at *
    go_loopw [4, 5, 6] (fun o i _ wr => ∃ (k : Nat) (A1 : Option Addr) (c1 : Nat) (rs : List (Row Int)) (L1 : List (Option Addr × Nat × Nat)), k ≤ x0t.length ∧ i = .int .i64 k ∧ o = .slice A1 L1.length c1 ∧ Hid (L1 = rs.map hd) ∧ OwnR LI 24 2 wr w1.heap.size A1 c1 rs ∧ Hid (dat rs = tyL (x0b.length + 1) k) ∧ Below w1.heap.size w1 wr) (fun _ i _ _ => x0t.length - (intOf i).toNat)
    case atStart => exact ⟨0, _, _, [], [], by omega, rfl, rfl, Lib.hid rfl, ⟨Own.lit0 w1 (Nat.le_refl _) HZ.out.symm, (fun r hr => by cases hr), List.Pairwise.nil⟩, Lib.hid rfl, (Below.refl _ _).alloc (Nat.le_refl _) _⟩
    case round =>
      obtain ⟨k, A1, c1, rs, L1, hk, rfl, rfl, HL1, hO, Hd, hbo⟩ := hrel
      have hso := hbo.size
      have g1 : wr.cell? ⟨w.heap.size, 1, none⟩ = some (.slice A0t x0t.length c0t) := (hbo.cell (by simp <;> omega)).trans q1
      by_cases hlt : k < x0t.length
      · go_wp2_with fail
        go_loopw [4, 6] (fun o i wr => ∃ (j : Nat) (A1 : Option Addr) (c1 : Nat) (rs : List (Row Int)) (L1 : List (Option Addr × Nat × Nat)), j ≤ x0b.length + 1 ∧ i = .int .i64 j ∧ o = .slice A1 L1.length c1 ∧ Hid (L1 = rs.map hd) ∧ OwnR LI 24 2 wr w1.heap.size A1 c1 rs ∧ Hid (dat rs = tyL (x0b.length + 1) k ++ tyR k j) ∧ Below w1.heap.size w1 wr) (fun _ i _ => x0b.length + 1 - (intOf i).toNat)
        case atStart => exact ⟨0, A1, c1, rs, L1, by omega, rfl, rfl, HL1, hO, Lib.hid (by rw [Hd.out]; simp [tyR]), hbo⟩
        case round =>
          obtain ⟨j, A1, c1, rs, L1, hj, rfl, rfl, HL1, hO, Hd, hbo⟩ := hrel
          have hso := hbo.size
          have g0 : wr.cell? ⟨w.heap.size, 0, none⟩ = some (.slice A0b x0b.length c0b) := (hbo.cell (by simp <;> omega)).trans q0
          by_cases hjn : j < x0b.length + 1
          · have hj0 : (j : Int) < (x0b.length : Int) + 1 := by omega
            have HS := Lib.hid (tyR_succ k j)
            have hLk : L1.length ≤ 1000 := by
              rw [HL1.out, List.length_map, ← dat_len, Hd.out, List.length_append]
              have h1 := tyL_len (x0b.length + 1) k
              have h2 := tyR_len k j
              have h3 : k * (x0b.length + 1) ≤ 12 * 21 := Nat.mul_le_mul (by omega) (by omega)
              omega
            by_cases hp : (k + j) % 2 = 0
            · have HE : Hid (tyR k (j + 1) = tyR k j ++ [[(k : Int), (j : Int)]]) := Lib.hid (by rw [HS.out, if_pos hp])
              have hp' : (((k : Int) + (j : Int)) % 2 == 0) = true := by simp; omega
              have ho1 : Own LV 24 (wr.alloc (.cells #[.int .i64 k, .int .i64 j] 2)) w1.heap.size A1 c1 L1 := by rw [HL1.out]; exact hO.out.alloc _
              clear hp
              go_wp2_with (at_builtin; go_loud (refine wpL_app1 (L := LV) rowV rfl rfl _ _ rfl rfl ho1 (some ⟨wr.heap.size, 0, none⟩, 2, 2) _ rfl rfl (by simp) (by unfold maxLen; omega) (by omega) (by simp; omega) ?_); intro A4 c4 w4 ho4 hg4)
              go_roundw
              case rel =>
                have HlO := hO.blk_lt
                exact ⟨j + 1, A4, c4, _, L1 ++ [(some ⟨wr.heap.size, 0, none⟩, 2, 2)], by omega, by go_num, by simp, Lib.hid (by rw [HL1.out, List.map_append]; rfl), tie_snoc hO HL1.out hso k j ho4 hg4, Lib.hid (by rw [dat_append, Hd.out, HE.out, List.append_assoc]; rfl), Grew.below (hbo.alloc hso _) hg4 (by simp; omega) fun g' hg' => (HlO.1 g' hg').1⟩
              case measure => simp [intOf]; omega
            · have HE : Hid (tyR k (j + 1) = tyR k j) := Lib.hid (by rw [HS.out, if_neg hp]; simp)
              have hp' : (((k : Int) + (j : Int)) % 2 == 0) = false := by simp; omega
              clear hp
              go_wp2_with fail
              go_roundw
              case rel => exact ⟨j + 1, A1, c1, rs, L1, by omega, by go_num, rfl, HL1, hO, Lib.hid (by rw [HE.out]; exact Hd.out), hbo⟩
              case measure => simp [intOf]; omega
          · have hjj : j = x0b.length + 1 := by omega
            subst hjj
            go_wp2_with fail
            go_roundw
            case rel => exact ⟨k + 1, A1, c1, rs, L1, by omega, by go_num, rfl, HL1, hO, Lib.hid (by rw [Hd.out, tyL_succ]), hbo⟩
            case measure => simp [intOf]; omega
      · have hkk : k = x0t.length := by omega
        subst hkk
        have HLn : Hid (L1.length = rs.length) := Lib.hid (by rw [HL1.out, List.length_map])
        go_wp2_with fail
        go_ret2
        exact ⟨A1, c1, rs, by rw [← HLn.out]; rfl, ⟨hO.out.lower hbw.size, fun r hr => (hO.inn r hr).lower hbw.size, hO.ap⟩, Hd.out, hbw.trans (hbo.mono hbw.size)⟩
end Go.Proofs.Ytamhkiakplmlmaa
