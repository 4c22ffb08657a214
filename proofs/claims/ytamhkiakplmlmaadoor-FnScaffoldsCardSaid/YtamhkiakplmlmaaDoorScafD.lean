/-
  Scaffolds: OverloadOf.
-/
import Derived.Test.YtamhkiakplmlmaaDoorScafC
namespace Go.Proofs.YtamhkiakplmlmaaDoor
open Go.ChangeShapes Go.WideShapes Go.RowKit

/-- the first of k, k + 1, .. (so many) where f has something -/
def fs {α : Type} (f : Nat → Option α) : Nat → Nat → Option α
  | 0, _ => none
  | m + 1, k => match f k with
    | some a => some a
    | none => fs f m (k + 1)
theorem fs_hit {α : Type} {f : Nat → Option α} {n k : Nat} {a : α} (h : k < n) (hf : f k = some a) : fs f (n - k) k = some a := by
  rw [show n - k = (n - (k + 1)) + 1 by omega, fs, hf]
theorem fs_miss {α : Type} {f : Nat → Option α} {n k : Nat} (h : k < n) (hf : f k = none) : fs f (n - k) k = fs f (n - (k + 1)) (k + 1) := by
  rw [show n - k = (n - (k + 1)) + 1 by omega, fs, hf]
theorem fs_end {α : Type} {f : Nat → Option α} {n k : Nat} (h : n ≤ k) : fs f (n - k) k = none := by
  rw [show n - k = 0 by omega, fs]
def ovB (n : Int) (ss : List StandD) (tier bay : Nat) : Option StandD := if n < wt ss tier bay then some ((bay : Int), (tier : Int), wt ss tier bay - n) else none
def ovR (nb : Nat) (n : Int) (ss : List StandD) (tier : Nat) : Option StandD := fs (ovB n ss tier) nb 0
def ovA (b t : List Int) (n : Int) (ss : List StandD) : Option StandD := fs (ovR b.length n ss) t.length 0
def ovP (b t : List Int) (n : Int) (ss : List StandD) : StandD × Int := if scC b t n ss = 0 then (match ovA b t n ss with | some x => (x, 0) | none => ((0, 0, 0), 3)) else ((0, 0, 0), scC b t n ss)
theorem scT_zero {b t : List Int} {n : Int} {ss : List StandD} : scT b t n ss 0 = scC b t n ss := by
  unfold scT scC
  cases hv : vsB b t n
  · rfl
  · have := (vsB_parts hv).2.2.1
    have hi : inB 0 0 ((t.length : Int) - 1) = true := inB_mk (by omega)
    simp [hi]
theorem scC_zero {b t : List Int} {n : Int} {ss : List StandD} (h : scC b t n ss = 0) : vsB b t n = true ∧ scB b t ss = true := by
  unfold scC at h
  cases hv : vsB b t n <;> cases hs : scB b t ss <;> simp [hv, hs] at h ⊢
theorem ret_ai {x y : StandD} {m n : Int} (h : x = y) (h2 : m = n) : Ending.returned (.tuple #[.agg #[.int .i64 x.1, .int .i64 x.2.1, .int .i64 x.2.2], .int .i64 m]) = .returned (.tuple #[.agg #[.int .i64 y.1, .int .i64 y.2.1, .int .i64 y.2.2], .int .i64 n]) := by rw [h, h2]

set_option maxHeartbeats 3200000 in
theorem specOverloadOf_any (A0b : Option Addr) (c0b : Nat) (x0b : List Int) (A0t : Option Addr) (c0t : Nat) (x0t : List Int) (n0 : Int) (As : Option Addr) (cs : Nat) (ss : List StandD) (w : World) (hb : Rd LI w w.heap.size A0b c0b x0b) (ht : Rd LI w w.heap.size A0t c0t x0t) (hs : Rd LStand w w.heap.size As cs ss) :
    Calls Tryd.prog 9 #[.agg #[.slice A0b x0b.length c0b, .slice A0t x0t.length c0t, .int .i64 n0], .slice As ss.length cs] w fun e w' => e = .returned (.tuple #[.agg #[.int .i64 (ovP x0b x0t n0 ss).1.1, .int .i64 (ovP x0b x0t n0 ss).1.2.1, .int .i64 (ovP x0b x0t n0 ss).1.2.2], .int .i64 (ovP x0b x0t n0 ss).2]) ∧ Below w.heap.size w w' := by
  have hl1 := hb.len63
  have hl2 := ht.len63
  have hb0 : Below w.heap.size w ((w.alloc (.cells #[.slice A0b x0b.length c0b, .slice A0t x0t.length c0t, .int .i64 n0] 26)).alloc (.cells #[.int .i64 0, .int .i64 0, .int .i64 0] 33)) := ((Below.refl _ w).alloc (Nat.le_refl _) _).alloc (by simp) _
  have hz : ((w.alloc (.cells #[.slice A0b x0b.length c0b, .slice A0t x0t.length c0t, .int .i64 n0] 26)).alloc (.cells #[.int .i64 0, .int .i64 0, .int .i64 0] 33)).heap.size = w.heap.size + 2 := by simp
  have hcc := l22Stands_any A0b c0b x0b A0t c0t x0t n0 As cs ss w.heap.size ((w.alloc (.cells #[.slice A0b x0b.length c0b, .slice A0t x0t.length c0t, .int .i64 n0] 26)).alloc (.cells #[.int .i64 0, .int .i64 0, .int .i64 0] 33)) ((hb.al _).al _) ((ht.al _).al _) ((hs.al _).al _) (by go_simp) (by go_simp) (by go_simp)
  by_cases hc : scC x0b x0t n0 ss = 0
  · rw [hc] at hcc
    obtain ⟨hv, hsc⟩ := scC_zero hc
    obtain ⟨hn, hso⟩ := scB_parts hsc
    have hw : ∀ x ∈ ss, 0 ≤ x.2.2 ∧ x.2.2 ≤ 10000 := fun x hx => (stOk_parts (hso x hx)).2.2
    obtain ⟨_, _, _, _, hn0, hn1⟩ := vsB_parts hv
    have HP : Hid (ovP x0b x0t n0 ss = match ovA x0b x0t n0 ss with | some x => (x, 0) | none => ((0, 0, 0), 3)) := Lib.hid (by unfold ovP; rw [if_pos hc])
    have HW := Lib.hid hw
    clear hc hso hsc hv hw
    go_enter Tryd.func9, Tryd.ntmps9
    go_wp2_with fail
    refine hcc.mono ?_
    rintro e w1 ⟨rfl, hd⟩
    clear hcc
    have hb1 := hb0.trans hd.below
    have f0 : w1.cell? ⟨w.heap.size, 0, none⟩ = some (.slice A0b x0b.length c0b) := by obtain ⟨m, rfl⟩ := hd; go_simp
    have f1 : w1.cell? ⟨w.heap.size, 1, none⟩ = some (.slice A0t x0t.length c0t) := by obtain ⟨m, rfl⟩ := hd; go_simp
    have f2 : w1.cell? ⟨w.heap.size, 2, none⟩ = some (.int .i64 n0) := by obtain ⟨m, rfl⟩ := hd; go_simp
    have f3 : w1.frozen? ⟨w.heap.size + 1, 0, none⟩ = false := by obtain ⟨m, rfl⟩ := hd; go_simp
    have r0 : w1.cell? ⟨w.heap.size + 1, 0, none⟩ = some (.int .i64 0) := by obtain ⟨m, rfl⟩ := hd; go_simp
    have f4 : w1.frozen? ⟨w.heap.size + 1, 1, none⟩ = false := by obtain ⟨m, rfl⟩ := hd; go_simp
    have r1 : w1.cell? ⟨w.heap.size + 1, 1, none⟩ = some (.int .i64 0) := by obtain ⟨m, rfl⟩ := hd; go_simp
    have f5 : w1.frozen? ⟨w.heap.size + 1, 2, none⟩ = false := by obtain ⟨m, rfl⟩ := hd; go_simp
    have r2 : w1.cell? ⟨w.heap.size + 1, 2, none⟩ = some (.int .i64 0) := by obtain ⟨m, rfl⟩ := hd; go_simp
    have hs1 := hb1.size
    have hd1 : w.heap.size + 2 ≤ w1.heap.size := by obtain ⟨m, rfl⟩ := hd; simp
    have hsR := hs.below hb1
    clear hd hb0 hz
    go_wp2_with fail
    go_loop [7, 8] (fun a b => ∃ (k : Nat) (u : Value), k ≤ x0t.length ∧ a = .int .i64 k ∧ b = u ∧ Hid (ovA x0b x0t n0 ss = fs (ovR x0b.length n0 ss) (x0t.length - k) k)) (fun a _ => x0t.length - (intOf a).toNat)
    case atStart => exact ⟨0, _, by omega, rfl, rfl, Lib.hid rfl⟩
    case round =>
      obtain ⟨k, u, hk, rfl, rfl, Heq⟩ := hrel
      by_cases hlt : k < x0t.length
      · go_wp2_with fail
        go_loop [8] (fun b => ∃ i : Nat, i ≤ x0b.length ∧ b = .int .i64 i ∧ Hid (ovR x0b.length n0 ss k = fs (ovB n0 ss k) (x0b.length - i) i)) (fun b => x0b.length - (intOf b).toNat)
        case atStart => exact ⟨0, by omega, rfl, Lib.hid rfl⟩
        case round =>
          obtain ⟨i, hi, rfl, Hr⟩ := hrel
          by_cases hil : i < x0b.length
          · have hcw := l22Weight_any As cs ss (i : Int) (k : Int) _ w1 hsR HW.out hn
            obtain ⟨b0, b1⟩ := wt_bd HW.out hn (k : Int) (i : Int) ss.length
            rw [List.take_of_length_le (Nat.le_refl _)] at b0 b1
            by_cases hx : n0 < wt ss k i
            · have HB : Hid (ovP x0b x0t n0 ss = (((i : Int), (k : Int), wt ss k i - n0), 0)) := Lib.hid (by
                have h1 : ovB n0 ss k i = some ((i : Int), (k : Int), wt ss k i - n0) := by unfold ovB; rw [if_pos hx]
                have h2 := Hr.out.trans (fs_hit hil h1)
                rw [HP.out, Heq.out.trans (fs_hit hlt h2)])
              generalize wt ss k i = W at *
              go_wp2_with fail
              refine hcw.mono ?_
              rintro e w2 ⟨rfl, rfl⟩
              go_wp2_with fail
              refine bodyPost_ret (v := .tuple #[.agg #[.int .i64 i, .int .i64 k, .int .i64 (W - n0)], .int .i64 0]) (by simp [results, Tryd.results9, go_sem, r0, r1, r2, f3, f4, f5]) rfl ⟨?_, ?_⟩
              · rw [HB.out]
              · repeat' (first | exact hb1 | (refine Below.setCell ?_ ?_ _) | (refine below_drewN ?_ _) | (simp; done) | (simp; omega))
            · have HN := Lib.hid (Hr.out.trans (fs_miss hil (show ovB n0 ss k i = none by unfold ovB; rw [if_neg hx])))
              have hx' : wt ss k i ≤ n0 := by omega
              clear hx
              generalize wt ss k i = W at *
              go_wp2_with fail
              refine hcw.mono ?_
              rintro e w2 ⟨rfl, rfl⟩
              go_wp2_with fail
              go_round
              case rel => exact ⟨i + 1, by omega, by go_num, HN⟩
              case measure => simp [intOf]; omega
          · have HN := Lib.hid (Heq.out.trans (fs_miss hlt (Hr.out.trans (fs_end (by omega)))))
            go_wp2_with fail
            go_round
            case rel => exact ⟨k + 1, _, by omega, by go_num, rfl, HN⟩
            case measure => simp [intOf]; omega
      · have HB : Hid (ovP x0b x0t n0 ss = ((0, 0, 0), 3)) := Lib.hid (by rw [HP.out, Heq.out.trans (fs_end (by omega))])
        go_wp2_with fail
        refine bodyPost_ret (v := .tuple #[.agg #[.int .i64 0, .int .i64 0, .int .i64 0], .int .i64 3]) (by simp [results, Tryd.results9, go_sem, r0, r1, r2, f3, f4, f5]) rfl ⟨?_, ?_⟩
        · rw [HB.out]
        · repeat' (first | exact hb1 | (refine Below.setCell ?_ ?_ _) | (refine below_drewN ?_ _) | (simp; done) | (simp; omega))
  · have HP : Hid (ovP x0b x0t n0 ss = ((0, 0, 0), scC x0b x0t n0 ss)) := Lib.hid (by unfold ovP; rw [if_neg hc])
    have hne : (scC x0b x0t n0 ss != 0) = true := by simpa using hc
    generalize scC x0b x0t n0 ss = C at *
    clear hc
    go_enter Tryd.func9, Tryd.ntmps9
    go_wp2_with fail
    refine hcc.mono ?_
    rintro e w1 ⟨rfl, hd⟩
    obtain ⟨m, rfl⟩ := hd
    go_wp2_with fail
    refine bodyPost_ret (v := .tuple #[.agg #[.int .i64 0, .int .i64 0, .int .i64 0], .int .i64 C]) (by simp [results, Tryd.results9, go_sem]) rfl ⟨?_, ?_⟩
    · rw [HP.out]
    · repeat' (first | exact hb0 | (refine Below.setCell ?_ ?_ _) | (refine below_drewN ?_ _) | (simp; done) | (simp; omega))
set_option maxHeartbeats 3200000 in
theorem implOverloadOf_any (A0b : Option Addr) (c0b : Nat) (x0b : List Int) (A0t : Option Addr) (c0t : Nat) (x0t : List Int) (n0 : Int) (As : Option Addr) (cs : Nat) (ss : List StandD) (w : World) (hb : Rd LI w w.heap.size A0b c0b x0b) (ht : Rd LI w w.heap.size A0t c0t x0t) (hs : Rd LStand w w.heap.size As cs ss) :
    Calls Tryd.prog 8 #[.agg #[.slice A0b x0b.length c0b, .slice A0t x0t.length c0t, .int .i64 n0], .slice As ss.length cs] w fun e w' => e = .returned (.tuple #[.agg #[.int .i64 (ovP x0b x0t n0 ss).1.1, .int .i64 (ovP x0b x0t n0 ss).1.2.1, .int .i64 (ovP x0b x0t n0 ss).1.2.2], .int .i64 (ovP x0b x0t n0 ss).2]) ∧ Below w.heap.size w w' := by
  have hl1 := hb.len63
  have hl2 := ht.len63
  have hb0 : Below w.heap.size w ((w.alloc (.cells #[.slice A0b x0b.length c0b, .slice A0t x0t.length c0t, .int .i64 n0] 26)).alloc (.cells #[.int .i64 0, .int .i64 0, .int .i64 0] 33)) := ((Below.refl _ w).alloc (Nat.le_refl _) _).alloc (by simp) _
  have hz : ((w.alloc (.cells #[.slice A0b x0b.length c0b, .slice A0t x0t.length c0t, .int .i64 n0] 26)).alloc (.cells #[.int .i64 0, .int .i64 0, .int .i64 0] 33)).heap.size = w.heap.size + 2 := by simp
  have hcc := standsCode_any A0b c0b x0b A0t c0t x0t n0 As cs ss 0 ((w.alloc (.cells #[.slice A0b x0b.length c0b, .slice A0t x0t.length c0t, .int .i64 n0] 26)).alloc (.cells #[.int .i64 0, .int .i64 0, .int .i64 0] 33)) ((hb.al _).al _) ((ht.al _).al _) ((hs.al _).al _)
  rw [scT_zero] at hcc
  go_enter Tryd.func8, Tryd.ntmps8
  go_wp2_with fail
  refine hcc.mono ?_
  rintro e w1 ⟨rfl, hd⟩
  clear hcc
  have hb1 := bthen hb0 (Nat.le_refl _) hd
  have f0 : w1.cell? ⟨w.heap.size, 0, none⟩ = some (.slice A0b x0b.length c0b) := (hd.cell (by simp <;> omega)).trans (by go_simp)
  have f1 : w1.cell? ⟨w.heap.size, 1, none⟩ = some (.slice A0t x0t.length c0t) := (hd.cell (by simp <;> omega)).trans (by go_simp)
  have f2 : w1.cell? ⟨w.heap.size, 2, none⟩ = some (.int .i64 n0) := (hd.cell (by simp <;> omega)).trans (by go_simp)
  have f3 : w1.frozen? ⟨w.heap.size + 1, 0, none⟩ = false := (hd.frozen (by simp <;> omega)).trans (by go_simp)
  have f4 : w1.frozen? ⟨w.heap.size + 1, 1, none⟩ = false := (hd.frozen (by simp <;> omega)).trans (by go_simp)
  have f5 : w1.frozen? ⟨w.heap.size + 1, 2, none⟩ = false := (hd.frozen (by simp <;> omega)).trans (by go_simp)
  have r0 : w1.cell? ⟨w.heap.size + 1, 0, none⟩ = some (.int .i64 0) := (hd.cell (by simp <;> omega)).trans (by go_simp)
  have r1 : w1.cell? ⟨w.heap.size + 1, 1, none⟩ = some (.int .i64 0) := (hd.cell (by simp <;> omega)).trans (by go_simp)
  have r2 : w1.cell? ⟨w.heap.size + 1, 2, none⟩ = some (.int .i64 0) := (hd.cell (by simp <;> omega)).trans (by go_simp)
  have hs1 := hd.size
  rw [hz] at hs1
  by_cases hc : scC x0b x0t n0 ss = 0
  · rw [hc]
    obtain ⟨hv, hsc⟩ := scC_zero hc
    obtain ⟨hn, hso⟩ := scB_parts hsc
    have hw : ∀ x ∈ ss, 0 ≤ x.2.2 ∧ x.2.2 ≤ 10000 := fun x hx => (stOk_parts (hso x hx)).2.2
    obtain ⟨_, _, _, _, hn0, hn1⟩ := vsB_parts hv
    have HP : Hid (ovP x0b x0t n0 ss = match ovA x0b x0t n0 ss with | some x => (x, 0) | none => ((0, 0, 0), 3)) := Lib.hid (by unfold ovP; rw [if_pos hc])
    have HW := Lib.hid hw
    have hsR := hs.below hb1
    clear hc hso hsc hv hw hd hb0 hz
    go_wp2_with fail
    go_loopw [7, 8, 9, 20, 26] (fun _ _ _ a _ wr => ∃ k : Nat, k ≤ x0t.length ∧ a = .int .i64 k ∧ Hid (ovA x0b x0t n0 ss = fs (ovR x0b.length n0 ss) (x0t.length - k) k) ∧ Below (w.heap.size + 2) w1 wr) (fun _ _ _ a _ _ => x0t.length - (intOf a).toNat)
    case atStart => exact ⟨0, by omega, rfl, Lib.hid rfl, Below.refl _ _⟩
    case round =>
      obtain ⟨k, hk, rfl, Heq, hbo⟩ := hrel
      have g0 : wr.cell? ⟨w.heap.size, 0, none⟩ = some (.slice A0b x0b.length c0b) := (hbo.cell (by simp <;> omega)).trans f0
      have g1 : wr.cell? ⟨w.heap.size, 1, none⟩ = some (.slice A0t x0t.length c0t) := (hbo.cell (by simp <;> omega)).trans f1
      by_cases hlt : k < x0t.length
      · go_wp2_with fail
        go_loopw [8, 9, 26] (fun _ _ b wr => ∃ i : Nat, i ≤ x0b.length ∧ b = .int .i64 i ∧ Hid (ovR x0b.length n0 ss k = fs (ovB n0 ss k) (x0b.length - i) i) ∧ Below (w.heap.size + 2) w1 wr) (fun _ _ b _ => x0b.length - (intOf b).toNat)
        case atStart => exact ⟨0, by omega, rfl, Lib.hid rfl, hbo⟩
        case round =>
          obtain ⟨i, hi, rfl, Hr, hbi⟩ := hrel
          have hsi := hbi.size
          by_cases hil : i < x0b.length
          · have e2 : wr.cell? ⟨w.heap.size, 2, none⟩ = some (.int .i64 n0) := (hbi.cell (by simp <;> omega)).trans f2
            have hsW : Rd LStand wr w.heap.size As cs ss := hsR.below (hbi.mono (by omega))
            have hcw := fun W hR hB => weightOn_any As cs ss (k : Int) (i : Int) w.heap.size W hR hB HW.out hn
            obtain ⟨b0, b1⟩ := wt_bd HW.out hn (k : Int) (i : Int) ss.length
            rw [List.take_of_length_le (Nat.le_refl _)] at b0 b1
            by_cases hx : n0 < wt ss k i
            · have HB : Hid (ovP x0b x0t n0 ss = (((i : Int), (k : Int), wt ss k i - n0), 0)) := Lib.hid (by
                have h1 : ovB n0 ss k i = some ((i : Int), (k : Int), wt ss k i - n0) := by unfold ovB; rw [if_pos hx]
                have h2 := Hr.out.trans (fs_hit hil h1)
                rw [HP.out, Heq.out.trans (fs_hit hlt h2)])
              generalize wt ss k i = W at *
              go_wp2_with fail
              go_region_held3 (fun W => W.cell? ⟨w.heap.size, 2, none⟩ = some (.int .i64 n0))
                (first | go_keep | (refine (hc2.cell ?_).trans ?_; (focus (simp <;> omega)); assumption))
                ((first
                  | (go_at_call 32; (with_reducible refine (hcw _ hsW.drew (by simp <;> omega)).mono ?_); rintro e w2 ⟨rfl, hc2⟩; have hb2 := hbi.drew.trans (hc2.mono (by simp <;> omega)))))
              have f3' := (hb2.frozen (p := ⟨w.heap.size + 1, 0, none⟩) (by simp <;> omega)).trans f3
              have f4' := (hb2.frozen (p := ⟨w.heap.size + 1, 1, none⟩) (by simp <;> omega)).trans f4
              have f5' := (hb2.frozen (p := ⟨w.heap.size + 1, 2, none⟩) (by simp <;> omega)).trans f5
              have r0' := (hb2.cell (p := ⟨w.heap.size + 1, 0, none⟩) (by simp <;> omega)).trans r0
              have r1' := (hb2.cell (p := ⟨w.heap.size + 1, 1, none⟩) (by simp <;> omega)).trans r1
              have r2' := (hb2.cell (p := ⟨w.heap.size + 1, 2, none⟩) (by simp <;> omega)).trans r2
              have hbz := hb1.trans (hb2.mono (by omega))
              go_wp2_with fail
              refine bodyPost_ret (v := .tuple #[.agg #[.int .i64 i, .int .i64 k, .int .i64 (W - n0)], .int .i64 0]) (by simp [results, Tryd.results8, go_sem, r0', r1', r2', f3', f4', f5']) rfl ⟨?_, ?_⟩
              · rw [HB.out]
              · repeat' (first | exact hbz | (refine Below.setCell ?_ ?_ _) | (refine below_drewN ?_ _) | (simp; done) | (simp; omega))
            · have HN := Lib.hid (Hr.out.trans (fs_miss hil (show ovB n0 ss k i = none by unfold ovB; rw [if_neg hx])))
              have hx' : wt ss k i ≤ n0 := by omega
              clear hx
              generalize wt ss k i = W at *
              go_wp2_with fail
              go_region_held3 (fun W => W.cell? ⟨w.heap.size, 2, none⟩ = some (.int .i64 n0))
                (first | go_keep | (refine (hc2.cell ?_).trans ?_; (focus (simp <;> omega)); assumption))
                ((first
                  | (go_at_call 32; (with_reducible refine (hcw _ hsW.drew (by simp <;> omega)).mono ?_); rintro e w2 ⟨rfl, hc2⟩; have hb2 := hbi.drew.trans (hc2.mono (by simp <;> omega)))))
              go_wp2_with fail
              go_roundw
              case rel => exact ⟨i + 1, by omega, by go_num, HN, hb2⟩
              case measure => simp [intOf]; omega
          · have HN := Lib.hid (Heq.out.trans (fs_miss hlt (Hr.out.trans (fs_end (by omega)))))
            go_wp2_with fail
            go_roundw
            case rel => exact ⟨k + 1, by omega, by go_num, HN, hbi⟩
            case measure => simp [intOf]; omega
      · have HB : Hid (ovP x0b x0t n0 ss = ((0, 0, 0), 3)) := Lib.hid (by rw [HP.out, Heq.out.trans (fs_end (by omega))])
        have f3' := (hbo.frozen (p := ⟨w.heap.size + 1, 0, none⟩) (by simp <;> omega)).trans f3
        have f4' := (hbo.frozen (p := ⟨w.heap.size + 1, 1, none⟩) (by simp <;> omega)).trans f4
        have f5' := (hbo.frozen (p := ⟨w.heap.size + 1, 2, none⟩) (by simp <;> omega)).trans f5
        have r0' := (hbo.cell (p := ⟨w.heap.size + 1, 0, none⟩) (by simp <;> omega)).trans r0
        have r1' := (hbo.cell (p := ⟨w.heap.size + 1, 1, none⟩) (by simp <;> omega)).trans r1
        have r2' := (hbo.cell (p := ⟨w.heap.size + 1, 2, none⟩) (by simp <;> omega)).trans r2
        have hbz := hb1.trans (hbo.mono (by omega))
        go_wp2_with fail
        refine bodyPost_ret (v := .tuple #[.agg #[.int .i64 0, .int .i64 0, .int .i64 0], .int .i64 3]) (by simp [results, Tryd.results8, go_sem, r0', r1', r2', f3', f4', f5']) rfl ⟨?_, ?_⟩
        · rw [HB.out]
        · repeat' (first | exact hbz | (refine Below.setCell ?_ ?_ _) | (refine below_drewN ?_ _) | (simp; done) | (simp; omega))
  · have HP : Hid (ovP x0b x0t n0 ss = ((0, 0, 0), scC x0b x0t n0 ss)) := Lib.hid (by unfold ovP; rw [if_neg hc])
    have hne : (scC x0b x0t n0 ss != 0) = true := by simpa using hc
    generalize scC x0b x0t n0 ss = C at *
    clear hc
    go_wp2_with fail
    refine bodyPost_ret (v := .tuple #[.agg #[.int .i64 0, .int .i64 0, .int .i64 0], .int .i64 C]) (by simp [results, Tryd.results8, go_sem, r0, r1, r2, f3, f4, f5]) rfl ⟨?_, ?_⟩
    · rw [HP.out]
    · repeat' (first | exact hb1 | (refine Below.setCell ?_ ?_ _) | (refine below_drewN ?_ _) | (simp; done) | (simp; omega))
end Go.Proofs.YtamhkiakplmlmaaDoor
