/-
  Scaffolds: what stands on them: standsCode, weightOn.
-/
import Derived.Test.YtamhkiakplmlmaaDoorScafA
import Derived.Test.YtamhkiakplmlmaaDoorFlatStand
namespace Go.Proofs.YtamhkiakplmlmaaDoor
open Go.ChangeShapes Go.WideShapes Go.RowKit

def stOk (b t : List Int) (x : StandD) : Bool := inB x.1 0 ((b.length : Int) - 1) && inB x.2.1 0 ((t.length : Int) - 1) && inB x.2.2 0 10000
def scB (b t : List Int) (ss : List StandD) : Bool := decide (ss.length ≤ 100) && !ss.any (fun x => !stOk b t x)
/-- the code, with a tier -/
def scT (b t : List Int) (n : Int) (ss : List StandD) (tier : Int) : Int := if vsB b t n = true then (if scB b t ss = true ∧ inB tier 0 ((t.length : Int) - 1) = true then 0 else 2) else 1
/-- the code, without -/
def scC (b t : List Int) (n : Int) (ss : List StandD) : Int := if vsB b t n = true then (if scB b t ss = true then 0 else 2) else 1
def wt (ss : List StandD) (tier bay : Int) : Int := sm ((ss.filter fun x => x.2.1 == tier && x.1 == bay).map fun x => x.2.2)
theorem wt_succ (ss : List StandD) (tier bay : Int) {k : Nat} (h : k < ss.length) : wt (ss.take (k + 1)) tier bay = wt (ss.take k) tier bay + if (ss[k].2.1 == tier && ss[k].1 == bay) = true then ss[k].2.2 else 0 := by
  unfold wt
  rw [List.take_succ_eq_append_getElem h, List.filter_append, List.map_append, sm_append]
  cases hc : (ss[k].2.1 == tier && ss[k].1 == bay) <;> simp [hc, sm]
theorem scB_parts {b t : List Int} {ss : List StandD} (h : scB b t ss = true) : ss.length ≤ 100 ∧ ∀ x ∈ ss, stOk b t x = true := by
  simpa [scB] using h
theorem stOk_parts {b t : List Int} {x : StandD} (h : stOk b t x = true) : (0 ≤ x.1 ∧ x.1 ≤ (b.length : Int) - 1) ∧ (0 ≤ x.2.1 ∧ x.2.1 ≤ (t.length : Int) - 1) ∧ 0 ≤ x.2.2 ∧ x.2.2 ≤ 10000 := by
  simp only [stOk, Bool.and_eq_true] at h
  exact ⟨inB_yes h.1.1, inB_yes h.1.2, inB_yes h.2⟩
theorem wt_bd {ss : List StandD} (h : ∀ x ∈ ss, 0 ≤ x.2.2 ∧ x.2.2 ≤ 10000) (hn : ss.length ≤ 100) (tier bay : Int) (k : Nat) : 0 ≤ wt (ss.take k) tier bay ∧ wt (ss.take k) tier bay ≤ 1000000 := by
  have h1 : ∀ y ∈ ((ss.take k).filter fun x => x.2.1 == tier && x.1 == bay).map (fun x => x.2.2), 0 ≤ y ∧ y ≤ 10000 := by
    intro y hy
    obtain ⟨x, hx, rfl⟩ := List.mem_map.1 hy
    exact h x (List.mem_of_mem_take (List.mem_filter.1 hx).1)
  have hl : (((ss.take k).filter fun x => x.2.1 == tier && x.1 == bay).map (fun x => x.2.2)).length ≤ 100 := by
    rw [List.length_map]
    have := List.length_filter_le (fun x : StandD => x.2.1 == tier && x.1 == bay) (ss.take k)
    have : (ss.take k).length ≤ ss.length := by simp; omega
    omega
  refine ⟨sm_nonneg fun y hy => (h1 y hy).1, ?_⟩
  have := sm_bound (M := 10000) (n := 100) (by omega) (fun y hy => (h1 y hy).2) hl
  unfold wt
  omega

set_option maxHeartbeats 800000 in
theorem standsCode1_any (x0 x1 x2 : Int) (A0b : Option Addr) (c0b : Nat) (x0b : List Int) (A0t : Option Addr) (c0t : Nat) (x0t : List Int) (n0 : Int) (g : Nat) (w : World) (hl1 : x0b.length ≤ 9223372036854775807) (hl2 : x0t.length ≤ 9223372036854775807) (hg : g < w.heap.size)
    (hc0 : w.cell? ⟨g, 0, none⟩ = some (.slice A0b x0b.length c0b)) (hc1 : w.cell? ⟨g, 1, none⟩ = some (.slice A0t x0t.length c0t)) :
    Calls Tryd.prog 52 #[.agg #[.int .i64 x0, .int .i64 x1, .int .i64 x2], .pointer (some ⟨g, 0, none⟩)] w fun e w' => e = .returned (.bool (!stOk x0b x0t (x0, x1, x2))) ∧ Below w.heap.size w w' := by
  have hb0 := (Below.refl w.heap.size w).alloc (Nat.le_refl _) (.cells #[.int .i64 x0, .int .i64 x1, .int .i64 x2] 33)
  cases h1 : inB x0 0 ((x0b.length : Int) - 1)
  · have HV : Hid (stOk x0b x0t (x0, x1, x2) = false) := Lib.hid (by simp [stOk, h1])
    rw [HV.out]
    go_enter Tryd.func52, Tryd.ntmps52
    go_wp2_with (go_at_call 39; refine (within_any _ _ _ _).mono ?_; rintro e w' ⟨rfl, rfl⟩)
    go_ret
    exact ⟨rfl, hb0⟩
  · cases h2 : inB x1 0 ((x0t.length : Int) - 1)
    · have HV : Hid (stOk x0b x0t (x0, x1, x2) = false) := Lib.hid (by simp [stOk, h2])
      rw [HV.out]
      go_enter Tryd.func52, Tryd.ntmps52
      go_wp2_with (go_at_call 39; refine (within_any _ _ _ _).mono ?_; rintro e w' ⟨rfl, rfl⟩)
      go_ret
      exact ⟨rfl, hb0⟩
    · have HV : Hid (stOk x0b x0t (x0, x1, x2) = inB x2 0 10000) := Lib.hid (by simp [stOk, h1, h2])
      rw [HV.out]
      go_enter Tryd.func52, Tryd.ntmps52
      go_wp2_with (go_at_call 39; refine (within_any _ _ _ _).mono ?_; rintro e w' ⟨rfl, rfl⟩)
      go_ret
      exact ⟨rfl, hb0⟩
theorem eg_standsCode1 : ∀ args w, (callFunc 52 args).run Tryd.prog w = .ok (.enter 52 args) w := by
  intro args w
  kernel_rfl

set_option maxHeartbeats 1600000 in
theorem standsCode_any (A0b : Option Addr) (c0b : Nat) (x0b : List Int) (A0t : Option Addr) (c0t : Nat) (x0t : List Int) (n0 : Int) (As : Option Addr) (cs : Nat) (ss : List StandD) (tier : Int) (w : World) (hb : Rd LI w w.heap.size A0b c0b x0b) (ht : Rd LI w w.heap.size A0t c0t x0t) (hs : Rd LStand w w.heap.size As cs ss) :
    Calls Tryd.prog 31 #[.agg #[.slice A0b x0b.length c0b, .slice A0t x0t.length c0t, .int .i64 n0], .slice As ss.length cs, .int .i64 tier] w fun e w' => e = .returned (.int .i64 (scT x0b x0t n0 ss tier)) ∧ Below w.heap.size w w' := by
  have hl3 := hs.len63
  cases hv : vsB x0b x0t n0
  · have HP : Hid (scT x0b x0t n0 ss tier = 1) := Lib.hid (by simp [scT, hv])
    rw [HP.out]
    have hc := implValidScaffold_any A0b c0b x0b A0t c0t x0t n0 (w.alloc (.cells #[.slice A0b x0b.length c0b, .slice A0t x0t.length c0t, .int .i64 n0] 26)) (hb.al _) (ht.al _)
    rw [hv] at hc
    have hl1 := hb.len63
    have hl2 := ht.len63
    go_enter Tryd.func31, Tryd.ntmps31
    go_wp2_with fail
    refine hc.mono ?_
    rintro e w1 ⟨rfl, hb1⟩
    have hbw : Below w.heap.size w w1 := ((Below.refl _ w).alloc (Nat.le_refl _) _).trans (hb1.mono (by simp))
    have hs1 := hb1.size
    simp at hs1
    have q0 : w1.cell? ⟨w.heap.size, 0, none⟩ = some (.slice A0b x0b.length c0b) := by rw [hb1.cell (by simp)]; go_simp
    have q1 : w1.cell? ⟨w.heap.size, 1, none⟩ = some (.slice A0t x0t.length c0t) := by rw [hb1.cell (by simp)]; go_simp
    have q2 : w1.cell? ⟨w.heap.size, 2, none⟩ = some (.int .i64 n0) := by rw [hb1.cell (by simp)]; go_simp
    have hbr := (hb.below hbw).more hbw.size
    have htr := (ht.below hbw).more hbw.size
    clear hc
    go_wp2_with fail
    go_ret
    exact ⟨rfl, hbw⟩
  · by_cases hn : ss.length ≤ 100
    · cases hin : inB tier 0 ((x0t.length : Int) - 1)
      · have HP : Hid (scT x0b x0t n0 ss tier = 2) := Lib.hid (by simp [scT, hv, hin])
        rw [HP.out]
        have hc := implValidScaffold_any A0b c0b x0b A0t c0t x0t n0 (w.alloc (.cells #[.slice A0b x0b.length c0b, .slice A0t x0t.length c0t, .int .i64 n0] 26)) (hb.al _) (ht.al _)
        rw [hv] at hc
        have hl1 := hb.len63
        have hl2 := ht.len63
        go_enter Tryd.func31, Tryd.ntmps31
        go_wp2_with fail
        refine hc.mono ?_
        rintro e w1 ⟨rfl, hb1⟩
        have hbw : Below w.heap.size w w1 := ((Below.refl _ w).alloc (Nat.le_refl _) _).trans (hb1.mono (by simp))
        have hs1 := hb1.size
        simp at hs1
        have q0 : w1.cell? ⟨w.heap.size, 0, none⟩ = some (.slice A0b x0b.length c0b) := by rw [hb1.cell (by simp)]; go_simp
        have q1 : w1.cell? ⟨w.heap.size, 1, none⟩ = some (.slice A0t x0t.length c0t) := by rw [hb1.cell (by simp)]; go_simp
        have q2 : w1.cell? ⟨w.heap.size, 2, none⟩ = some (.int .i64 n0) := by rw [hb1.cell (by simp)]; go_simp
        have hbr := (hb.below hbw).more hbw.size
        have htr := (ht.below hbw).more hbw.size
        clear hc
        go_wp2_with fail
        refine (within_any _ _ _ _).mono ?_
        rintro e w2 ⟨rfl, rfl⟩
        go_wp2_with fail
        go_ret
        exact ⟨rfl, hbw⟩
      · have HP : Hid (scT x0b x0t n0 ss tier = if ss.any (fun x => !stOk x0b x0t x) = true then 2 else 0) := Lib.hid (by
          cases h : ss.any (fun x => !stOk x0b x0t x) <;> simp [scT, hv, hin, scB, hn, h])
        have hc := implValidScaffold_any A0b c0b x0b A0t c0t x0t n0 (w.alloc (.cells #[.slice A0b x0b.length c0b, .slice A0t x0t.length c0t, .int .i64 n0] 26)) (hb.al _) (ht.al _)
        rw [hv] at hc
        have hl1 := hb.len63
        have hl2 := ht.len63
        go_enter Tryd.func31, Tryd.ntmps31
        go_wp2_with fail
        refine hc.mono ?_
        rintro e w1 ⟨rfl, hb1⟩
        have hbw : Below w.heap.size w w1 := ((Below.refl _ w).alloc (Nat.le_refl _) _).trans (hb1.mono (by simp))
        have hs1 := hb1.size
        simp at hs1
        have q0 : w1.cell? ⟨w.heap.size, 0, none⟩ = some (.slice A0b x0b.length c0b) := by rw [hb1.cell (by simp)]; go_simp
        have q1 : w1.cell? ⟨w.heap.size, 1, none⟩ = some (.slice A0t x0t.length c0t) := by rw [hb1.cell (by simp)]; go_simp
        have q2 : w1.cell? ⟨w.heap.size, 2, none⟩ = some (.int .i64 n0) := by rw [hb1.cell (by simp)]; go_simp
        have hbr := (hb.below hbw).more hbw.size
        have htr := (ht.below hbw).more hbw.size
        clear hc
        go_wp2_with fail
        refine (within_any _ _ _ _).mono ?_
        rintro e w2 ⟨rfl, rfl⟩
        go_wp2_with fail
        have hcc := containsStand_any As cs ss 52 #[.pointer (some ⟨w.heap.size, 0, none⟩)] (fun x => !stOk x0b x0t x) w1.heap.size w1 (Nat.le_refl _) ((hs.below hbw).more hbw.size)
          ⟨eg_standsCode1, fun x _ W hW => standsCode1_any x.1 x.2.1 x.2.2 A0b c0b x0b A0t c0t x0t n0 w.heap.size W hl1 hl2 (by have := hW.size; omega) (by rw [hW.cell (by simp; omega)]; exact q0) (by rw [hW.cell (by simp; omega)]; exact q1)⟩
        cases hany : ss.any (fun x => !stOk x0b x0t x)
        · rw [hany] at hcc HP
          refine hcc.mono ?_
          rintro e w2 ⟨rfl, hb2⟩
          go_wp2_with fail
          go_ret
          exact ⟨ret_int HP.out.symm, bthen hbw (Nat.le_refl _) hb2⟩
        · rw [hany] at hcc HP
          refine hcc.mono ?_
          rintro e w2 ⟨rfl, hb2⟩
          go_wp2_with fail
          go_ret
          exact ⟨ret_int HP.out.symm, bthen hbw (Nat.le_refl _) hb2⟩
    · have HP : Hid (scT x0b x0t n0 ss tier = 2) := Lib.hid (by simp [scT, hv, scB, hn])
      rw [HP.out]
      have hc := implValidScaffold_any A0b c0b x0b A0t c0t x0t n0 (w.alloc (.cells #[.slice A0b x0b.length c0b, .slice A0t x0t.length c0t, .int .i64 n0] 26)) (hb.al _) (ht.al _)
      rw [hv] at hc
      have hl1 := hb.len63
      have hl2 := ht.len63
      go_enter Tryd.func31, Tryd.ntmps31
      go_wp2_with fail
      refine hc.mono ?_
      rintro e w1 ⟨rfl, hb1⟩
      have hbw : Below w.heap.size w w1 := ((Below.refl _ w).alloc (Nat.le_refl _) _).trans (hb1.mono (by simp))
      have hs1 := hb1.size
      simp at hs1
      have q0 : w1.cell? ⟨w.heap.size, 0, none⟩ = some (.slice A0b x0b.length c0b) := by rw [hb1.cell (by simp)]; go_simp
      have q1 : w1.cell? ⟨w.heap.size, 1, none⟩ = some (.slice A0t x0t.length c0t) := by rw [hb1.cell (by simp)]; go_simp
      have q2 : w1.cell? ⟨w.heap.size, 2, none⟩ = some (.int .i64 n0) := by rw [hb1.cell (by simp)]; go_simp
      have hbr := (hb.below hbw).more hbw.size
      have htr := (ht.below hbw).more hbw.size
      clear hc
      go_wp2_with fail
      go_ret
      exact ⟨rfl, hbw⟩

set_option maxHeartbeats 800000 in
theorem weightOn_any (As : Option Addr) (cs : Nat) (ss : List StandD) (tier bay : Int) (B : Nat) (w : World) (hs : Rd LStand w B As cs ss) (hB : B ≤ w.heap.size) (h : ∀ x ∈ ss, 0 ≤ x.2.2 ∧ x.2.2 ≤ 10000) (hn : ss.length ≤ 100) :
    Calls Tryd.prog 32 #[.slice As ss.length cs, .int .i64 tier, .int .i64 bay] w fun e w' => e = .returned (.int .i64 (wt ss tier bay)) ∧ Below w.heap.size w w' := by
  go_enter Tryd.func32, Tryd.ntmps32
  go_wp2_with fail
  go_loopw [7, 12] (fun s i wr => ∃ k : Nat, k ≤ ss.length ∧ i = .int .i64 k ∧ s = .int .i64 (wt (ss.take k) tier bay) ∧ Below w.heap.size w wr) (fun _ i _ => ss.length - (intOf i).toNat)
  case atStart => exact ⟨0, by omega, rfl, rfl, Below.refl _ _⟩
  case round =>
    obtain ⟨k, hk, rfl, rfl, hbel⟩ := hrel
    obtain ⟨b0, b1⟩ := wt_bd h hn tier bay k
    have hsz := hbel.size
    by_cases hlt : k < ss.length
    · obtain ⟨ad, rfl, hab, hc0, hc1, hc2⟩ := rdStand (hs.below (hbel.mono hB)) hlt
      obtain ⟨hx0, hx1⟩ := h _ (List.getElem_mem hlt)
      have HS := Lib.hid (wt_succ ss tier bay hlt)
      cases h1 : (ss[k].2.1 == tier)
      · go_wp2_with fail
        go_roundw
        case rel => exact ⟨k + 1, by omega, by go_num, by rw [HS.out, h1]; simp, hbel.alloc hsz _⟩
        case measure => simp [intOf]; omega
      · cases h2 : (ss[k].1 == bay)
        · go_wp2_with fail
          go_roundw
          case rel => exact ⟨k + 1, by omega, by go_num, by rw [HS.out, h2]; simp, hbel.alloc hsz _⟩
          case measure => simp [intOf]; omega
        · go_wp2_with fail
          go_roundw
          case rel => exact ⟨k + 1, by omega, by go_num, by rw [HS.out, h1, h2]; simp, hbel.alloc hsz _⟩
          case measure => simp [intOf]; omega
    · go_wp2_with fail
      go_ret
      exact ⟨ret_int (by rw [List.take_of_length_le (by omega)]), hbel⟩
end Go.Proofs.YtamhkiakplmlmaaDoor
