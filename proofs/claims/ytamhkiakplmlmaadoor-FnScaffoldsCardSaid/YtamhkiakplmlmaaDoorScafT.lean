/-
  ScaffoldText of both.
-/
import Derived.Test.YtamhkiakplmlmaaDoorScaf
import Derived.Test.YtamhkiakplmlmaaDoorJoinS
import Derived.Deep.RegionHeld3
namespace Go.Proofs.YtamhkiakplmlmaaDoor
open Go.ChangeShapes Go.WideShapes Go.RowKit

/-- each number behind a blank -/
def jt (xs : List Int) : List UInt8 := Lib.joinTail [32] (xs.map Lib.itoa)
theorem jt_nil : jt [] = [] := rfl
theorem jt_succ (xs : List Int) {k : Nat} (h : k < xs.length) : jt (xs.take (k + 1)) = jt (xs.take k) ++ ([32] ++ Lib.itoa xs[k]) := by
  unfold jt
  rw [List.take_succ_eq_append_getElem h, List.map_append]
  simp [Lib.joinTail]
theorem jt_join (xs : List Int) (h : 1 ≤ xs.length) : [32] ++ ntL [32] xs = jt xs := by
  cases xs with
  | nil => simp at h
  | cons x r =>
    unfold ntL jn jt
    rw [List.map_cons, Lib.join_cons]
    simp [Lib.joinTail]
theorem jt_len {xs : List Int} (h : ∀ x ∈ xs, 0 ≤ x ∧ x ≤ 9223372036854775807) : (jt xs).length ≤ xs.length * 22 := by
  unfold jt
  rw [Lib.joinTail_length]
  have := lens_le (xs.map Lib.itoa) 21 (fun l hl => by
    obtain ⟨x, hx, rfl⟩ := List.mem_map.1 hl
    exact itoa_len (h x hx).1 (h x hx).2)
  rw [List.length_map] at this ⊢
  simp
  omega
def stL (b t : List Int) (n : Int) : List UInt8 := Lib.itoa n ++ [107, 103] ++ jt b ++ [32, 124] ++ jt t
def stS (b t : List Int) (n : Int) : ByteArray := if vsB b t n = true then bs (stL b t n) else { data := #[] }
theorem vsB_nb {b t : List Int} {n : Int} (h : vsB b t n = true) : (∀ x ∈ b, 0 ≤ x ∧ x ≤ 9223372036854775807) ∧ (∀ x ∈ t, 0 ≤ x ∧ x ≤ 9223372036854775807) ∧ 0 ≤ n ∧ n ≤ 10000 ∧ 1 ≤ b.length ∧ b.length ≤ 20 ∧ 1 ≤ t.length ∧ t.length ≤ 12 := by
  obtain ⟨h1, h2, h3, h4, h5⟩ := vsB_parts h
  exact ⟨fun x hx => by have := h2 x hx; omega, fun x hx => by have := h4 x hx; omega, by omega, by omega, h1.1, h1.2, h3.1, h3.2⟩

set_option maxRecDepth 100000 in
set_option maxHeartbeats 3200000 in
theorem implScaffoldText_any (A0b : Option Addr) (c0b : Nat) (x0b : List Int) (A0t : Option Addr) (c0t : Nat) (x0t : List Int) (n0 : Int) (w : World) (hb : Rd LI w w.heap.size A0b c0b x0b) (ht : Rd LI w w.heap.size A0t c0t x0t) (hT : TabW w) :
    Calls Tryd.prog 21 #[.agg #[.slice A0b x0b.length c0b, .slice A0t x0t.length c0t, .int .i64 n0]] w fun e w' => e = .returned (.string (stS x0b x0t n0)) ∧ Below w.heap.size w w' := by
  obtain ⟨FIN, hF⟩ : ∃ F, F = stS x0b x0t n0 := ⟨_, rfl⟩
  rw [← hF]
  cases hv : vsB x0b x0t n0
  · have HR : Hid (FIN = { data := #[] }) := Lib.hid (by rw [hF]; unfold stS; rw [if_neg (by simp [hv])])
    clear hF
    have hc := implValidScaffold_any A0b c0b x0b A0t c0t x0t n0 (w.alloc (.cells #[.slice A0b x0b.length c0b, .slice A0t x0t.length c0t, .int .i64 n0] 26)) (hb.al _) (ht.al _)
    rw [hv] at hc
    have hl1 := hb.len63
    have hl2 := ht.len63
    go_enter Tryd.func21, Tryd.ntmps21
    go_wp2_with fail
    refine hc.mono ?_
    rintro e w1 ⟨rfl, hb1⟩
    have hbw : Below w.heap.size w w1 := ((Below.refl _ w).alloc (Nat.le_refl _) _).trans (hb1.mono (by simp))
    have hs1 := hb1.size
    simp at hs1
    have q0 : w1.cell? ⟨w.heap.size, 0, none⟩ = some (.slice A0b x0b.length c0b) := by rw [hb1.cell (by simp)]; go_simp
    have q1 : w1.cell? ⟨w.heap.size, 1, none⟩ = some (.slice A0t x0t.length c0t) := by rw [hb1.cell (by simp)]; go_simp
    have q2 : w1.cell? ⟨w.heap.size, 2, none⟩ = some (.int .i64 n0) := by rw [hb1.cell (by simp)]; go_simp
    have hbr := (hb.below hbw).more hbw.size
    have htr := (ht.below hbw).more hbw.size
    clear hc
    go_wp2_with fail
    go_ret
    exact ⟨by rw [HR.out]; rfl, hbw⟩
  obtain ⟨hx1, hx2, n1, n2, m1, m2, m3, m4⟩ := vsB_nb hv
  have HR : Hid (FIN = decS n0 ++ { data := #[107, 103, 32] } ++ bs (ntL [32] x0b) ++ { data := #[32, 124, 32] } ++ bs (ntL [32] x0t)) := Lib.hid (by
    rw [hF]
    unfold stS stL
    rw [if_pos hv, decS_bs, show ({ data := #[107, 103, 32] } : ByteArray) = bs ([107, 103] ++ [32]) from rfl, show ({ data := #[32, 124, 32] } : ByteArray) = bs ([32, 124] ++ [32]) from rfl, bs_app, bs_app, bs_app, bs_app, ← jt_join x0b m1, ← jt_join x0t m3]
    simp only [List.append_assoc])
  have hcd := fun W (h : Below w.heap.size w W) => dec_any n0 (by omega) (by omega) W (tab_below hT h (Nat.le_refl _))
  have hcb := fun W (h : Below w.heap.size w W) => numbersText_any { data := #[32] } A0b c0b x0b W ((hb.below h).more h.size) hx1 (by omega) (by show 1 ≤ 10; omega) (tab_below hT h (Nat.le_refl _))
  have hct := fun W (h : Below w.heap.size w W) => numbersText_any { data := #[32] } A0t c0t x0t W ((ht.below h).more h.size) hx2 (by omega) (by show 1 ≤ 10; omega) (tab_below hT h (Nat.le_refl _))
  have l1 : (decS n0).size ≤ 21 := by rw [decS_bs, bs_size]; exact itoa_len (by omega) (by omega)
  have l2 : (bs (ntL [32] x0b)).size ≤ 1000 := by
    rw [bs_size]
    have h1 := ntL_len [32] x0b hx1
    have h2 : x0b.length * (21 + [(32 : UInt8)].length) ≤ 20 * 22 := Nat.mul_le_mul m2 (Nat.le_refl _)
    omega
  have l3 : (bs (ntL [32] x0t)).size ≤ 1000 := by
    rw [bs_size]
    have h1 := ntL_len [32] x0t hx2
    have h2 : x0t.length * (21 + [(32 : UInt8)].length) ≤ 12 * 22 := Nat.mul_le_mul m4 (Nat.le_refl _)
    omega
  change ∀ W, Below w.heap.size w W → Calls Tryd.prog 47 #[.string { data := #[32] }, .slice A0b x0b.length c0b] W fun e w' => e = .returned (.string (bs (ntL [32] x0b))) ∧ Below W.heap.size W w' at hcb
  change ∀ W, Below w.heap.size w W → Calls Tryd.prog 47 #[.string { data := #[32] }, .slice A0t x0t.length c0t] W fun e w' => e = .returned (.string (bs (ntL [32] x0t))) ∧ Below W.heap.size W w' at hct
  have HCD := Lib.hid hcd
  have HCB := Lib.hid hcb
  have HCT := Lib.hid hct
  clear hF hcd hcb hct hx1 hx2
  generalize decS n0 = ds at *
  generalize bs (ntL [32] x0b) = jb at *
  generalize bs (ntL [32] x0t) = jq at *
  have a1 := fun W : World => run_string_add_sum (P := Tryd.prog) W ds { data := #[107, 103, 32] } (by rw [show ByteArray.size { data := #[107, 103, 32] } = 3 from rfl]; omega)
  have a2 := fun W : World => run_string_add_sum (P := Tryd.prog) W (ds ++ { data := #[107, 103, 32] }) jb (by rw [ByteArray.size_append, show ByteArray.size { data := #[107, 103, 32] } = 3 from rfl]; omega)
  have a3 := fun W : World => run_string_add_sum (P := Tryd.prog) W (ds ++ { data := #[107, 103, 32] } ++ jb) { data := #[32, 124, 32] } (by rw [ByteArray.size_append, ByteArray.size_append, show ByteArray.size { data := #[107, 103, 32] } = 3 from rfl, show ByteArray.size { data := #[32, 124, 32] } = 3 from rfl]; omega)
  have a4 := fun W : World => run_string_add_sum (P := Tryd.prog) W (ds ++ { data := #[107, 103, 32] } ++ jb ++ { data := #[32, 124, 32] }) jq (by rw [ByteArray.size_append, ByteArray.size_append, ByteArray.size_append, show ByteArray.size { data := #[107, 103, 32] } = 3 from rfl, show ByteArray.size { data := #[32, 124, 32] } = 3 from rfl]; omega)
  have hHT := Lib.hid hT
  clear hT
  have hc := implValidScaffold_any A0b c0b x0b A0t c0t x0t n0 (w.alloc (.cells #[.slice A0b x0b.length c0b, .slice A0t x0t.length c0t, .int .i64 n0] 26)) (hb.al _) (ht.al _)
  rw [hv] at hc
  have hl1 := hb.len63
  have hl2 := ht.len63
  go_enter Tryd.func21, Tryd.ntmps21
  go_wp2_with fail
  refine hc.mono ?_
  rintro e w1 ⟨rfl, hb1⟩
  have hbw : Below w.heap.size w w1 := ((Below.refl _ w).alloc (Nat.le_refl _) _).trans (hb1.mono (by simp))
  have hs1 := hb1.size
  simp at hs1
  have q0 : w1.cell? ⟨w.heap.size, 0, none⟩ = some (.slice A0b x0b.length c0b) := by rw [hb1.cell (by simp)]; go_simp
  have q1 : w1.cell? ⟨w.heap.size, 1, none⟩ = some (.slice A0t x0t.length c0t) := by rw [hb1.cell (by simp)]; go_simp
  have q2 : w1.cell? ⟨w.heap.size, 2, none⟩ = some (.int .i64 n0) := by rw [hb1.cell (by simp)]; go_simp
  have hbr := (hb.below hbw).more hbw.size
  have htr := (ht.below hbw).more hbw.size
  clear hc
  go_wp2_with fail
  go_region_held3 (fun W => W.cell? ⟨w.heap.size, 0, none⟩ = some (.slice A0b x0b.length c0b) ∧ W.cell? ⟨w.heap.size, 1, none⟩ = some (.slice A0t x0t.length c0t) ∧ W.cell? ⟨w.heap.size, 2, none⟩ = some (.int .i64 n0))
    (first | go_keep | (go_split_ands; refine ⟨?_, ?_, ?_⟩ <;> (refine (hbC.cell ?_).trans ?_; (focus (first | omega | (simp <;> omega))); assumption)))
    ((first
      | (go_at_call 46; (with_reducible refine (HCD.out _ ?_).mono ?_); (focus (first | exact hbZ | exact hbY | exact hbw.drew | exact hbw)); rintro e w3 ⟨rfl, hbC⟩; have hsC := hbC.size; (try simp at hsC); first | (have hbX := bthen hbZ (Nat.le_refl _) hbC) | (have hbZ := bthen hbY (Nat.le_refl _) hbC) | (have hbY := bthen hbw.drew (Nat.le_refl _) hbC) | (have hbY := bthen hbw (Nat.le_refl _) hbC))
      | (go_at_call 47; (first | (with_reducible refine (HCB.out _ ?_).mono ?_) | (with_reducible refine (HCT.out _ ?_).mono ?_)); (focus (first | exact hbZ | exact hbY | exact hbw.drew | exact hbw)); rintro e w3 ⟨rfl, hbC⟩; have hsC := hbC.size; (try simp at hsC); first | (have hbX := bthen hbZ (Nat.le_refl _) hbC) | (have hbZ := bthen hbY (Nat.le_refl _) hbC) | (have hbY := bthen hbw.drew (Nat.le_refl _) hbC) | (have hbY := bthen hbw (Nat.le_refl _) hbC))))
  all_goals
    go_wp2_with fail
    go_ret
    exact ⟨by rw [HR.out]; rfl, hbX⟩

set_option maxRecDepth 100000 in
set_option maxHeartbeats 3200000 in
theorem specScaffoldText_any (A0b : Option Addr) (c0b : Nat) (x0b : List Int) (A0t : Option Addr) (c0t : Nat) (x0t : List Int) (n0 : Int) (w : World) (hb : Rd LI w w.heap.size A0b c0b x0b) (ht : Rd LI w w.heap.size A0t c0t x0t) (_hT : TabW w) :
    Calls Tryd.prog 22 #[.agg #[.slice A0b x0b.length c0b, .slice A0t x0t.length c0t, .int .i64 n0]] w fun e w' => e = .returned (.string (stS x0b x0t n0)) ∧ Below w.heap.size w w' := by
  obtain ⟨FIN, hF⟩ : ∃ F, F = stS x0b x0t n0 := ⟨_, rfl⟩
  rw [← hF]
  clear _hT
  cases hv : vsB x0b x0t n0
  · have HR : Hid (FIN = { data := #[] }) := Lib.hid (by rw [hF]; unfold stS; rw [if_neg (by simp [hv])])
    clear hF
    have hc := l22Ok_any A0b c0b x0b A0t c0t x0t n0 w.heap.size (w.alloc (.cells #[.slice A0b x0b.length c0b, .slice A0t x0t.length c0t, .int .i64 n0] 26)) (hb.al _) (ht.al _) (by go_simp) (by go_simp) (by go_simp)
    rw [hv] at hc
    have hl1 := hb.len63
    have hl2 := ht.len63
    have hbw : Below w.heap.size w (w.alloc (.cells #[.slice A0b x0b.length c0b, .slice A0t x0t.length c0t, .int .i64 n0] 26)) := (Below.refl _ w).alloc (Nat.le_refl _) _
    have hbr : Rd LI (w.alloc (.cells #[.slice A0b x0b.length c0b, .slice A0t x0t.length c0t, .int .i64 n0] 26)) (w.alloc (.cells #[.slice A0b x0b.length c0b, .slice A0t x0t.length c0t, .int .i64 n0] 26)).heap.size A0b c0b x0b := hb.al _
    have htr : Rd LI (w.alloc (.cells #[.slice A0b x0b.length c0b, .slice A0t x0t.length c0t, .int .i64 n0] 26)) (w.alloc (.cells #[.slice A0b x0b.length c0b, .slice A0t x0t.length c0t, .int .i64 n0] 26)).heap.size A0t c0t x0t := ht.al _
    go_enter Tryd.func22, Tryd.ntmps22
    go_wp2_with fail
    refine hc.mono ?_
    rintro e w1 ⟨rfl, rfl⟩
    clear hc
    go_wp2_with fail
    go_ret
    exact ⟨by rw [HR.out]; rfl, hbw⟩
  obtain ⟨hx1, hx2, n1, n2, m1, m2, m3, m4⟩ := vsB_nb hv
  have HR : Hid (FIN = bs (stL x0b x0t n0)) := Lib.hid (by rw [hF]; unfold stS; rw [if_pos hv])
  have HX1 := Lib.hid hx1
  have HX2 := Lib.hid hx2
  have hcd := fun W => l01Dec_any n0 (by omega) (by omega) W
  have l1 : (decS n0).size ≤ 21 := by rw [decS_bs, bs_size]; exact itoa_len (by omega) (by omega)
  have HP : Hid (decS n0 ++ { data := #[107, 103] } = bs (Lib.itoa n0 ++ [107, 103])) := Lib.hid (by rw [decS_bs, show ({ data := #[107, 103] } : ByteArray) = bs [107, 103] from rfl, bs_app])
  have HPL : (Lib.itoa n0 ++ [107, 103]).length ≤ 23 := by rw [List.length_append]; have := itoa_len (n := n0) (by omega) (by omega); simp; omega
  obtain ⟨PR, hPR⟩ : ∃ P, P = Lib.itoa n0 ++ [107, 103] := ⟨_, rfl⟩
  rw [← hPR] at HP HPL
  have HPR := Lib.hid hPR
  have HCD := Lib.hid hcd
  clear hF hcd hx1 hx2 hPR
  generalize decS n0 = ds at *
  have hc := l22Ok_any A0b c0b x0b A0t c0t x0t n0 w.heap.size (w.alloc (.cells #[.slice A0b x0b.length c0b, .slice A0t x0t.length c0t, .int .i64 n0] 26)) (hb.al _) (ht.al _) (by go_simp) (by go_simp) (by go_simp)
  rw [hv] at hc
  have hl1 := hb.len63
  have hl2 := ht.len63
  have hbw : Below w.heap.size w (w.alloc (.cells #[.slice A0b x0b.length c0b, .slice A0t x0t.length c0t, .int .i64 n0] 26)) := (Below.refl _ w).alloc (Nat.le_refl _) _
  have q0 : (w.alloc (.cells #[.slice A0b x0b.length c0b, .slice A0t x0t.length c0t, .int .i64 n0] 26)).cell? ⟨w.heap.size, 0, none⟩ = some (.slice A0b x0b.length c0b) := by go_simp
  have q1 : (w.alloc (.cells #[.slice A0b x0b.length c0b, .slice A0t x0t.length c0t, .int .i64 n0] 26)).cell? ⟨w.heap.size, 1, none⟩ = some (.slice A0t x0t.length c0t) := by go_simp
  have q2 : (w.alloc (.cells #[.slice A0b x0b.length c0b, .slice A0t x0t.length c0t, .int .i64 n0] 26)).cell? ⟨w.heap.size, 2, none⟩ = some (.int .i64 n0) := by go_simp
  have kl : w.heap.size < (w.alloc (.cells #[.slice A0b x0b.length c0b, .slice A0t x0t.length c0t, .int .i64 n0] 26)).heap.size := by simp
  have a1 := fun W : World => run_string_add_sum (P := Tryd.prog) W ds { data := #[107, 103] } (by rw [show ByteArray.size { data := #[107, 103] } = 2 from rfl]; omega)
  have HQ0 := Lib.hid q0
  have HQ1 := Lib.hid q1
  have HKL := Lib.hid kl
  have HBW := Lib.hid hbw
  clear q0 q1 q2 kl hv hbw
  go_enter Tryd.func22, Tryd.ntmps22
  go_wp2_with fail
  refine hc.mono ?_
  rintro e w1 ⟨rfl, rfl⟩
  clear hc
  go_wp2_with fail
  refine (HCD.out _).mono ?_
  rintro e w2 ⟨rfl, hb2⟩
  have HB2 := Lib.hid (bthen HBW.out (Nat.le_refl _) hb2)
  have k0 : w2.cell? ⟨w.heap.size, 0, none⟩ = some (.slice A0b x0b.length c0b) := (hb2.cell (p := ⟨w.heap.size, 0, none⟩) HKL.out).trans HQ0.out
  have k1 : w2.cell? ⟨w.heap.size, 1, none⟩ = some (.slice A0t x0t.length c0t) := (hb2.cell (p := ⟨w.heap.size, 1, none⟩) HKL.out).trans HQ1.out
  have kl2 : w.heap.size < w2.heap.size := by have := hb2.size; simp at this; omega
  have hs2 := HB2.out.size
  clear hb2 HQ0 HQ1 HKL HBW HCD
  go_wp2_with fail
  rw [HP.out]
  go_loopw [3, 4] (fun o i wr => ∃ k : Nat, k ≤ x0b.length ∧ i = .int .i64 k ∧ o = .string (bs (PR ++ jt (x0b.take k))) ∧ Hid (Below w2.heap.size w2 wr)) (fun _ i _ => x0b.length - (intOf i).toNat)
  case atStart => exact ⟨0, by omega, rfl, by simp [jt_nil], Lib.hid (Below.refl _ _)⟩
  case round =>
    obtain ⟨k, hk, rfl, rfl, HB⟩ := hrel
    have hsz := HB.out.size
    have HBW := Lib.hid (bthen HB2.out (Nat.le_refl _) HB.out)
    have k0' := (HB.out.cell (p := ⟨w.heap.size, 0, none⟩) kl2).trans k0
    have k1' := (HB.out.cell (p := ⟨w.heap.size, 1, none⟩) kl2).trans k1
    have kl3 : w.heap.size < wr.heap.size := by omega
    have hjl := jt_len (xs := x0b.take k) (fun x hx => HX1.out x (List.mem_of_mem_take hx))
    have hjm : (x0b.take k).length * 22 ≤ 20 * 22 := Nat.mul_le_mul (by rw [List.length_take]; omega) (Nat.le_refl _)
    have hol : (bs (PR ++ jt (x0b.take k))).size ≤ 1000 := by rw [bs_size, List.length_append]; omega
    clear k0 k1 hjl hjm
    by_cases hlt : k < x0b.length
    · obtain ⟨ad, rfl, hab, hcell⟩ := (hb.below HBW.out).int hlt
      have hki : (k : Int) < x0b.length := by omega
      have hxk := HX1.out _ (List.getElem_mem hlt)
      have hd := fun W => l01Dec_any x0b[k] hxk.1 hxk.2 W
      have hdl : (decS x0b[k]).size ≤ 21 := by rw [decS_bs, bs_size]; exact itoa_len hxk.1 hxk.2
      have HS : Hid (bs (PR ++ jt (x0b.take k)) ++ ({ data := #[32] } ++ decS x0b[k]) = bs (PR ++ jt (x0b.take (k + 1)))) := Lib.hid (by
        rw [jt_succ x0b hlt, decS_bs, show ({ data := #[32] } : ByteArray) = bs [32] from rfl, bs_app, bs_app, List.append_assoc])
      obtain ⟨o2, ho2⟩ : ∃ o2, o2 = bs (PR ++ jt (x0b.take (k + 1))) := ⟨_, rfl⟩
      rw [← ho2] at HS
      have HO2 := Lib.hid ho2
      have HDD := Lib.hid hd
      clear hxk hd ho2
      generalize bs (PR ++ jt (x0b.take k)) = o at *
      generalize decS x0b[k] = dk at *
      generalize x0b[k] = xk at *
      have b1 := fun W : World => run_string_add_sum (P := Tryd.prog) W { data := #[32] } dk (by rw [show ByteArray.size { data := #[32] } = 1 from rfl]; omega)
      have b2 := fun W : World => run_string_add_sum (P := Tryd.prog) W o ({ data := #[32] } ++ dk) (by rw [ByteArray.size_append, show ByteArray.size { data := #[32] } = 1 from rfl]; omega)
      go_wp2_with fail
      refine (HDD.out _).mono ?_
      rintro e w3 ⟨rfl, hb3⟩
      have HB3 := Lib.hid (bthen HB.out (Nat.le_refl _) hb3)
      clear hb3
      go_wp2_with fail
      go_roundw
      case rel => exact ⟨k + 1, by omega, by go_num, by rw [HS.out, HO2.out], HB3⟩
      case measure => simp [intOf]; omega
    · obtain rfl : k = x0b.length := by omega
      rw [List.take_of_length_le (Nat.le_refl _)] at hol
      rw [List.take_of_length_le (Nat.le_refl _)]
      have HQ : Hid (bs (PR ++ jt x0b) ++ { data := #[32, 124] } = bs (PR ++ jt x0b ++ [32, 124])) := Lib.hid (by rw [show ({ data := #[32, 124] } : ByteArray) = bs [32, 124] from rfl, bs_app])
      have hql : (PR ++ jt x0b ++ [32, 124]).length ≤ 1002 := by rw [List.length_append, ← bs_size]; simp; omega
      obtain ⟨QR, hQR⟩ : ∃ Q, Q = PR ++ jt x0b ++ [32, 124] := ⟨_, rfl⟩
      rw [← hQR] at HQ hql
      have HQR := Lib.hid hQR
      clear hQR
      generalize bs (PR ++ jt x0b) = o at *
      have b1 := fun W : World => run_string_add_sum (P := Tryd.prog) W o { data := #[32, 124] } (by rw [show ByteArray.size { data := #[32, 124] } = 2 from rfl]; omega)
      obtain ⟨wq, rfl⟩ : ∃ wq : World, wq = wr := ⟨_, rfl⟩
      have hszq := HBW.out.size
      go_wp2_with fail
      rw [HQ.out]
      go_loopw [3, 5] (fun o i wr => ∃ k : Nat, k ≤ x0t.length ∧ i = .int .i64 k ∧ o = .string (bs (QR ++ jt (x0t.take k))) ∧ Hid (Below wq.heap.size wq wr)) (fun _ i _ => x0t.length - (intOf i).toNat)
      case atStart => exact ⟨0, by omega, rfl, by simp [jt_nil], Lib.hid (Below.refl _ _)⟩
      case round =>
        clear b1
        obtain ⟨k, hk, rfl, rfl, HC⟩ := hrel
        have hszc := HC.out.size
        have HBV := Lib.hid (bthen HBW.out (Nat.le_refl _) HC.out)
        have k1'' := (HC.out.cell (p := ⟨w.heap.size, 1, none⟩) kl3).trans k1'
        have kl4 : w.heap.size < wr.heap.size := by omega
        have hjl := jt_len (xs := x0t.take k) (fun x hx => HX2.out x (List.mem_of_mem_take hx))
        have hjm : (x0t.take k).length * 22 ≤ 12 * 22 := Nat.mul_le_mul (by rw [List.length_take]; omega) (Nat.le_refl _)
        have hol2 : (bs (QR ++ jt (x0t.take k))).size ≤ 2000 := by rw [bs_size, List.length_append]; omega
        clear hjl hjm k0' k1'
        by_cases hlt : k < x0t.length
        · obtain ⟨ad, rfl, hab, hcell⟩ := (ht.below HBV.out).int hlt
          have hki : (k : Int) < x0t.length := by omega
          have hxk := HX2.out _ (List.getElem_mem hlt)
          have hd := fun W => l01Dec_any x0t[k] hxk.1 hxk.2 W
          have hdl : (decS x0t[k]).size ≤ 21 := by rw [decS_bs, bs_size]; exact itoa_len hxk.1 hxk.2
          have HS : Hid (bs (QR ++ jt (x0t.take k)) ++ ({ data := #[32] } ++ decS x0t[k]) = bs (QR ++ jt (x0t.take (k + 1)))) := Lib.hid (by
            rw [jt_succ x0t hlt, decS_bs, show ({ data := #[32] } : ByteArray) = bs [32] from rfl, bs_app, bs_app, List.append_assoc])
          obtain ⟨o2, ho2⟩ : ∃ o2, o2 = bs (QR ++ jt (x0t.take (k + 1))) := ⟨_, rfl⟩
          rw [← ho2] at HS
          have HO2 := Lib.hid ho2
          have HDD := Lib.hid hd
          clear hxk hd ho2
          generalize bs (QR ++ jt (x0t.take k)) = o at *
          generalize decS x0t[k] = dk at *
          generalize x0t[k] = xk at *
          have b1 := fun W : World => run_string_add_sum (P := Tryd.prog) W { data := #[32] } dk (by rw [show ByteArray.size { data := #[32] } = 1 from rfl]; omega)
          have b2 := fun W : World => run_string_add_sum (P := Tryd.prog) W o ({ data := #[32] } ++ dk) (by rw [ByteArray.size_append, show ByteArray.size { data := #[32] } = 1 from rfl]; omega)
          go_wp2_with fail
          refine (HDD.out _).mono ?_
          rintro e w3 ⟨rfl, hb3⟩
          have HB3 := Lib.hid (bthen HC.out (Nat.le_refl _) hb3)
          clear hb3
          go_wp2_with fail
          go_roundw
          case rel => exact ⟨k + 1, by omega, by go_num, by rw [HS.out, HO2.out], HB3⟩
          case measure => simp [intOf]; omega
        · obtain rfl : k = x0t.length := by omega
          rw [List.take_of_length_le (Nat.le_refl _)]
          have HE : Hid (bs (QR ++ jt x0t) = FIN) := Lib.hid (by rw [HR.out, HQR.out, HPR.out]; unfold stL; rfl)
          rw [HE.out]
          go_wp2_with fail
          go_ret
          exact ⟨rfl, HBV.out⟩
end Go.Proofs.YtamhkiakplmlmaaDoor
