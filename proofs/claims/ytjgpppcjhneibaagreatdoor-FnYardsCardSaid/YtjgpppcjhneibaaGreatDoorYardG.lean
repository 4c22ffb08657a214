/-
  Yards: MovePack.
-/
import Derived.Test.YtjgpppcjhneibaaGreatDoorYardF
namespace Go.Proofs.YtjgpppcjhneibaaGreatDoor
open Go.ChangeShapes Go.WideShapes Go.RowKit

theorem RdR.drew {α : Type} {Li : Lay α} {w : World} {B c : Nat} {A : Option Addr} {rs : List (Row α)} (h : RdR Li w B A c rs) : RdR Li w.drew B A c rs := ⟨h.out.drew, fun r hr => (h.inn r hr).drew⟩
theorem OwnR.drew {α : Type} {Li : Lay α} {T1 T2 : TypeId} {w : World} {base c : Nat} {A : Option Addr} {rs : List (Row α)} (h : OwnR Li T1 T2 w base A c rs) : OwnR Li T1 T2 w.drew base A c rs := h.dr
theorem OwnR.alloc {α : Type} {Li : Lay α} {T1 T2 : TypeId} {w : World} {base c : Nat} {A : Option Addr} {rs : List (Row α)} (h : OwnR Li T1 T2 w base A c rs) (o : Obj) : OwnR Li T1 T2 (w.alloc o) base A c rs := h.al o
theorem nil_of {α : Type} {Li : Lay α} {T1 T2 : TypeId} {w : World} {base c : Nat} {A : Option Addr} {s : List (Row α)} (h : OwnR Li T1 T2 w base A c s) : ∀ r ∈ s, r.1 = none → r.2.1 = 0 := fun r hr e => by
  rcases (h.inn r hr).parts with ⟨_, _, h⟩ | ⟨g, _, h, _⟩
  · exact h
  · rw [h] at e; cases e
noncomputable def mpP (X : List (List Int)) (f t : Int) : List (List Int) × Int := if vyB X = true then (if mvOk X f t = true then (mvX X f t, 0) else ([], 6)) else ([], 1)
theorem topL_row_len (X : List (List Int)) (f t : Int) (i : Nat) : (mvRow X f t i).length ≤ (X.getD i []).length + 1 := by
  unfold mvRow
  split
  · simp; omega
  · split
    · simp
    · omega
theorem tlL_le {X : List (List Int)} {n m : Nat} (h : ∀ r ∈ X, r.length ≤ n) (hm : X.length ≤ m) : tlL X ≤ m * n := by
  have : tlL X ≤ X.length * n := by
    clear hm
    induction X with
    | nil => simp [tlL]
    | cons r X ih =>
      have := ih fun s hs => h s (List.mem_cons_of_mem _ hs)
      have := h r (List.mem_cons_self ..)
      simp only [tlL, List.length_cons, Nat.add_mul]
      omega
  exact Nat.le_trans this (Nat.mul_le_mul_right _ hm)
theorem vy_rows {X : List (List Int)} (h : vyB X = true) : X.length ≤ 4 ∧ ∀ r ∈ X, r.length ≤ 6 := by
  have hv := dB_true h
  refine ⟨hv.1.2, fun r hr => ?_⟩
  have h1 := hv.2.1
  have : r.length ≤ X.flatten.length := by
    clear h1 hv h
    induction X with
    | nil => cases hr
    | cons a X ih =>
      rw [List.flatten_cons, List.length_append]
      rcases List.mem_cons.1 hr with rfl | hr
      · omega
      · have := ih hr; omega
  omega
theorem mpP_tl (X : List (List Int)) (f t : Int) : tlL (mpP X f t).1 ≤ 1048576 := by
  unfold mpP
  split
  · rename_i hv
    obtain ⟨h1, h2⟩ := vy_rows hv
    split
    · have := tlL_le (X := mvX X f t) (n := 7) (m := 4) (fun r hr => by
        obtain ⟨i, hi, rfl⟩ := List.mem_map.1 hr
        have h3 := topL_row_len X f t i
        have h4 : (X.getD i []).length ≤ 6 := by
          rw [getD_lt X [] (List.mem_range.1 hi)]
          exact h2 _ (List.getElem_mem _)
        omega) (by rw [mvX_len]; exact h1)
      simp only
      omega
    · simp [tlL]
  · simp [tlL]
theorem row_bd {rs : List (Row Int)} (h : tlL (dat rs) ≤ 1048576) : ∀ r ∈ rs, r.2.2.length ≤ 1048576 := by
  intro r hr
  have h2 : r.2.2.length ≤ tlL (dat rs) := by
    clear h
    induction rs with
    | nil => cases hr
    | cons a rs ih =>
      simp only [dat, List.map_cons, tlL]
      rcases List.mem_cons.1 hr with rfl | hr
      · omega
      · have := ih hr
        simp only [dat] at this
        omega
  omega

set_option maxRecDepth 100000 in
set_option maxHeartbeats 3200000 in
theorem implMovePack_any (A : Option Addr) (c : Nat) (rs : List (Row Int)) (f t : Int) (w : World) (hr : RdR LI w w.heap.size A c rs) (hn : tlL (dat rs) ≤ 1048576) (_hnil : ∀ r ∈ rs, r.1 = none → r.2.1 = 0) (hf64 : I64 f) (ht64 : I64 t) :
    Calls Tryz.prog 17 #[.slice A rs.length c, .agg #[.int .i64 f, .int .i64 t]] w fun e w' => ∃ A1 c1 os, e = .returned (.tuple #[.slice A1 os.length c1, .int .i64 (mpP (dat rs) f t).2]) ∧ OwnR LI 32 2 w' w.heap.size A1 c1 os ∧ dat os = (mpP (dat rs) f t).1 ∧ Below w.heap.size w w' := by
  have hlen := hr.len63
  have hc := fun W h => implValidYard_any A c rs W h hn
  obtain ⟨FIN, hF⟩ : ∃ F, F = mpP (dat rs) f t := ⟨_, rfl⟩
  rw [← hF]
  have HR0 := Lib.hid (hr.al (.cells #[.int .i64 f, .int .i64 t] 41))
  have HB0 : Hid (Below w.heap.size w (w.alloc (.cells #[.int .i64 f, .int .i64 t] 41))) := Lib.hid ((Below.refl _ w).alloc (Nat.le_refl _) _)
  cases hv : vyB (dat rs)
  · have HR : Hid (FIN = ([], 1)) := Lib.hid (by rw [hF]; unfold mpP; rw [if_neg (by simp [hv])])
    rw [hv] at hc
    clear hF hv
    go_enter Tryz.func17, Tryz.ntmps17
    go_wp2_with fail
    refine (hc _ HR0.out).mono ?_
    rintro e w1 ⟨rfl, hb1⟩
    have HB1 := Lib.hid (bthen HB0.out (Nat.le_refl _) hb1)
    clear hb1
    go_wp2_with fail
    go_ret2
    exact ⟨none, 0, [], by rw [HR.out]; rfl, OwnR.none_, by rw [HR.out]; rfl, HB1.out⟩
  · have HV : Hid (FIN = if mvOk (dat rs) f t = true then (mvX (dat rs) f t, 0) else ([], 6)) := Lib.hid (by rw [hF]; unfold mpP; rw [if_pos hv])
    have hr4 : rs.length ≤ 4 := by have := (vy_rows hv).1; rw [dat_len] at this; exact this
    rw [hv] at hc
    have HK0 : Hid ((w.alloc (.cells #[.int .i64 f, .int .i64 t] 41)).cell? ⟨w.heap.size, 0, none⟩ = some (.int .i64 f)) := Lib.hid (by go_simp)
    have HK1 : Hid ((w.alloc (.cells #[.int .i64 f, .int .i64 t] 41)).cell? ⟨w.heap.size, 1, none⟩ = some (.int .i64 t)) := Lib.hid (by go_simp)
    have hrb := row_bd hn
    have HRB := Lib.hid hrb
    clear hF hv hrb
    go_enter Tryz.func17, Tryz.ntmps17
    go_wp2_with fail
    refine (hc _ HR0.out).mono ?_
    rintro e w1 ⟨rfl, hb1⟩
    have HB1 := Lib.hid (bthen HB0.out (Nat.le_refl _) hb1)
    have k0 := (hb1.cell (p := ⟨w.heap.size, 0, none⟩) (by simp)).trans HK0.out
    have k1 := (hb1.cell (p := ⟨w.heap.size, 1, none⟩) (by simp)).trans HK1.out
    have hz1 := HB1.out.size
    have hg1 : w.heap.size < w1.heap.size := by have := hb1.size; simp at this; omega
    have hmv := movePack_any A c rs f t w1 ((hr.below HB1.out).more hz1) (by omega) HRB.out ht64 hf64
    clear hb1 hc
    go_wp2_with fail
    refine hmv.mono ?_
    intro e w2 hm
    unfold MvR at hm
    cases hok : mvOk (dat rs) f t
    · rw [if_neg (by simp [hok])] at hm
      obtain ⟨rfl, hb2⟩ := hm
      have HR : Hid (FIN = ([], 6)) := Lib.hid (by rw [HV.out, hok]; rfl)
      have HB2 := Lib.hid (bthen HB1.out (Nat.le_refl _) hb2)
      clear hmv hb2 hok
      go_wp2_with fail
      go_ret2
      exact ⟨none, 0, [], by rw [HR.out]; rfl, OwnR.none_, by rw [HR.out]; rfl, HB2.out⟩
    · rw [if_pos hok] at hm
      obtain ⟨A1, c1, os, rfl, ho, hd, hb2⟩ := hm
      have HR : Hid (FIN = (mvX (dat rs) f t, 0)) := Lib.hid (by rw [HV.out, if_pos hok])
      have HB2 := Lib.hid (bthen HB1.out (Nat.le_refl _) hb2)
      have HO := Lib.hid (ho.lower hz1)
      have HD := Lib.hid hd
      clear hmv hb2 hok ho hd
      go_wp2_with fail
      go_ret2
      exact ⟨A1, c1, os, by rw [HR.out]; rfl, HO.out, by rw [HR.out]; exact HD.out, HB2.out⟩
end Go.Proofs.YtjgpppcjhneibaaGreatDoor
