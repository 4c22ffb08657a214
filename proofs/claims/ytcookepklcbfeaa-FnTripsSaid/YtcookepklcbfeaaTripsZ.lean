/-
  FewestTrips and BestTrips of the program; EvenestTrips of both.
-/
import Derived.Test.YtcookepklcbfeaaTripsX
import Derived.Test.YtcookepklcbfeaaTripsY
import Derived.Test.YtcookepklcbfeaaTripsMax
namespace Go.Proofs.Ytcookepklcbfeaa
open Go.ChangeShapes Go.WideShapes Go.RowKit

theorem best_ok {most : Int} {xs : List Int} (hx : ∀ x ∈ xs, 1 ≤ x ∧ x ≤ most) (hm : 0 ≤ most) : ∃ l, l ∈ lvs most xs [] [] ∧ bestL most xs = ((l.2 : Int), l.1) ∧ (lvs most xs [] []).find? (fun x => x.2 ≤ l.2) = some l := by
  have hne : lvs most xs [] [] ≠ [] := by
    intro e
    have h := (bins_feas (fun x h => by have := hx x h; omega) hm xs.length).1 (Bins.each hx hm _)
    have h2 := (lvs_feas (most := most) (rest := xs) (sums := []) (wh := []) (t := xs.length) (Nat.zero_le _)).2 (by simpa using h)
    obtain ⟨l, hl, _⟩ := h2
    rw [e] at hl
    cases hl
  obtain ⟨l, h1, h2, _, h4⟩ := upd_first hne
  exact ⟨l, h1, h2, h4⟩

set_option maxHeartbeats 800000 in
theorem implFewestTrips_any (A : Option Addr) (c : Nat) (xs : List Int) (most : Int) (w : World) (hr : Rd LI w w.heap.size A c xs) :
    Calls Try.prog 9 #[.slice A xs.length c, .int .i64 most] w fun e w' => e = .returned (.tuple #[.int .i64 (ftP xs most).1, .int .i64 (ftP xs most).2]) ∧ Below w.heap.size w w' := by
  have hc := implValidLoads_any A c xs most w hr
  cases hv : vlB xs most
  · have HP : Hid (ftP xs most = (0, 1)) := Lib.hid (by simp [ftP, hv])
    rw [hv] at hc
    rw [HP.out]
    clear hv HP
    go_enter Try.func9, Try.ntmps9
    go_wp2_with fail
    refine hc.mono ?_
    rintro e w1 ⟨rfl, hb1⟩
    go_wp2_with fail
    go_ret2
    exact ⟨rfl, hb1⟩
  · have HP : Hid (ftP xs most = ((bestL most xs).1, 0)) := Lib.hid (by simp [ftP, hv])
    rw [hv] at hc
    rw [HP.out]
    obtain ⟨⟨hm1, hm2⟩, hl, hx⟩ := vlB_parts hv
    clear hv HP
    go_enter Try.func9, Try.ntmps9
    go_wp2_with fail
    refine hc.mono ?_
    rintro e w1 ⟨rfl, hb1⟩
    have hf := fewestTrips_any A c xs most w1 ((hr.below hb1).more hb1.size) hx (by omega) (by omega) hl
    clear hr hx
    go_wp2_with fail
    refine hf.mono ?_
    rintro e w2 ⟨rfl, hb2⟩
    have HB := Lib.hid (hb1.trans (hb2.mono hb1.size))
    clear hf hb1 hb2
    go_wp2_with fail
    go_ret2
    exact ⟨rfl, HB.out⟩
set_option maxHeartbeats 1600000 in
theorem implBestTrips_any (A : Option Addr) (c : Nat) (xs : List Int) (most : Int) (w : World) (hr : Rd LI w w.heap.size A c xs) :
    Calls Try.prog 7 #[.slice A xs.length c, .int .i64 most] w fun e w' => ∃ A' c', e = .returned (.tuple #[.slice A' (btP xs most).1.length c', .int .i64 (btP xs most).2]) ∧ Own LI 2 w' w.heap.size A' c' (btP xs most).1 ∧ Below w.heap.size w w' := by
  have hc := implValidLoads_any A c xs most w hr
  cases hv : vlB xs most
  · have HP : Hid (btP xs most = ([], 1)) := Lib.hid (by simp [btP, hv])
    rw [hv] at hc
    rw [HP.out]
    clear hv HP
    go_enter Try.func7, Try.ntmps7
    go_wp2_with fail
    refine hc.mono ?_
    rintro e w1 ⟨rfl, hb1⟩
    go_wp2_with fail
    go_ret2
    exact ⟨none, 0, rfl, Own.none_, hb1⟩
  · have HP : Hid (btP xs most = ((bestL most xs).2, 0)) := Lib.hid (by simp [btP, hv])
    rw [hv] at hc
    rw [HP.out]
    obtain ⟨⟨hm1, hm2⟩, hl, hx⟩ := vlB_parts hv
    obtain ⟨l, hl1, hl2, hl3⟩ := best_ok hx (by omega)
    have hT : l.2 ≤ 10 := by have := lvs_le hl1; simp at this; omega
    rw [hl2]
    have HL2 := Lib.hid hl2
    have HL3 := Lib.hid hl3
    clear hv HP hl1 hl2 hl3
    have HX := Lib.hid hx
    clear hx
    go_enter Try.func7, Try.ntmps7
    go_wp2_with fail
    refine hc.mono ?_
    rintro e w1 ⟨rfl, hb1⟩
    have hf := fewestTrips_any A c xs most w1 ((hr.below hb1).more hb1.size) HX.out (by omega) (by omega) hl
    rw [HL2.out] at hf
    go_wp2_with fail
    refine hf.mono ?_
    rintro e w2 ⟨rfl, hb2⟩
    have hb12 := hb1.trans (hb2.mono hb1.size)
    have hd := divide_any A c xs most l.2 HX.out (by omega) hl hT xs.length w2 w2.heap.size none 0 [] none 0 [] (by simp) ((hr.below hb12).more hb12.size) Own.none_ (Nat.le_refl _) (Rd.nil (Nat.zero_le _)) (Nat.zero_le _) (by simp)
    simp only [List.length_nil, List.drop_zero] at hd
    rw [HL3.out] at hd
    simp only [dvR] at hd
    have HB := Lib.hid hb12
    have HS := Lib.hid (hb12.size)
    clear hf hb1 hb2 hb12 hr
    go_wp2_with fail
    refine hd.mono ?_
    rintro e w3 ⟨A', c', rfl, ho, hb3⟩
    have HO := Lib.hid (ho.lower HS.out)
    have HB3 := Lib.hid (HB.out.trans (hb3.mono HS.out))
    clear ho hb3 hd
    go_wp2_with fail
    go_ret2
    exact ⟨A', c', rfl, HO.out, HB3.out⟩

theorem btP_len (xs : List Int) (most : Int) : (btP xs most).1.length ≤ 1048576 := by
  cases hv : vlB xs most
  · simp [btP, hv]
  · obtain ⟨⟨hm1, hm2⟩, hl, hx⟩ := vlB_parts hv
    obtain ⟨l, hl1, hl2, hl3⟩ := best_ok hx (by omega)
    have := lvs_len hl1
    simp only [btP, hv, if_true, hl2]
    simp at this
    omega
/-! EvenestTrips -/
def evH (xs : List Int) (trips : Int) : Nat → Int → Int → Int
  | 0, _, hi => hi
  | n + 1, lo, hi => if 1 < hi - lo then (if (bestL ((lo + hi) / 2) xs).1 ≤ trips then evH xs trips n lo ((lo + hi) / 2) else evH xs trips n ((lo + hi) / 2) hi) else hi
def mx0 (xs : List Int) (k : Nat) : Int := (xs.take k).foldl max 0
theorem mx0_succ (xs : List Int) {k : Nat} (h : k < xs.length) : mx0 xs (k + 1) = max (mx0 xs k) xs[k] := by
  unfold mx0
  rw [List.take_succ_eq_append_getElem h, List.foldl_append]
  rfl
theorem mx0_le (xs : List Int) (M : Int) : mx0 xs xs.length ≤ M ↔ 0 ≤ M ∧ ∀ x ∈ xs, x ≤ M := by
  unfold mx0
  rw [List.take_of_length_le (Nat.le_refl _), foldl_max_le]
theorem mx0_bd {xs : List Int} (h : ∀ x ∈ xs, x ≤ 5000) (k : Nat) : 0 ≤ mx0 xs k ∧ mx0 xs k ≤ 5000 := by
  have e : mx0 xs k = mx0 (xs.take k) (xs.take k).length := by unfold mx0; rw [List.take_of_length_le (l := xs.take k) (Nat.le_refl _)]
  rw [e]
  refine ⟨((mx0_le _ _).1 (Int.le_refl _)).1, (mx0_le _ _).2 ⟨by omega, fun x hx => h x (List.mem_of_mem_take hx)⟩⟩
theorem mx0_mxL {xs : List Int} (hn : 0 < xs.length) (h : ∀ x ∈ xs, 1 ≤ x) : mxL xs xs.length = mx0 xs xs.length := by
  have a := (mxL_le hn (mxL xs xs.length)).1 (Int.le_refl _)
  have h0 := a _ (List.getElem_mem hn)
  have h1 := h _ (List.getElem_mem hn)
  have b := (mx0_le xs (mxL xs xs.length)).2 ⟨by omega, a⟩
  have c := (mxL_le hn (mx0 xs xs.length)).2 ((mx0_le xs (mx0 xs xs.length)).1 (Int.le_refl _)).2
  omega
def evP (xs : List Int) (trips : Int) : Int × Int := if vlB xs 5000 = true then (if inB trips 1 10 = true then (evH xs trips 50001 (mx0 xs xs.length - 1) (sm xs), 0) else (0, 2)) else (0, 1)
theorem evH_yes {xs : List Int} {trips lo hi : Int} {n : Nat} (h : 1 < hi - lo) (hn : hi - lo ≤ n) (hb : (bestL ((lo + hi) / 2) xs).1 ≤ trips) : evH xs trips n lo hi = evH xs trips (n - 1) lo ((lo + hi) / 2) := by
  obtain ⟨m, rfl⟩ : ∃ m, n = m + 1 := ⟨n - 1, by omega⟩
  simp only [evH, if_pos h, if_pos hb, Nat.add_sub_cancel]
theorem evH_no {xs : List Int} {trips lo hi : Int} {n : Nat} (h : 1 < hi - lo) (hn : hi - lo ≤ n) (hb : ¬ (bestL ((lo + hi) / 2) xs).1 ≤ trips) : evH xs trips n lo hi = evH xs trips (n - 1) ((lo + hi) / 2) hi := by
  obtain ⟨m, rfl⟩ : ∃ m, n = m + 1 := ⟨n - 1, by omega⟩
  simp only [evH, if_pos h, if_neg hb, Nat.add_sub_cancel]
theorem evH_end {xs : List Int} {trips lo hi : Int} {n : Nat} (h : ¬ 1 < hi - lo) : evH xs trips n lo hi = hi := by
  cases n <;> simp [evH, h]

set_option maxRecDepth 100000 in
set_option maxHeartbeats 3200000 in
theorem implEvenestTrips_any (A : Option Addr) (c : Nat) (xs : List Int) (trips : Int) (w : World) (hr : Rd LI w w.heap.size A c xs) :
    Calls Try.prog 19 #[.slice A xs.length c, .int .i64 trips] w fun e w' => e = .returned (.tuple #[.int .i64 (evP xs trips).1, .int .i64 (evP xs trips).2]) ∧ Below w.heap.size w w' := by
  have hc := implValidLoads_any A c xs 5000 w hr
  have hlen := hr.len63
  cases hv : vlB xs 5000
  · have HP : Hid (evP xs trips = (0, 1)) := Lib.hid (by simp [evP, hv])
    rw [hv] at hc
    rw [HP.out]
    clear hv HP
    go_enter Try.func19, Try.ntmps19
    go_wp2_with fail
    refine hc.mono ?_
    rintro e w1 ⟨rfl, hb1⟩
    go_wp2_with fail
    go_ret2
    exact ⟨rfl, hb1⟩
  rw [hv] at hc
  obtain ⟨_, hl, hx⟩ := vlB_parts hv
  obtain ⟨hs0, hs1⟩ := vl_sum hv
  cases hi : inB trips 1 10
  · have HP : Hid (evP xs trips = (0, 2)) := Lib.hid (by simp [evP, hv, hi])
    rw [HP.out]
    have hw := fun W => within_any trips 1 10 W
    rw [hi] at hw
    clear hv HP hx hi
    go_enter Try.func19, Try.ntmps19
    go_wp2_with fail
    refine hc.mono ?_
    rintro e w1 ⟨rfl, hb1⟩
    go_wp2_with fail
    refine (hw _).mono ?_
    rintro e w2 ⟨rfl, rfl⟩
    go_wp2_with fail
    go_ret2
    exact ⟨rfl, hb1⟩
  have hw := fun W => within_any trips 1 10 W
  rw [hi] at hw
  have HP : Hid (evP xs trips = (evH xs trips 50001 (mx0 xs xs.length - 1) (sm xs), 0)) := Lib.hid (by simp [evP, hv, hi])
  rw [HP.out]
  clear hv HP
  by_cases hn : xs.length = 0
  · have hx0 : xs = [] := List.length_eq_zero_iff.1 hn
    have HE : Hid (evH xs trips 50001 (mx0 xs xs.length - 1) (sm xs) = 0) := Lib.hid (by rw [hx0, evH_end (by simp [mx0, sm])]; rfl)
    rw [HE.out]
    have hz : ((xs.length : Int) == 0) = true := by rw [beq_iff_eq]; omega
    clear hx hi hx0 hn
    go_enter Try.func19, Try.ntmps19
    go_wp2_with fail
    refine hc.mono ?_
    rintro e w1 ⟨rfl, hb1⟩
    go_wp2_with fail
    refine (hw _).mono ?_
    rintro e w2 ⟨rfl, rfl⟩
    go_wp2_with fail
    go_ret2
    exact ⟨rfl, hb1⟩
  · have hn0 : 0 < xs.length := by omega
    have hz : ((xs.length : Int) == 0) = false := by rw [beq_eq_false_iff_ne]; omega
    obtain ⟨hm0, hm1⟩ := mx0_bd (xs := xs) (fun x h => (hx x h).2) xs.length
    have HM := Lib.hid (mx0_mxL hn0 (fun x h => (hx x h).1))
    have HMX := Lib.hid ((mx0_le xs (mx0 xs xs.length)).1 (Int.le_refl _)).2
    have HX := Lib.hid hx
    obtain ⟨t1, t2⟩ := inB_yes hi
    obtain ⟨FIN, hF⟩ : ∃ F, F = evH xs trips 50001 (mx0 xs xs.length - 1) (sm xs) := ⟨_, rfl⟩
    rw [← hF]
    have HF := Lib.hid hF
    clear hx hi hn hF
    go_enter Try.func19, Try.ntmps19
    go_wp2_with fail
    refine hc.mono ?_
    rintro e w1 ⟨rfl, hb1⟩
    go_wp2_with fail
    refine (hw _).mono ?_
    rintro e w2 ⟨rfl, rfl⟩
    go_wp2_with fail
    refine (slicesMax_any A c xs _ _ ((hr.below hb1).more hb1.size) hn0).mono ?_
    rintro e w2 ⟨rfl, hd2⟩
    rw [HM.out]
    have hb2 : Below w.heap.size w w2 := hb1.trans (hd2.below)
    clear hb1 hd2 hc hw
    generalize mx0 xs xs.length = mx at *
    go_wp2_with fail
    refine (sumOf_any A c xs _ _ (hr.below hb2) (fun x h => by have := HX.out x h; omega) (by omega)).mono ?_
    rintro e w3 ⟨rfl, rfl⟩
    generalize sm xs = SM at *
    go_wp2_with fail
    go_loopw [6, 7] (fun a b wr => ∃ (n : Nat) (lo hi : Int), a = .int .i64 lo ∧ b = .int .i64 hi ∧ mx - 1 ≤ lo ∧ lo ≤ 50000 ∧ hi ≤ 50000 ∧ 0 ≤ hi ∧ hi - lo ≤ n ∧ Hid (FIN = evH xs trips n lo hi) ∧ Below w.heap.size w wr) (fun a b _ => (intOf b - intOf a).toNat)
    case atStart => exact ⟨50001, mx - 1, SM, rfl, rfl, by omega, by omega, by omega, by omega, by omega, HF, hb2⟩
    case round =>
      obtain ⟨n, lo, hi, rfl, rfl, hlo, hlo2, hhi, hh0, hdn, HE, hbel⟩ := hrel
      by_cases hgo : 1 < hi - lo
      · have hmid0 : 0 ≤ lo + hi := by omega
        obtain ⟨mid, hmid⟩ : ∃ m, m = (lo + hi) / 2 := ⟨_, rfl⟩
        have hmid1 : lo < mid := by omega
        have hmid2 : mid < hi := by omega
        have hmid3 : (lo + hi) / 2 = mid := hmid.symm
        have HXm : Hid (∀ x ∈ xs, 1 ≤ x ∧ x ≤ mid) := Lib.hid fun x h => by
          have := HX.out x h
          have := HMX.out x h
          omega
        have hft := fewestTrips_any A c xs mid wr ((hr.below hbel).more hbel.size) HXm.out (by omega) (by omega) hl
        have hsz := hbel.size
        by_cases hle : (bestL mid xs).1 ≤ trips
        · have HE2 : Hid (FIN = evH xs trips (n - 1) lo mid) := Lib.hid (by rw [HE.out, evH_yes hgo hdn (by rw [← hmid]; exact hle), ← hmid])
          generalize (bestL mid xs).1 = fe at *
          clear hmid
          go_wp2_with fail
          refine hft.mono ?_
          rintro e w4 ⟨rfl, hb4⟩
          have HB := Lib.hid (hbel.trans (hb4.mono hsz))
          clear hft hb4 hbel
          go_wp2_with fail
          go_roundw
          case rel => exact ⟨n - 1, lo, mid, rfl, rfl, by omega, by omega, by omega, by omega, by omega, HE2, HB.out⟩
          case measure => simp [intOf]; omega
        · have HE2 : Hid (FIN = evH xs trips (n - 1) mid hi) := Lib.hid (by rw [HE.out, evH_no hgo hdn (by rw [← hmid]; exact hle), ← hmid])
          generalize (bestL mid xs).1 = fe at *
          have hle2 : trips < fe := by omega
          clear hmid
          go_wp2_with fail
          refine hft.mono ?_
          rintro e w4 ⟨rfl, hb4⟩
          have HB := Lib.hid (hbel.trans (hb4.mono hsz))
          clear hft hb4 hbel
          go_wp2_with fail
          go_roundw
          case rel => exact ⟨n - 1, mid, hi, rfl, rfl, by omega, by omega, by omega, by omega, by omega, HE2, HB.out⟩
          case measure => simp [intOf]; omega
      · have HE2 : Hid (FIN = hi) := Lib.hid (by rw [HE.out, evH_end hgo])
        have hgo2 : hi - lo ≤ 1 := by omega
        go_wp2_with fail
        go_ret2
        exact ⟨ret_ii HE2.out.symm rfl, hbel⟩

set_option maxRecDepth 100000 in
set_option maxHeartbeats 3200000 in
theorem specEvenestTrips_any (A : Option Addr) (c : Nat) (xs : List Int) (trips : Int) (w : World) (hr : Rd LI w w.heap.size A c xs) :
    Calls Try.prog 20 #[.slice A xs.length c, .int .i64 trips] w fun e w' => e = .returned (.tuple #[.int .i64 (evP xs trips).1, .int .i64 (evP xs trips).2]) ∧ Below w.heap.size w w' := by
  have hc := l21Ok_any A c xs 5000 w hr
  have hlen := hr.len63
  cases hv : vlB xs 5000
  · have HP : Hid (evP xs trips = (0, 1)) := Lib.hid (by simp [evP, hv])
    rw [hv] at hc
    rw [HP.out]
    clear hv HP
    go_enter Try.func20, Try.ntmps20
    go_wp2_with fail
    refine hc.mono ?_
    rintro e w1 ⟨rfl, hb1⟩
    go_wp2_with fail
    go_ret2
    exact ⟨rfl, hb1⟩
  rw [hv] at hc
  obtain ⟨_, hl, hx⟩ := vlB_parts hv
  obtain ⟨hs0, hs1⟩ := vl_sum hv
  have hw := fun W => l00In_any trips 1 10 W
  cases hi : inB trips 1 10
  · have HP : Hid (evP xs trips = (0, 2)) := Lib.hid (by simp [evP, hv, hi])
    rw [HP.out]
    rw [hi] at hw
    clear hv HP hx hi
    go_enter Try.func20, Try.ntmps20
    go_wp2_with fail
    refine hc.mono ?_
    rintro e w1 ⟨rfl, hb1⟩
    go_wp2_with fail
    refine (hw _).mono ?_
    rintro e w2 ⟨rfl, rfl⟩
    go_wp2_with fail
    go_ret2
    exact ⟨rfl, hb1⟩
  rw [hi] at hw
  have HP : Hid (evP xs trips = (evH xs trips 50001 (mx0 xs xs.length - 1) (sm xs), 0)) := Lib.hid (by simp [evP, hv, hi])
  rw [HP.out]
  obtain ⟨t1, t2⟩ := inB_yes hi
  have HMB := Lib.hid (mx0_bd (xs := xs) (fun x h => (hx x h).2))
  have HMX := Lib.hid ((mx0_le xs (mx0 xs xs.length)).1 (Int.le_refl _)).2
  have HX := Lib.hid hx
  have HSB := Lib.hid (sm_take_bd (xs := xs) (fun x h => by have := hx x h; omega))
  obtain ⟨FIN, hF⟩ : ∃ F, F = evH xs trips 50001 (mx0 xs xs.length - 1) (sm xs) := ⟨_, rfl⟩
  rw [← hF]
  have HF := Lib.hid hF
  clear hv HP hi hx hF
  go_enter Try.func20, Try.ntmps20
  go_wp2_with fail
  refine hc.mono ?_
  rintro e w1 ⟨rfl, hb1⟩
  go_wp2_with fail
  refine (hw _).mono ?_
  rintro e w2 ⟨rfl, rfl⟩
  go_wp2_with fail
  go_loop [6, 7, 8] (fun a b i => ∃ k : Nat, k ≤ xs.length ∧ i = .int .i64 k ∧ a = .int .i64 (mx0 xs k) ∧ b = .int .i64 (sm (xs.take k))) (fun _ _ i => xs.length - (intOf i).toNat)
  case atStart => exact ⟨0, by omega, rfl, rfl, rfl⟩
  case round =>
    obtain ⟨k, hk, rfl, rfl, rfl⟩ := hrel
    obtain ⟨m0, m1⟩ := HMB.out k
    obtain ⟨s0, s1⟩ := HSB.out k
    by_cases hlt : k < xs.length
    · obtain ⟨ad, rfl, hab, hcell⟩ := (hr.below hb1).int hlt
      obtain ⟨x1, x2⟩ := HX.out _ (List.getElem_mem hlt)
      have HM2 := Lib.hid (mx0_succ xs hlt)
      have HS2 := Lib.hid (sm_succ xs hlt)
      generalize xs[k] = x at *
      generalize mx0 xs k = m at *
      generalize sm (xs.take k) = s at *
      have hwr : IntKind.i64.wrap (s + x) = s + x := wrapS (by omega) (by omega)
      go_wp2_with fail
      refine (l00Max_any m x _).mono ?_
      rintro e w2 ⟨rfl, rfl⟩
      go_wp2_with fail
      go_round
      case rel => exact ⟨k + 1, by omega, by go_num, by rw [HM2.out], by rw [HS2.out]⟩
      case measure => simp [intOf]; omega
    · have hk2 : k = xs.length := by omega
      subst hk2
      have HK : Hid (xs.take xs.length = xs) := Lib.hid (List.take_of_length_le (by omega))
      rw [HK.out]
      rw [HK.out] at s0 s1
      generalize mx0 xs xs.length = mx at *
      generalize sm xs = SM at *
      go_wp2_with fail
      go_loopw [6, 9] (fun a b wr => ∃ (n : Nat) (lo hi : Int), a = .int .i64 lo ∧ b = .int .i64 hi ∧ mx - 1 ≤ lo ∧ lo ≤ 50000 ∧ hi ≤ 50000 ∧ 0 ≤ hi ∧ hi - lo ≤ n ∧ Hid (FIN = evH xs trips n lo hi) ∧ Below w.heap.size w wr) (fun a b _ => (intOf b - intOf a).toNat)
      case atStart => exact ⟨50001, mx - 1, SM, rfl, rfl, by omega, by omega, by omega, by omega, by omega, HF, hb1⟩
      case round =>
        obtain ⟨n, lo, hi, rfl, rfl, hlo, hlo2, hhi, hh0, hdn, HE, hbel⟩ := hrel
        by_cases hgo : 1 < hi - lo
        · have hmid0 : 0 ≤ lo + hi := by omega
          obtain ⟨mid, hmid⟩ : ∃ m, m = (lo + hi) / 2 := ⟨_, rfl⟩
          have hmid1 : lo < mid := by omega
          have hmid2 : mid < hi := by omega
          have hmid3 : (lo + hi) / 2 = mid := hmid.symm
          have HXm : Hid (∀ x ∈ xs, 1 ≤ x ∧ x ≤ mid) := Lib.hid fun x h => by
            have := HX.out x h
            have := HMX.out x h
            omega
          have hft := l21Best_any A c xs mid wr ((hr.below hbel).more hbel.size) HXm.out (by omega) hl
          have hsz := hbel.size
          by_cases hle : (bestL mid xs).1 ≤ trips
          · have HE2 : Hid (FIN = evH xs trips (n - 1) lo mid) := Lib.hid (by rw [HE.out, evH_yes hgo hdn (by rw [← hmid]; exact hle), ← hmid])
            clear hmid
            go_wp2_with fail
            refine hft.mono ?_
            rintro e w4 ⟨As, cs, Aw, cw, Ab, cb, rfl, hT, hb4⟩
            have k5 := hT.c5
            have HB := Lib.hid (hbel.trans (hb4.mono hsz))
            clear hft hb4 hbel hT
            generalize (bestL mid xs).1 = fe at *
            go_wp2_with fail
            go_roundw
            case rel => exact ⟨n - 1, lo, mid, rfl, rfl, by omega, by omega, by omega, by omega, by omega, HE2, HB.out⟩
            case measure => simp [intOf]; omega
          · have HE2 : Hid (FIN = evH xs trips (n - 1) mid hi) := Lib.hid (by rw [HE.out, evH_no hgo hdn (by rw [← hmid]; exact hle), ← hmid])
            have hle2 : trips < (bestL mid xs).1 := by omega
            clear hmid
            go_wp2_with fail
            refine hft.mono ?_
            rintro e w4 ⟨As, cs, Aw, cw, Ab, cb, rfl, hT, hb4⟩
            have k5 := hT.c5
            have HB := Lib.hid (hbel.trans (hb4.mono hsz))
            clear hft hb4 hbel hT
            generalize (bestL mid xs).1 = fe at *
            go_wp2_with fail
            go_roundw
            case rel => exact ⟨n - 1, mid, hi, rfl, rfl, by omega, by omega, by omega, by omega, by omega, HE2, HB.out⟩
            case measure => simp [intOf]; omega
        · have HE2 : Hid (FIN = hi) := Lib.hid (by rw [HE.out, evH_end hgo])
          have hgo2 : hi - lo ≤ 1 := by omega
          go_wp2_with fail
          go_ret2
          exact ⟨ret_ii HE2.out.symm rfl, hbel⟩
end Go.Proofs.Ytcookepklcbfeaa
