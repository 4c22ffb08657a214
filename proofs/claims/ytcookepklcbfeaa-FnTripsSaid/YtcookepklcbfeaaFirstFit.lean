/-
  FirstFitTrips: both functions return the same.
-/
import Derived.Test.YtcookepklcbfeaaLeastTrips
import Derived.RegionTactic
import Derived.BigRegion
namespace Go.Proofs.Ytcookepklcbfeaa
open Go.ChangeShapes Go.WideShapes Go.RowKit

/-- the first trip that can take x; the number of trips, if none can -/
def ffT (most : Int) (sums : List Int) (x : Int) : Nat := sums.findIdx fun s => decide (s + x ≤ most)
def ffS (most : Int) (sums : List Int) (x : Int) : List Int := if h : ffT most sums x < sums.length then sums.set (ffT most sums x) (sums[ffT most sums x] + x) else sums ++ [x]
def ffStep (most : Int) (st : List Int × List Int) (x : Int) : List Int × List Int := (st.1 ++ [(ffT most st.2 x : Int)], ffS most st.2 x)
def ffGo (most : Int) (xs : List Int) : List Int × List Int := xs.foldl (ffStep most) ([], [])
theorem ffGo_succ (most : Int) (xs : List Int) {k : Nat} (h : k < xs.length) : ffGo most (xs.take (k + 1)) = ffStep most (ffGo most (xs.take k)) xs[k] := by
  unfold ffGo
  rw [List.take_succ_eq_append_getElem h, List.foldl_append]
  rfl
theorem ffStep_ok {most : Int} {st : List Int × List Int} {x : Int} {k : Nat} (h : st.1.length = k ∧ st.2.length ≤ k ∧ ∀ s ∈ st.2, 1 ≤ s ∧ s ≤ most) (hx : 1 ≤ x ∧ x ≤ most) :
    (ffStep most st x).1.length = k + 1 ∧ (ffStep most st x).2.length ≤ k + 1 ∧ ∀ s ∈ (ffStep most st x).2, 1 ≤ s ∧ s ≤ most := by
  obtain ⟨h1, h2, h3⟩ := h
  refine ⟨by simp [ffStep, h1], ?_, ?_⟩
  · simp only [ffStep, ffS]
    split <;> simp <;> omega
  · simp only [ffStep, ffS]
    split
    · rename_i hlt
      intro s hs
      rcases List.mem_or_eq_of_mem_set hs with hs | rfl
      · exact h3 s hs
      · have h4 := h3 _ (List.getElem_mem hlt)
        have h5 : st.2[ffT most st.2 x] + x ≤ most := by
          have := List.findIdx_getElem (xs := st.2) (p := fun s => decide (s + x ≤ most)) (w := hlt)
          exact of_decide_eq_true this
        omega
    · intro s hs
      rcases List.mem_append.1 hs with hs | hs
      · exact h3 s hs
      · simp at hs; subst hs; exact hx
theorem ffGo_ok (most : Int) (xs : List Int) (h : ∀ x ∈ xs, 1 ≤ x ∧ x ≤ most) (k : Nat) (hk : k ≤ xs.length) :
    (ffGo most (xs.take k)).1.length = k ∧ (ffGo most (xs.take k)).2.length ≤ k ∧ ∀ s ∈ (ffGo most (xs.take k)).2, 1 ≤ s ∧ s ≤ most := by
  induction k with
  | zero => simp [ffGo]
  | succ k ih =>
    rw [ffGo_succ most xs (by omega)]
    exact ffStep_ok (ih (by omega)) (h xs[k] (List.getElem_mem _))
theorem fIdx_find {α : Type} (p : α → Bool) (xs : List α) : fIdx p xs = if xs.findIdx p < xs.length then (xs.findIdx p : Int) else -1 := by
  unfold fIdx
  cases h : xs.findIdx? p with
  | none =>
    rw [List.findIdx?_eq_none_iff] at h
    have : xs.findIdx p = xs.length := List.findIdx_eq_length.2 h
    simp [this]
  | some i =>
    rw [List.findIdx?_eq_some_iff_findIdx_eq] at h
    simp [h.2, h.1]

theorem ffStep_hit {most : Int} {st : List Int × List Int} {x : Int} {t : Nat} (ht : t = st.2.findIdx fun s => decide (s + x ≤ most)) (hlt : t < st.2.length) : ffStep most st x = (st.1 ++ [(t : Int)], st.2.set t (st.2[t] + x)) := by
  have ht' : ffT most st.2 x = t := ht.symm
  simp only [ffStep, ffS, ht']
  rw [dif_pos hlt]
theorem ffStep_miss {most : Int} {st : List Int × List Int} {x : Int} (h : ¬ (st.2.findIdx fun s => decide (s + x ≤ most)) < st.2.length) : ffStep most st x = (st.1 ++ [(st.2.length : Int)], st.2 ++ [x]) := by
  have ht' : ffT most st.2 x = st.2.length := by
    have := List.findIdx_le_length (p := fun s => decide (s + x ≤ most)) (xs := st.2)
    unfold ffT; omega
  simp only [ffStep, ffS, ht']
  rw [dif_neg (by omega)]
def ffP (xs : List Int) (most : Int) : List Int × Int := if vlB xs most = true then ((ffGo most xs).1, 0) else ([], 1)
theorem ffP_len (xs : List Int) (most : Int) : (ffP xs most).1.length ≤ 1048576 := by
  unfold ffP
  split
  · rename_i h
    obtain ⟨_, h2, h3⟩ := vlB_parts h
    have := (ffGo_ok most xs h3 xs.length (Nat.le_refl _)).1
    rw [List.take_of_length_le (Nat.le_refl _)] at this
    show (ffGo most xs).1.length ≤ _
    omega
  · simp

theorem firstFit1_any (s load most : Int) (b1 b2 : Nat) (w : World) (h1 : w.cell? ⟨b1, 0, none⟩ = some (.int .i64 load)) (h2 : w.cell? ⟨b2, 0, none⟩ = some (.int .i64 most))
    (hs : 0 ≤ s ∧ s ≤ 100000) (hl : 0 ≤ load ∧ load ≤ 100000) :
    Calls Try.prog 42 #[.int .i64 s, .pointer (some ⟨b1, 0, none⟩), .pointer (some ⟨b2, 0, none⟩)] w fun e w' => e = .returned (.bool (decide (s + load ≤ most))) ∧ w = w' := by
  obtain ⟨hs1, hs2⟩ := hs
  obtain ⟨hl1, hl2⟩ := hl
  go_enter Try.func42, Try.ntmps42
  go_wp2_with fail
  go_ret
  exact ⟨rfl, rfl⟩
theorem eg_firstFit1 : ∀ args w, (callFunc 42 args).run Try.prog w = .ok (.enter 42 args) w := by
  intro args w
  kernel_rfl

set_option maxHeartbeats 400000 in
theorem implFirstFitTrips_any (A : Option Addr) (c : Nat) (xs : List Int) (most : Int) (w : World) (hr : Rd LI w w.heap.size A c xs) :
    Calls Try.prog 11 #[.slice A xs.length c, .int .i64 most] w fun e w' => ∃ A' c', e = .returned (.tuple #[.slice A' (ffP xs most).1.length c', .int .i64 (ffP xs most).2]) ∧ Own LI 2 w' w.heap.size A' c' (ffP xs most).1 ∧ Below w.heap.size w w' := by
  have hlen := hr.len63
  have hc := fun w' hr' => implValidLoads_any A c xs most w' hr'
  cases hv : vlB xs most
  · have HP : Hid (ffP xs most = ([], 1)) := Lib.hid (by simp [ffP, hv])
    rw [hv] at hc
    rw [HP.out]
    clear hv HP
    go_enter Try.func11, Try.ntmps11
    go_wp2_with fail
    refine (hc _ ((hr.alloc (Nat.le_refl _) _).more (by simp))).mono ?_
    rintro e w1 ⟨rfl, hb1⟩
    go_wp2_with fail
    go_ret2
    refine ⟨none, 0, rfl, Own.none_, ((Below.refl _ _).alloc (Nat.le_refl _) _).trans (hb1.mono (by simp))⟩
  · have HP : Hid (ffP xs most = ((ffGo most xs).1, 0)) := Lib.hid (by simp [ffP, hv])
    rw [hv] at hc
    rw [HP.out]
    obtain ⟨⟨hm1, hm2⟩, hl, hx⟩ := vlB_parts hv
    clear hv HP
    go_enter Try.func11, Try.ntmps11
    go_wp2_with fail
    refine (hc _ ((hr.alloc (Nat.le_refl _) _).more (by simp))).mono ?_
    rintro e w1 ⟨rfl, hb1⟩
    have hmost : w1.cell? ⟨w.heap.size, 0, none⟩ = some (.int .i64 most) := by
      rw [hb1.cell (by simp)]; go_simp
    go_wp2_with fail
    have hb2 : Below (w.heap.size + 1) (w.alloc (.cells #[.int .i64 most] 2)) ((w1.alloc (.cells #[] 2)).alloc (.cells #[] 2)) := by
      have h1 := hb1.size
      simp at h1
      exact ((hb1.mono (by simp)).alloc (by omega) _).alloc (by simp; omega) _
    have hsz1 : w.heap.size + 1 ≤ w1.heap.size := by have := hb1.size; simpa using this
    go_loopw [6, 7, 19] (fun a b i wr => ∃ (k : Nat) (A1 A2 : Option Addr) (c1 c2 : Nat), k ≤ xs.length ∧ i = .int .i64 k ∧ a = .slice A1 (ffGo most (xs.take k)).1.length c1 ∧ b = .slice A2 (ffGo most (xs.take k)).2.length c2 ∧
        Own LI 2 wr (w.heap.size + 1) A1 c1 (ffGo most (xs.take k)).1 ∧ Own LI 2 wr (w.heap.size + 1) A2 c2 (ffGo most (xs.take k)).2 ∧ Ap A1 A2 ∧ Below (w.heap.size + 1) (w.alloc (.cells #[.int .i64 most] 2)) wr) (fun _ _ i _ => xs.length - (intOf i).toNat)
    case atStart =>
      refine ⟨0, _, _, _, _, by omega, rfl, rfl, rfl, (Own.lit0 w1 hsz1 rfl).alloc _, Own.lit0 (w1.alloc (.cells #[] 2)) (by simp; omega) (by simp), ?_, hb2⟩
      intro g h1 h2
      simp [blk] at h1 h2
      omega
    case round =>
      obtain ⟨k, A1, A2, c1, c2, hk, rfl, rfl, rfl, ho1, ho2, hap, hbel⟩ := hrel
      have hsz := hbel.size
      simp at hsz
      by_cases hlt : k < xs.length
      · obtain ⟨ad, rfl, hab, hcell⟩ := ((((hr.alloc (Nat.le_refl _) _).more (by simp)).below hbel : Rd LI wr (w.heap.size + 1) A c xs)).int hlt
        have hok := ffGo_ok most xs hx k hk
        have HS := Lib.hid (ffGo_succ most xs hlt)
        generalize hst : ffGo most (xs.take k) = st at *
        go_wp2_with fail
        have hload : ∀ W : World, Below (wr.heap.size + 1) (wr.alloc (.cells #[.int .i64 xs[k]] 2)) W → W.cell? ⟨wr.heap.size, 0, none⟩ = some (.int .i64 xs[k]) := by
          intro W hW
          rw [hW.cell (by simp)]; go_simp
        have hmost' : ∀ W : World, Below (wr.heap.size + 1) (wr.alloc (.cells #[.int .i64 xs[k]] 2)) W → W.cell? ⟨w.heap.size, 0, none⟩ = some (.int .i64 most) := by
          intro W hW
          rw [hW.cell (by simp; omega), World.cell?_alloc_lt _ _ _ (by simp; omega), hbel.cell (by simp)]; go_simp
        have hcall := fun W hr' hp => indexFunc_any A2 c2 st.2 42 #[.pointer (some ⟨wr.heap.size, 0, none⟩), .pointer (some ⟨w.heap.size, 0, none⟩)] (fun s => decide (s + xs[k] ≤ most)) (wr.heap.size + 1) W hr' hp
        rw [fIdx_find] at hcall
        have hxk := hx _ (List.getElem_mem hlt)
        have hask : AskF Try.prog 42 #[.pointer (some ⟨wr.heap.size, 0, none⟩), .pointer (some ⟨w.heap.size, 0, none⟩)] (wr.heap.size + 1) (wr.alloc (.cells #[.int .i64 xs[k]] 2)) st.2 (fun s => decide (s + xs[k] ≤ most)) := by
          refine ⟨eg_firstFit1, fun s hs W hW => ?_⟩
          refine (firstFit1_any s xs[k] most _ _ W (hload W hW) (hmost' W hW) (by have := hok.2.2 s hs; omega) (by omega)).mono ?_
          rintro e W' ⟨rfl, rfl⟩
          exact ⟨rfl, Below.refl _ _⟩
        have ho2' : Own LI 2 (wr.alloc (.cells #[.int .i64 xs[k]] 2)) (w.heap.size + 1) A2 c2 st.2 := ho2.alloc _
        have hcall' := hcall _ (by simp) (ho2'.rd.more (by simp)) hask
        have hb3 : Below (w.heap.size + 1) (w.alloc (.cells #[.int .i64 most] 2)) (wr.alloc (.cells #[.int .i64 xs[k]] 2)) := hbel.alloc (by omega) _
        have hmem := hok.2.2
        have HMost := Lib.hid hmost'
        have HLoad := Lib.hid hload
        clear hcall hask hmost' hload
        by_cases hft : st.2.findIdx (fun s => decide (s + xs[k] ≤ most)) < st.2.length
        · rw [if_pos hft] at hcall'
          obtain ⟨t, ht⟩ : ∃ t, t = st.2.findIdx (fun s => decide (s + xs[k] ≤ most)) := ⟨_, rfl⟩
          rw [← ht] at hft hcall'
          have HF := Lib.hid (ffStep_hit ht hft)
          clear ht
          refine hcall'.mono ?_
          rintro e w2 ⟨rfl, hb4⟩
          have hs2 := hb4.size
          simp at hs2
          have ho1'' := (ho1.alloc (.cells #[.int .i64 xs[k]] 2)).keep hb4 (fun g hg => by have := (ho1.blk_lt g hg).2; omega)
          have ho2'' := ho2'.keep hb4 (fun g hg => by have := (ho2.blk_lt g hg).2; omega)
          obtain ⟨g, rfl, hbg, hgl, hcg, hfg⟩ := ho2''.int hft
          have hcl := HLoad.out w2 hb4
          have hft' : (t : Int) < st.2.length := by omega
          have hmt := hmem _ (List.getElem_mem hft)
          have hsl := hok.2.1
          have hsl1 : st.1.length ≤ 10 := by have := hok.1; omega
          clear hcall' ho2' hok hmem
          go_wp2_with fail
          go_region
          have ho2''' := ho2''.setInt t (st.2[t] + xs[k])
          have ho1''' := ho1''.setFar (p := ⟨g, t, none⟩) (fun e => hap g e rfl) (.int .i64 (st.2[t] + xs[k]))
          go_wp2_with (at_builtin; go_loud (refine wpL_app1d (L := LI) rowI rfl rfl _ _ rfl rfl ho1''' (t : Int) _ rfl rfl (by simp) (by unfold maxLen; omega) (by omega) (by simp; omega) ?_); intro A4 c4 w4 ho4 hg4)
          have hb5 : Below (w.heap.size + 1) (w.alloc (.cells #[.int .i64 most] 2)) (w2.setCell ⟨g, t, none⟩ (.int .i64 (st.2[t] + xs[k]))) := (hb3.trans (hb4.mono (by omega))).setCell hbg _
          have hk5 := hg4.own ho2''' fun g' h1 h2 => hap g' h2 h1
          go_roundw
          case rel =>
            have E := HS.out.trans HF.out
            refine ⟨k + 1, A4, _, c4, c2, by omega, by go_num, by rw [E]; simp, by rw [E]; simp, by rw [E]; exact ho4, by rw [E]; exact hk5.1, Ap.symm hk5.2, Grew.below hb5 hg4 (by simp; omega) fun g' hg' => ?_⟩
            exact (ho1.blk_lt g' hg').1
          case measure => simp [intOf]; omega
        · rw [if_neg hft] at hcall'
          have HF := Lib.hid (ffStep_miss hft)
          have Hft := Lib.hid hft
          clear hft
          refine hcall'.mono ?_
          rintro e w2 ⟨rfl, hb4⟩
          have hs2 := hb4.size
          simp at hs2
          have ho1'' := (ho1.alloc (.cells #[.int .i64 xs[k]] 2)).keep hb4 (fun g hg => by have := (ho1.blk_lt g hg).2; omega)
          have ho2'' := ho2'.keep hb4 (fun g hg => by have := (ho2.blk_lt g hg).2; omega)
          have hcl := HLoad.out w2 hb4
          have hlw := World.block_lt_of_cell? w2 _ hcl
          have hsl := hok.2.1
          have hsl1 : st.1.length ≤ 10 := by have := hok.1; omega
          clear hcall' ho2' hok hmem
          go_wp2_with (at_builtin; go_loud (refine wpL_app1 (L := LI) rowI rfl rfl (.tmp 30) _ rfl rfl ho2'' 0 _ rfl rfl rfl (by unfold maxLen; omega) (by omega) (by omega) ?_); intro A4 c4 w4 ho4 hg4)
          have hcl4 : w4.cell? ⟨wr.heap.size, 0, none⟩ = some (.int .i64 xs[k]) := by
            rw [World.cell?_of_block (hg4.block wr.heap.size hlw (fun e => by have := (ho2.blk_lt _ e.symm).2; omega)), hcl]
          have hk4 := hg4.own ho1'' hap
          obtain ⟨g, rfl, hbg, hgl, hcg, hfg⟩ := ho4.int (k := st.2.length) (by simp)
          have hz : (st.2 ++ [0])[st.2.length]'(by simp) = 0 := by simp
          rw [hz] at hcg
          have hft' : (st.2.length : Int) < st.2.length + 1 := by omega
          go_wp2_with fail
          go_region
          have ho4' := ho4.setInt st.2.length (0 + xs[k])
          have ho1''' := hk4.1.setFar (p := ⟨g, st.2.length, none⟩) (fun e => hk4.2 g e rfl) (.int .i64 (0 + xs[k]))
          rw [Int.zero_add] at ho4' ho1'''
          go_wp2_with (at_builtin; go_loud (refine wpL_app1d (L := LI) rowI rfl rfl _ _ rfl rfl ho1''' (st.2.length : Int) _ rfl rfl (by simp) (by unfold maxLen; omega) (by omega) (by simp; have := hg4.size; omega) ?_); intro A5 c5 w5 ho5 hg5)
          have hb5 : Below (w.heap.size + 1) (w.alloc (.cells #[.int .i64 most] 2)) (w4.setCell ⟨g, st.2.length, none⟩ (.int .i64 xs[k])) := (Grew.below (hb3.trans (hb4.mono (by omega))) hg4 (by omega) (fun g' hg' => (ho2.blk_lt g' hg').1)).setCell hbg _
          have hk5 := hg5.own ho4' fun g' h1 h2 => hk4.2 g' h2 h1
          go_roundw
          case rel =>
            have E := HS.out.trans HF.out
            have e2 : (st.2 ++ [0]).set st.2.length xs[k] = st.2 ++ [xs[k]] := by
              rw [List.set_append_right _ _ (Nat.le_refl _)]; simp
            rw [e2] at hk5
            refine ⟨k + 1, A5, _, c5, c4, by omega, by go_num, by rw [E]; simp, by rw [E]; simp, by rw [E]; exact ho5, by rw [E]; exact hk5.1, Ap.symm hk5.2, Grew.below hb5 hg5 (by simp; have := hg4.size; omega) fun g' hg' => ?_⟩
            exact (ho1.blk_lt g' hg').1
          case measure => simp [intOf]; omega
      · have HK : Hid (xs.take k = xs) := Lib.hid (List.take_of_length_le (by omega))
        rw [HK.out] at ho1 ⊢
        go_wp2_with fail
        go_ret2
        exact ⟨A1, c1, rfl, ho1.lower (by omega), ((Below.refl _ _).alloc (Nat.le_refl _) _).trans (hbel.mono (by omega))⟩

theorem find_at {p : Int → Bool} {xs : List Int} {t : Nat} (hlt : t < xs.length) (hno : ∀ j (h : j < xs.length), j < t → p xs[j] = false) (hp : p xs[t] = true) : t = xs.findIdx p := by
  symm
  rw [List.findIdx_eq hlt]
  exact ⟨hp, fun j hj => by simp [hno j (by omega) hj]⟩
theorem find_none {p : Int → Bool} {xs : List Int} (hno : ∀ j (h : j < xs.length), p xs[j] = false) : ¬ xs.findIdx p < xs.length := by
  intro h
  have := List.findIdx_getElem (w := h)
  rw [hno _ h] at this
  cases this

set_option maxHeartbeats 400000 in
theorem specFirstFitTrips_any (A : Option Addr) (c : Nat) (xs : List Int) (most : Int) (w : World) (hr : Rd LI w w.heap.size A c xs) :
    Calls Try.prog 12 #[.slice A xs.length c, .int .i64 most] w fun e w' => ∃ A' c', e = .returned (.tuple #[.slice A' (ffP xs most).1.length c', .int .i64 (ffP xs most).2]) ∧ Own LI 2 w' w.heap.size A' c' (ffP xs most).1 ∧ Below w.heap.size w w' := by
  have hlen := hr.len63
  have hc := l21Ok_any A c xs most w hr
  cases hv : vlB xs most
  · have HP : Hid (ffP xs most = ([], 1)) := Lib.hid (by simp [ffP, hv])
    rw [hv] at hc
    rw [HP.out]
    clear hv HP
    go_enter Try.func12, Try.ntmps12
    go_wp2_with fail
    refine hc.mono ?_
    rintro e w1 ⟨rfl, hb1⟩
    go_wp2_with fail
    go_ret2
    refine ⟨none, 0, rfl, Own.none_, hb1⟩
  · have HP : Hid (ffP xs most = ((ffGo most xs).1, 0)) := Lib.hid (by simp [ffP, hv])
    rw [hv] at hc
    rw [HP.out]
    obtain ⟨⟨hm1, hm2⟩, hl, hx⟩ := vlB_parts hv
    clear hv HP
    go_enter Try.func12, Try.ntmps12
    go_wp2_with fail
    refine hc.mono ?_
    rintro e w1 ⟨rfl, hb1⟩
    have hs1 := hb1.size
    go_wp2_with fail
    go_loopw [6, 7, 8] (fun a b i wr => ∃ (k : Nat) (A1 A2 : Option Addr) (c1 c2 : Nat), k ≤ xs.length ∧ i = .int .i64 k ∧ a = .slice A1 (ffGo most (xs.take k)).1.length c1 ∧ b = .slice A2 (ffGo most (xs.take k)).2.length c2 ∧
        Own LI 2 wr w.heap.size A1 c1 (ffGo most (xs.take k)).1 ∧ Own LI 2 wr w.heap.size A2 c2 (ffGo most (xs.take k)).2 ∧ Ap A1 A2 ∧ Below w.heap.size w wr) (fun _ _ i _ => xs.length - (intOf i).toNat)
    case atStart =>
      refine ⟨0, _, _, _, _, by omega, rfl, rfl, rfl, (Own.lit0 w1 hs1 rfl).alloc _, Own.lit0 (w1.alloc (.cells #[] 2)) (by simp; omega) (by simp), ?_, (hb1.alloc hs1 _).alloc (by simp; omega) _⟩
      intro g h1 h2
      simp [blk] at h1 h2
      omega
    case round =>
      obtain ⟨k, A1, A2, c1, c2, hk, rfl, rfl, rfl, ho1, ho2, hap, hbel⟩ := hrel
      have hsz := hbel.size
      by_cases hlt : k < xs.length
      · obtain ⟨ad, rfl, hab, hcell⟩ := (hr.below hbel).int hlt
        have hok := ffGo_ok most xs hx k hk
        have HS := Lib.hid (ffGo_succ most xs hlt)
        generalize hst : ffGo most (xs.take k) = st at *
        clear hst
        obtain ⟨hok1, hsl, hmem⟩ := hok
        have hsl1 : st.1.length ≤ 10 := by omega
        clear hok1
        obtain ⟨hxk0, hxk1⟩ := hx _ (List.getElem_mem hlt)
        have hkx : (k : Int) < xs.length := by omega
        obtain ⟨wo, rfl⟩ : ∃ wo : World, wo = wr := ⟨_, rfl⟩
        go_wp2_with fail
        go_loopw [9] (fun j wr => ∃ t : Nat, t ≤ st.2.length ∧ j = .int .i64 t ∧ (∀ q (h : q < st.2.length), q < t → decide (st.2[q] + xs[k] ≤ most) = false) ∧ Dr wo wr) (fun j _ => st.2.length - (intOf j).toNat)
        case atStart => exact ⟨0, by omega, rfl, fun q _ h => by omega, Dr.refl _⟩
        case round =>
          obtain ⟨t, ht, rfl, hno, hdr⟩ := hrel
          have Hno := Lib.hid hno
          clear hno
          have hcell' : wr.cell? (ad.add k) = some (.int .i64 xs[k]) := by rw [hdr.below.cell (B := ad.block + 1) (by rw [block_of_add]; omega)]; exact hcell
          have ho1w := ho1.below hdr.below
          have ho2w := ho2.below hdr.below
          have hbw : Below w.heap.size w wr := hbel.trans hdr.below
          have hszw := hbw.size
          by_cases hft : t < st.2.length
          · obtain ⟨g, rfl, hbg, hgl, hcg, hfg⟩ := ho2w.int hft
            have hft' : (t : Int) < st.2.length := by omega
            have hmt := hmem _ (List.getElem_mem hft)
            obtain ⟨hmt1, hmt2⟩ := hmt
            by_cases hfit : st.2[t] + xs[k] ≤ most
            · have hng : ¬ most < st.2[t] + xs[k] := by omega
              have hnd : decide (most < st.2[t] + xs[k]) = false := by simp; omega
              have HF := Lib.hid (ffStep_hit (most := most) (st := st) (x := xs[k]) (find_at hft Hno.out (by simpa using hfit)) hft)
              have hne : ((t : Int) == (st.2.length : Int)) = false := by simp; omega
              go_wp2_with fail
              go_quiet (fail)
              go_wp2_with fail
              go_region
              have hbq : Below w.heap.size w (wr.drewN (nq + 1)) := below_drewN hbw _
              have ho2''' : Own LI 2 ((wr.drewN (nq + 1)).setCell ⟨g, t, none⟩ (.int .i64 (st.2[t] + xs[k]))) w.heap.size (some ⟨g, 0, none⟩) c2 (st.2.set t (st.2[t] + xs[k])) := (ho2w.drewN (nq + 1)).setInt t _
              have ho1''' := (ho1w.drewN (nq + 1)).setFar (p := ⟨g, t, none⟩) (fun e => hap g e rfl) (.int .i64 (st.2[t] + xs[k]))
              go_wp2_with (at_builtin; go_loud (refine wpL_app1 (L := LI) rowI rfl rfl _ _ rfl rfl ho1''' (t : Int) _ rfl rfl (by simp) (by unfold maxLen; omega) (by omega) (by simp; omega) ?_); intro A4 c4 w4 ho4 hg4)
              have hk5 := hg4.own ho2''' fun g' h1 h2 => hap g' h2 h1
              go_roundw
              case rel =>
                have E := HS.out.trans HF.out
                refine ⟨k + 1, A4, _, c4, c2, by omega, by go_num, by rw [E]; simp, by rw [E]; simp, by rw [E]; exact ho4, by rw [E]; exact hk5.1, Ap.symm hk5.2, Grew.below (hbq.setCell hbg _) hg4 (by simp; omega) fun g' hg' => ?_⟩
                exact (ho1w.blk_lt g' hg').1
              case measure => simp [intOf]; omega
            · have hng : most < st.2[t] + xs[k] := by omega
              have hnd : decide (most < st.2[t] + xs[k]) = true := by simp; omega
              go_wp2_with fail
              go_quiet (fail)
              go_wp2_with fail
              go_roundw
              case rel =>
                refine ⟨t + 1, by omega, by go_num, fun q hq hqt => ?_, hdr.step _⟩
                by_cases hqt' : q < t
                · exact Hno.out q hq hqt'
                · obtain rfl : q = t := by omega
                  simpa using hng
              case measure => simp [intOf]; omega
          · have htt : t = st.2.length := by omega
            have HF := Lib.hid (ffStep_miss (most := most) (st := st) (x := xs[k]) (find_none fun q hq => Hno.out q hq (by omega)))
            subst htt
            have hft' : ¬ (st.2.length : Int) < st.2.length := by omega
            have hft2 : decide ((st.2.length : Int) < st.2.length) = false := by simp
            go_wp2_with fail
            go_quiet (fail)
            have hbq : Below w.heap.size w (wr.drewN nq) := below_drewN hbw _
            have ho1q := ho1w.drewN nq
            have ho2q := ho2w.drewN nq
            have hszq : w.heap.size ≤ (wr.drewN nq).heap.size := hszw
            have hceq : (wr.drewN nq).cell? (ad.add k) = some (.int .i64 xs[k]) := hcell'
            generalize wr.drewN nq = wq at *
            go_wp2_with (at_builtin; go_loud (refine wpL_app1 (L := LI) rowI rfl rfl (.tmp 45) _ rfl rfl ho2q 0 _ rfl rfl rfl (by unfold maxLen; omega) (by omega) hszq ?_); intro A4 c4 w4 ho4 hg4)
            have hb4 : Below w.heap.size w w4 := Grew.below hbq hg4 hszq fun g' hg' => (ho2q.blk_lt g' hg').1
            have hcell4 : w4.cell? (ad.add k) = some (.int .i64 xs[k]) := by
              rw [hb4.cell (by rw [block_of_add]; omega), ← hbq.cell (by rw [block_of_add]; omega)]; exact hceq
            have hk4 := hg4.own ho1q hap
            obtain ⟨g, rfl, hbg, hgl, hcg, hfg⟩ := ho4.int (k := st.2.length) (by simp)
            have hz : (st.2 ++ [0])[st.2.length]'(by simp) = 0 := by simp
            rw [hz] at hcg
            have hft3 : (st.2.length : Int) < st.2.length + 1 := by omega
            go_wp2_with fail
            go_region
            have ho4' := (ho4.setInt st.2.length (0 + xs[k]))
            have ho1''' := hk4.1.setFar (p := ⟨g, st.2.length, none⟩) (fun e => hk4.2 g e rfl) (.int .i64 (0 + xs[k]))
            rw [Int.zero_add] at ho4' ho1'''
            have hs4 := hb4.size
            go_wp2_with (at_builtin; go_loud (refine wpL_app1d (L := LI) rowI rfl rfl _ _ rfl rfl ho1''' (st.2.length : Int) _ rfl rfl (by simp) (by unfold maxLen; omega) (by omega) (by simp; omega) ?_); intro A5 c5 w5 ho5 hg5)
            have hk5 := hg5.own ho4' fun g' h1 h2 => hk4.2 g' h2 h1
            go_roundw
            case rel =>
              have E := HS.out.trans HF.out
              have e2 : (st.2 ++ [0]).set st.2.length xs[k] = st.2 ++ [xs[k]] := by
                rw [List.set_append_right _ _ (Nat.le_refl _)]; simp
              rw [e2] at hk5
              refine ⟨k + 1, A5, _, c5, c4, by omega, by go_num, by rw [E]; simp, by rw [E]; simp, by rw [E]; exact ho5, by rw [E]; exact hk5.1, Ap.symm hk5.2, Grew.below (hb4.setCell hbg _) hg5 (by simp; omega) fun g' hg' => ?_⟩
              exact (ho1q.blk_lt g' hg').1
            case measure => simp [intOf]; omega
      · have HK : Hid (xs.take k = xs) := Lib.hid (List.take_of_length_le (by omega))
        rw [HK.out] at ho1 ⊢
        go_wp2_with fail
        go_ret2
        exact ⟨A1, c1, rfl, ho1, hbel⟩
end Go.Proofs.Ytcookepklcbfeaa
