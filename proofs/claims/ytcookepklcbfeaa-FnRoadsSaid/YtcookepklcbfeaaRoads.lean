/-
  ValidRoads: both functions say whether a table is one of roads.
-/
import Derived.Test.YtcookepklcbfeaaNumSS
namespace Go.Proofs.Ytcookepklcbfeaa
open Go.ChangeShapes Go.WideShapes Go.RowKit

def gt (xss : List (List Int)) (i k : Nat) : Int := (xss.getD i []).getD k 0
def VR (xss : List (List Int)) : Prop := (1 ≤ xss.length ∧ xss.length ≤ 8) ∧ (∀ i, i < xss.length → (xss.getD i []).length = xss.length) ∧
  (∀ i k, i < xss.length → k < xss.length → 0 ≤ gt xss i k ∧ gt xss i k ≤ 1000) ∧ (∀ i, i < xss.length → gt xss i i = 0) ∧ ∀ i k, i < xss.length → k < xss.length → gt xss i k = gt xss k i
/-- row i, as the program looks at it -/
def RI1 (xss : List (List Int)) (i : Nat) : Prop := (xss.getD i []).length = xss.length ∧ (∀ x ∈ xss.getD i [], 0 ≤ x ∧ x ≤ 1000) ∧ gt xss i i = 0 ∧ ∀ k, k < i → gt xss i k = gt xss k i
/-- row i, as the reference looks at it -/
def RS1 (xss : List (List Int)) (i : Nat) : Prop := (xss.getD i []).length = xss.length ∧ gt xss i i = 0 ∧ ∀ k, k < i → (0 ≤ gt xss i k ∧ gt xss i k ≤ 1000) ∧ gt xss k i = gt xss i k
theorem gt_mem {xss : List (List Int)} {i k : Nat} (h : k < (xss.getD i []).length) : gt xss i k ∈ xss.getD i [] := by
  unfold gt; rw [getD_lt _ _ h]; exact List.getElem_mem _
theorem mem_gt {xss : List (List Int)} {i : Nat} {x : Int} (h : x ∈ xss.getD i []) : ∃ k, k < (xss.getD i []).length ∧ gt xss i k = x := by
  obtain ⟨k, hk, rfl⟩ := List.mem_iff_getElem.1 h
  exact ⟨k, hk, by unfold gt; rw [getD_lt _ _ hk]⟩
theorem vr_impl {xss : List (List Int)} : VR xss ↔ (1 ≤ xss.length ∧ xss.length ≤ 8) ∧ ∀ i, i < xss.length → RI1 xss i := by
  constructor
  · rintro ⟨h1, h2, h3, h4, h5⟩
    refine ⟨h1, fun i hi => ⟨h2 i hi, fun x hx => ?_, h4 i hi, fun k hk => h5 i k hi (by omega)⟩⟩
    obtain ⟨k, hk, rfl⟩ := mem_gt hx
    exact h3 i k hi (by rw [h2 i hi] at hk; exact hk)
  · rintro ⟨h1, h2⟩
    refine ⟨h1, fun i hi => (h2 i hi).1, fun i k hi hk => (h2 i hi).2.1 _ (gt_mem (by rw [(h2 i hi).1]; exact hk)), fun i hi => (h2 i hi).2.2.1, fun i k hi hk => ?_⟩
    rcases Nat.lt_trichotomy i k with h | rfl | h
    · exact ((h2 k hk).2.2.2 i h).symm
    · rfl
    · exact (h2 i hi).2.2.2 k h
theorem vr_spec {xss : List (List Int)} : VR xss ↔ (1 ≤ xss.length ∧ xss.length ≤ 8) ∧ ∀ i, i < xss.length → RS1 xss i := by
  constructor
  · rintro ⟨h1, h2, h3, h4, h5⟩
    exact ⟨h1, fun i hi => ⟨h2 i hi, h4 i hi, fun k hk => ⟨h3 i k hi (by omega), h5 k i (by omega) hi⟩⟩⟩
  · rintro ⟨h1, h2⟩
    have hs : ∀ i k, i < xss.length → k < xss.length → gt xss i k = gt xss k i := by
      intro i k hi hk
      rcases Nat.lt_trichotomy i k with h | rfl | h
      · exact ((h2 k hk).2.2 i h).2
      · rfl
      · exact ((h2 i hi).2.2 k h).2.symm
    refine ⟨h1, fun i hi => (h2 i hi).1, fun i k hi hk => ?_, fun i hi => (h2 i hi).2.1, hs⟩
    rcases Nat.lt_trichotomy i k with h | rfl | h
    · rw [hs i k hi hk]; exact ((h2 k hk).2.2 i h).1
    · rw [(h2 i hi).2.1]; omega
    · exact ((h2 i hi).2.2 k h).1
noncomputable def vrB (xss : List (List Int)) : Bool := dB (VR xss)

theorem getD_dat (rs : List (Row Int)) (i : Nat) (h : i < rs.length) : (dat rs).getD i [] = rs[i].2.2 := by
  rw [getD_lt _ _ (by rw [dat_len]; exact h), dat_get]
theorem gt_dat (rs : List (Row Int)) (i k : Nat) (h : i < rs.length) (hk : k < rs[i].2.2.length) : gt (dat rs) i k = rs[i].2.2[k] := by
  unfold gt; rw [getD_dat rs i h, getD_lt _ _ hk]

set_option maxHeartbeats 1600000 in
theorem implValidRoads_any (A : Option Addr) (c : Nat) (rs : List (Row Int)) (w : World) (hr : RdR LI w w.heap.size A c rs) :
    Calls Try.prog 34 #[.slice A rs.length c] w fun e w' => e = .returned (.bool (vrB (dat rs))) ∧ Below w.heap.size w w' := by
  have hlen := hr.len63
  cases h1 : inB (rs.length : Int) 1 8
  · have HV : Hid (vrB (dat rs) = false) := Lib.hid (dB_no fun h => by
      have := h.1; rw [dat_len] at this
      rw [inB_mk (by omega)] at h1
      cases h1)
    rw [HV.out]
    go_enter Try.func34, Try.ntmps34
    go_wp2_with (go_at_call 52; refine (within_any _ _ _ _).mono ?_; rintro e w' ⟨rfl, rfl⟩)
    go_ret
    exact ⟨rfl, Below.refl _ _⟩
  · have hn := inB_yes h1
    have HV : Hid (VR (dat rs) ↔ ∀ i, i < rs.length → RI1 (dat rs) i) := Lib.hid (by
      rw [vr_impl, dat_len]
      exact ⟨fun h => h.2, fun h => ⟨by omega, h⟩⟩)
    go_enter Try.func34, Try.ntmps34
    go_wp2_with (go_at_call 52; refine (within_any _ _ _ _).mono ?_; rintro e w' ⟨rfl, rfl⟩)
    go_loopw [14] (fun i wr => ∃ k : Nat, k ≤ rs.length ∧ i = .int .i64 k ∧ (∀ q, q < k → RI1 (dat rs) q) ∧ Below w.heap.size w wr) (fun i _ => rs.length - (intOf i).toNat)
    case atStart => exact ⟨0, by omega, rfl, fun q h => by omega, Below.refl _ _⟩
    case round =>
      obtain ⟨k, hk, rfl, hno, hbel⟩ := hrel
      have Hno := Lib.hid hno
      clear hno
      by_cases hlt : k < rs.length
      · obtain ⟨ad, rfl, hab, hcell, hrk⟩ := (hr.below hbel).at_ hlt
        have HN : Hid (¬ RI1 (dat rs) k → vrB (dat rs) = false) := Lib.hid fun hn => dB_no fun hv => hn (HV.out.1 hv k hlt)
        have HD : Hid ((dat rs).getD k [] = rs[k].2.2) := Lib.hid (getD_dat rs k hlt)
        have hk0 : (k : Int) < rs.length := by omega
        by_cases hl : rs[k].2.2.length = rs.length
        · have hne : ((rs[k].2.2.length : Int) != (rs.length : Int)) = false := by rw [bne_eq_false_iff_eq]; omega
          have Hl := Lib.hid hl
          have hkl : k < rs[k].2.2.length := by omega
          clear hl
          have hout := outside_any rs[k].1 rs[k].2.1 rs[k].2.2 0 1000 wr (hrk.more hbel.size)
          cases hob : outB rs[k].2.2 0 1000
          · rw [hob] at hout
            obtain ⟨ad2, hA2, hab2, hcell2⟩ := hrk.int hkl
            rw [hA2] at hrk hcell hout
            by_cases hz : rs[k].2.2[k] = 0
            · have hzz : (rs[k].2.2[k] != 0) = false := by simp [hz]
              have Hz := Lib.hid hz
              clear hz
              go_wp2_with fail
              refine hout.mono ?_
              rintro e w1 ⟨rfl, hb1⟩
              have hbel1 := bthen hbel (Nat.le_refl _) hb1
              have hc1 : w1.cell? (ad2.add k) = some (.int .i64 rs[k].2.2[k]) := by rw [hb1.cell (by rw [block_of_add]; have := hbel.size; omega)]; exact hcell2
              clear hout
              go_wp2_with fail
              obtain ⟨wo, rfl⟩ : ∃ wo : World, wo = w1 := ⟨_, rfl⟩
              go_loopw [35] (fun j wr => ∃ m : Nat, m ≤ k ∧ j = .int .i64 m ∧ (∀ q, q < m → gt (dat rs) k q = gt (dat rs) q k) ∧ Dr wo wr) (fun j _ => k - (intOf j).toNat)
              case atStart => exact ⟨0, by omega, rfl, fun q h => by omega, Dr.refl _⟩
              case round =>
                obtain ⟨m, hm, rfl, hsym, hdr⟩ := hrel
                have Hsym := Lib.hid hsym
                clear hsym
                have hbw : Below w.heap.size w wr := hbel1.trans hdr.below
                by_cases hmk : m < k
                · have hmr : m < rs.length := by omega
                  have hm0 : (m : Int) < rs.length := by omega
                  have hkm : m < rs[k].2.2.length := by omega
                  have hkm0 : (m : Int) < rs[k].2.2.length := by omega
                  have hRm := Hno.out m hmk
                  have hlm : rs[m].2.2.length = rs.length := by have := hRm.1; rw [getD_dat rs m hmr, dat_len] at this; exact this
                  have hmk2 : k < rs[m].2.2.length := by omega
                  have hmk0 : (k : Int) < rs[m].2.2.length := by omega
                  clear hRm hlm
                  obtain ⟨ad3, hA3, hab3, hcellm, hrm⟩ := (hr.below hbw).at_ hmr
                  cases hA3
                  obtain ⟨ad4, hA4, hab4, hcell4⟩ := hrm.int hmk2
                  obtain ⟨ad5, hA5, hab5, hcell5⟩ := (hrk.below (hb1.mono hbel.size) |>.below hdr.below).int hkm
                  cases hA5
                  rw [hA4] at hcellm
                  have HG1 := Lib.hid (gt_dat rs k m hlt hkm)
                  have HG2 := Lib.hid (gt_dat rs m k hmr hmk2)
                  by_cases hs : rs[k].2.2[m] = rs[m].2.2[k]
                  · have hne2 : (rs[k].2.2[m] != rs[m].2.2[k]) = false := by simp [hs]
                    have Hs := Lib.hid hs
                    clear hs
                    go_wp2_with fail
                    go_quiet (fail)
                    go_wp2_with fail
                    go_roundw
                    case rel =>
                      refine ⟨m + 1, by omega, by go_num, fun q hq => ?_, hdr.step _⟩
                      by_cases hqm : q < m
                      · exact Hsym.out q hqm
                      · obtain rfl : q = m := by omega
                        rw [HG1.out, HG2.out, Hs.out]
                    case measure => simp [intOf]; omega
                  · have hne2 : (rs[k].2.2[m] != rs[m].2.2[k]) = true := by simp [hs]
                    have Hs := Lib.hid hs
                    clear hs
                    go_wp2_with fail
                    go_quiet (fail)
                    go_wp2_with fail
                    go_ret
                    refine ⟨ret_bool (HN.out fun hR => ?_).symm, below_drewN hbw _⟩
                    have := hR.2.2.2 m hmk
                    rw [HG1.out, HG2.out] at this
                    exact Hs.out this
                · have hmm : m = k := by omega
                  subst hmm
                  go_wp2_with fail
                  go_roundw
                  case rel =>
                    refine ⟨m + 1, by omega, by go_num, fun q hq => ?_, hbw⟩
                    by_cases hqm : q < m
                    · exact Hno.out q hqm
                    · obtain rfl : q = m := by omega
                      refine ⟨by rw [HD.out, dat_len]; exact Hl.out, ?_, ?_, Hsym.out⟩
                      · rw [HD.out]; exact outB_no hob
                      · rw [gt_dat rs q q hlt hkl]; exact Hz.out
                  case measure => simp [intOf]; omega
            · have hzz : (rs[k].2.2[k] != 0) = true := by simp [hz]
              have Hz := Lib.hid hz
              clear hz
              go_wp2_with fail
              refine hout.mono ?_
              rintro e w1 ⟨rfl, hb1⟩
              have hbel1 := bthen hbel (Nat.le_refl _) hb1
              have hc1 : w1.cell? (ad2.add k) = some (.int .i64 rs[k].2.2[k]) := by rw [hb1.cell (by rw [block_of_add]; have := hbel.size; omega)]; exact hcell2
              clear hout
              go_wp2_with fail
              go_ret
              refine ⟨ret_bool (HN.out fun hR => ?_).symm, hbel1⟩
              have := hR.2.2.1
              rw [gt_dat rs k k hlt hkl] at this
              exact Hz.out this
          · rw [hob] at hout
            go_wp2_with fail
            refine hout.mono ?_
            rintro e w1 ⟨rfl, hb1⟩
            have hbel1 := bthen hbel (Nat.le_refl _) hb1
            clear hout
            go_wp2_with fail
            go_ret
            refine ⟨ret_bool (HN.out fun hR => ?_).symm, hbel1⟩
            have := hR.2.1
            rw [HD.out] at this
            rw [outB_mk this] at hob
            cases hob
        · have hne : ((rs[k].2.2.length : Int) != (rs.length : Int)) = true := by rw [bne_iff_ne]; omega
          have Hl := Lib.hid hl
          clear hl
          go_wp2_with fail
          go_ret
          refine ⟨ret_bool (HN.out fun hR => ?_).symm, hbel⟩
          have := hR.1
          rw [HD.out, dat_len] at this
          exact Hl.out this
      · go_wp2_with fail
        go_ret
        exact ⟨ret_bool (dB_yes (HV.out.2 fun i hi => Hno.out i (by omega))).symm, hbel⟩

set_option maxHeartbeats 1600000 in
theorem l21Roads_any (A : Option Addr) (c : Nat) (rs : List (Row Int)) (w : World) (hr : RdR LI w w.heap.size A c rs) :
    Calls Try.prog 59 #[.slice A rs.length c] w fun e w' => e = .returned (.bool (vrB (dat rs))) ∧ Below w.heap.size w w' := by
  have hlen := hr.len63
  have HV : Hid (VR (dat rs) ↔ (1 ≤ rs.length ∧ rs.length ≤ 8) ∧ ∀ i, i < rs.length → RS1 (dat rs) i) := Lib.hid (by rw [vr_spec, dat_len])
  go_enter Try.func59, Try.ntmps59
  go_wp2_with fail
  go_loopw [4] (fun i wr => ∃ k : Nat, k ≤ rs.length ∧ i = .int .i64 k ∧ (∀ q, q < k → RS1 (dat rs) q) ∧ Dr w wr) (fun i _ => rs.length - (intOf i).toNat)
  case atStart => exact ⟨0, by omega, rfl, fun q h => by omega, Dr.refl _⟩
  case round =>
    obtain ⟨k, hk, rfl, hno, hdr0⟩ := hrel
    have Hno := Lib.hid hno
    clear hno
    by_cases hlt : k < rs.length
    · obtain ⟨ad, rfl, hab, hcell, hrk⟩ := (hr.below hdr0.below).at_ hlt
      have HN : Hid (¬ RS1 (dat rs) k → vrB (dat rs) = false) := Lib.hid fun hn => dB_no fun hv => hn ((HV.out.1 hv).2 k hlt)
      have HD : Hid ((dat rs).getD k [] = rs[k].2.2) := Lib.hid (getD_dat rs k hlt)
      have hk0 : (k : Int) < rs.length := by omega
      by_cases hl : rs[k].2.2.length = rs.length
      · have hne : ((rs[k].2.2.length : Int) != (rs.length : Int)) = false := by rw [bne_eq_false_iff_eq]; omega
        have Hl := Lib.hid hl
        have hkl : k < rs[k].2.2.length := by omega
        have hkl0 : (k : Int) < rs[k].2.2.length := by omega
        clear hl
        obtain ⟨ad2, hA2, hab2, hcell2⟩ := hrk.int hkl
        rw [hA2] at hrk hcell
        by_cases hz : rs[k].2.2[k] = 0
        · have hzz : (rs[k].2.2[k] != 0) = false := by simp [hz]
          have Hz := Lib.hid hz
          clear hz
          obtain ⟨wo, rfl⟩ : ∃ wo : World, wo = wr := ⟨_, rfl⟩
          go_wp2_with fail
          go_loopw [5] (fun j wr => ∃ m : Nat, m ≤ k ∧ j = .int .i64 m ∧ (∀ q, q < m → (0 ≤ gt (dat rs) k q ∧ gt (dat rs) k q ≤ 1000) ∧ gt (dat rs) q k = gt (dat rs) k q) ∧ Dr wo wr) (fun j _ => k - (intOf j).toNat)
          case atStart => exact ⟨0, by omega, rfl, fun q h => by omega, Dr.refl _⟩
          case round =>
            obtain ⟨m, hm, rfl, hsym, hdr⟩ := hrel
            have Hsym := Lib.hid hsym
            clear hsym
            have hdw : Dr w wr := hdr0.trans hdr
            by_cases hmk : m < k
            · have hmr : m < rs.length := by omega
              have hm0 : (m : Int) < rs.length := by omega
              have hkm : m < rs[k].2.2.length := by omega
              have hkm0 : (m : Int) < rs[k].2.2.length := by omega
              have hRm := Hno.out m hmk
              have hlm : rs[m].2.2.length = rs.length := by have := hRm.1; rw [getD_dat rs m hmr, dat_len] at this; exact this
              have hmk2 : k < rs[m].2.2.length := by omega
              have hmk0 : (k : Int) < rs[m].2.2.length := by omega
              clear hRm hlm
              obtain ⟨ad3, hA3, hab3, hcellm, hrm⟩ := (hr.below hdw.below).at_ hmr
              cases hA3
              obtain ⟨ad4, hA4, hab4, hcell4⟩ := hrm.int hmk2
              have hcellk := ((hr.below hdw.below).at_ hlt)
              obtain ⟨ad6, hA6, hab6, hcellk, hrk'⟩ := hcellk
              cases hA6
              obtain ⟨ad5, hA5, hab5, hcell5⟩ := hrk'.int hkm
              rw [hA2] at hA5 hcellk
              cases hA5
              rw [hA4] at hcellm
              have HG1 := Lib.hid (gt_dat rs k m hlt hkm)
              have HG2 := Lib.hid (gt_dat rs m k hmr hmk2)
              cases hin : inB rs[k].2.2[m] 0 1000
              · go_wp2_with fail
                go_quiet ((go_at_call 54; exact quiet_left (l00In_any _ _ _ _)))
                go_wp2_with fail
                go_ret
                refine ⟨ret_bool (HN.out fun hR => ?_).symm, below_drewN hdw.below _⟩
                have := (hR.2.2 m hmk).1
                rw [HG1.out] at this
                rw [inB_mk this] at hin
                cases hin
              · by_cases hs : rs[m].2.2[k] = rs[k].2.2[m]
                · have hne2 : (rs[m].2.2[k] != rs[k].2.2[m]) = false := by simp [hs]
                  have Hs := Lib.hid hs
                  clear hs
                  go_wp2_with fail
                  go_quiet ((go_at_call 54; exact quiet_left (l00In_any _ _ _ _)))
                  go_wp2_with fail
                  go_roundw
                  case rel =>
                    refine ⟨m + 1, by omega, by go_num, fun q hq => ?_, hdr.step _⟩
                    by_cases hqm : q < m
                    · exact Hsym.out q hqm
                    · obtain rfl : q = m := by omega
                      rw [HG1.out, HG2.out]
                      exact ⟨inB_yes hin, Hs.out⟩
                  case measure => simp [intOf]; omega
                · have hne2 : (rs[m].2.2[k] != rs[k].2.2[m]) = true := by simp [hs]
                  have Hs := Lib.hid hs
                  clear hs
                  go_wp2_with fail
                  go_quiet ((go_at_call 54; exact quiet_left (l00In_any _ _ _ _)))
                  go_wp2_with fail
                  go_ret
                  refine ⟨ret_bool (HN.out fun hR => ?_).symm, below_drewN hdw.below _⟩
                  have := (hR.2.2 m hmk).2
                  rw [HG1.out, HG2.out] at this
                  exact Hs.out this
            · have hmm : m = k := by omega
              subst hmm
              go_wp2_with fail
              go_roundw
              case rel =>
                refine ⟨m + 1, by omega, by go_num, fun q hq => ?_, hdw⟩
                by_cases hqm : q < m
                · exact Hno.out q hqm
                · obtain rfl : q = m := by omega
                  refine ⟨by rw [HD.out, dat_len]; exact Hl.out, ?_, Hsym.out⟩
                  rw [gt_dat rs q q hlt hkl]; exact Hz.out
              case measure => simp [intOf]; omega
        · have hzz : (rs[k].2.2[k] != 0) = true := by simp [hz]
          have Hz := Lib.hid hz
          clear hz
          go_wp2_with fail
          go_ret
          refine ⟨ret_bool (HN.out fun hR => ?_).symm, hdr0.below⟩
          have := hR.2.1
          rw [gt_dat rs k k hlt hkl] at this
          exact Hz.out this
      · have hne : ((rs[k].2.2.length : Int) != (rs.length : Int)) = true := by rw [bne_iff_ne]; omega
        have Hl := Lib.hid hl
        clear hl
        go_wp2_with fail
        go_ret
        refine ⟨ret_bool (HN.out fun hR => ?_).symm, hdr0.below⟩
        have := hR.1
        rw [HD.out, dat_len] at this
        exact Hl.out this
    · go_wp2_with fail
      refine (l00In_any _ _ _ _).mono ?_
      rintro e w2 ⟨rfl, rfl⟩
      go_wp2_with fail
      go_ret
      refine ⟨ret_bool ?_, hdr0.below⟩
      have hall : ∀ i, i < rs.length → RS1 (dat rs) i := fun i hi => Hno.out i (by omega)
      by_cases hn : 1 ≤ rs.length ∧ rs.length ≤ 8
      · rw [inB_mk (by omega)]
        exact (dB_yes (HV.out.2 ⟨hn, hall⟩)).symm
      · rw [inB_no (by omega)]
        exact (dB_no fun hv => hn (HV.out.1 hv).1).symm

theorem specValidRoads_any (A : Option Addr) (c : Nat) (rs : List (Row Int)) (w : World) (hr : RdR LI w w.heap.size A c rs) :
    Calls Try.prog 35 #[.slice A rs.length c] w fun e w' => e = .returned (.bool (vrB (dat rs))) ∧ Below w.heap.size w w' := by
  have hc := l21Roads_any A c rs w hr
  go_enter Try.func35, Try.ntmps35
  go_wp2_with fail
  refine hc.mono ?_
  rintro e w1 ⟨rfl, hb1⟩
  go_wp2_with fail
  go_ret
  exact ⟨rfl, hb1⟩
end Go.Proofs.Ytcookepklcbfeaa
