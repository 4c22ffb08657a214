/-
  TripFault: both functions return the same.
-/
import Derived.Test.YtcookepklcbfeaaLeastTrips
import Derived.Test.YtcookepklcbfeaaNumSS
namespace Go.Proofs.Ytcookepklcbfeaa
open Go.ChangeShapes Go.WideShapes Go.RowKit

theorem rowB : TyRow Try.prog 63 4 (.bool false) LB.sz 1 := ⟨Try.underlying63, by kernel_rfl⟩

/-- one load of a trip -/
def trStep (loads : List Int) (st : Option (List Bool × Int)) (k : Int) : Option (List Bool × Int) :=
  match st with
  | some (met, sum) => if inB k 0 ((loads.length : Int) - 1) = true ∧ met.getD k.toNat false = false then some (met.set k.toNat true, sum + loads.getD k.toNat 0) else none
  | none => none
def trRun (loads : List Int) (met : List Bool) (trip : List Int) : Option (List Bool × Int) := trip.foldl (trStep loads) (some (met, 0))
def trOne (loads : List Int) (most : Int) (st : Option (List Bool)) (trip : List Int) : Option (List Bool) :=
  match st with
  | some met => (match trRun loads met trip with | some (met', sum) => if most < sum ∨ trip.length = 0 then none else some met' | none => none)
  | none => none
def trAll (loads : List Int) (most : Int) (trips : List (List Int)) : Option (List Bool) := trips.foldl (trOne loads most) (some (List.replicate loads.length false))
def tfZ (loads : List Int) (most : Int) (trips : List (List Int)) : Int :=
  match findN (fun i => (trAll loads most (trips.take (i + 1))).isNone) trips.length with
  | some i => i
  | none => (match trAll loads most trips with | some met => if false ∈ met then (trips.length : Int) else -1 | none => -1)
def tfP2 (loads : List Int) (most : Int) (trips : List (List Int)) : Int × Int := if vlB loads most = true then (if trips.length ≤ 100 then (tfZ loads most trips, 0) else (0, 2)) else (0, 1)

theorem trRun_succ (loads : List Int) (met : List Bool) (trip : List Int) {k : Nat} (h : k < trip.length) : trRun loads met (trip.take (k + 1)) = trStep loads (trRun loads met (trip.take k)) trip[k] := by
  unfold trRun
  rw [List.take_succ_eq_append_getElem h, List.foldl_append]
  rfl
theorem trAll_succ (loads : List Int) (most : Int) (trips : List (List Int)) {k : Nat} (h : k < trips.length) : trAll loads most (trips.take (k + 1)) = trOne loads most (trAll loads most (trips.take k)) trips[k] := by
  unfold trAll
  rw [List.take_succ_eq_append_getElem h, List.foldl_append]
  rfl
theorem trStep_none (loads : List Int) (l : List Int) : l.foldl (trStep loads) none = none := by
  induction l with
  | nil => rfl
  | cons x l ih => simpa [trStep] using ih
theorem trRun_none {loads : List Int} {met : List Bool} {trip : List Int} {k : Nat} (h : trRun loads met (trip.take k) = none) : trRun loads met trip = none := by
  unfold trRun at h ⊢
  rw [← List.take_append_drop k trip, List.foldl_append, h, trStep_none]
theorem count_set {met : List Bool} {k : Nat} (hk : k < met.length) (h : met[k] = false) : (met.set k true).count true = met.count true + 1 := by
  induction met generalizing k with
  | nil => simp at hk
  | cons x met ih =>
    cases k with
    | zero => simp only [List.getElem_cons_zero] at h; subst h; simp
    | succ k =>
      simp only [List.getElem_cons_succ] at h
      have := ih (by simpa using hk) h
      simp only [List.set_cons_succ, List.count_cons, this]
      omega
/-- what a run keeps -/
def TrOk (loads : List Int) (st : List Bool × Int) : Prop := st.1.length = loads.length ∧ 0 ≤ st.2 ∧ st.2 ≤ 5000 * (st.1.count true : Int)
theorem trStep_ok {loads : List Int} (hl : ∀ x ∈ loads, 1 ≤ x ∧ x ≤ 5000) {st st' : List Bool × Int} {k : Int} (h : TrOk loads st) (he : trStep loads (some st) k = some st') : TrOk loads st' := by
  obtain ⟨h1, h2, h3⟩ := h
  simp only [trStep] at he
  split at he
  · rename_i hc
    have hk := inB_yes hc.1
    injection he with he
    subst he
    have hlt : k.toNat < loads.length := by omega
    have hm : k.toNat < st.1.length := by omega
    have hf := hc.2
    rw [getD_lt _ _ hm] at hf
    have hx := hl _ (List.getElem_mem hlt)
    refine ⟨by simpa using h1, ?_, ?_⟩
    · simp only [getD_lt _ _ hlt]; omega
    · simp only [getD_lt _ _ hlt, count_set hm hf]; omega
  · cases he
theorem trRun_ok {loads : List Int} (hl : ∀ x ∈ loads, 1 ≤ x ∧ x ≤ 5000) {met : List Bool} (hm : met.length = loads.length) {trip : List Int} (k : Nat) (hk : k ≤ trip.length) {st : List Bool × Int} (h : trRun loads met (trip.take k) = some st) : TrOk loads st := by
  induction k generalizing st with
  | zero =>
    simp only [List.take_zero, trRun, List.foldl_nil, Option.some.injEq] at h
    subst h
    exact ⟨hm, by simp, by simp; omega⟩
  | succ k ih =>
    rw [trRun_succ loads met trip (by omega)] at h
    cases hq : trRun loads met (trip.take k) with
    | none => rw [hq] at h; cases h
    | some st0 => rw [hq] at h; exact trStep_ok hl (ih (by omega) hq) h
theorem trOk0 {loads : List Int} {met : List Bool} (hm : met.length = loads.length) : TrOk loads (met, 0) := ⟨hm, by simp, by simp; omega⟩
theorem count_le_len (met : List Bool) : met.count true ≤ met.length := List.count_le_length
theorem TrOk.bd {loads : List Int} {st : List Bool × Int} (h : TrOk loads st) (hl : loads.length ≤ 10) : 0 ≤ st.2 ∧ st.2 ≤ 50000 := by
  obtain ⟨h1, h2, h3⟩ := h
  have := count_le_len st.1
  omega
theorem tfZ_hit {loads : List Int} {most : Int} {trips : List (List Int)} {i : Nat} (hi : i < trips.length) (hno : ∀ j, j < i → (trAll loads most (trips.take (j + 1))).isNone = false) (h : trAll loads most (trips.take (i + 1)) = none) : tfZ loads most trips = i := by
  unfold tfZ
  rw [findN_hit hi hno (by simp [h])]
theorem tfZ_end {loads : List Int} {most : Int} {trips : List (List Int)} {met : List Bool} (hno : ∀ j, j < trips.length → (trAll loads most (trips.take (j + 1))).isNone = false) (h : trAll loads most trips = some met) :
    tfZ loads most trips = if false ∈ met then (trips.length : Int) else -1 := by
  unfold tfZ
  rw [findN_none hno, h]

def fbIdx (xs : List Bool) : Int := if false ∈ xs then (xs.findIdx (fun b => !b) : Int) else -1
theorem boolIndex_any (A : Option Addr) (c : Nat) (xs : List Bool) (B : Nat) (w : World) (hr : Rd LB w B A c xs) :
    Calls Try.prog 53 #[.slice A xs.length c, .bool false] w fun e w' => e = .returned (.bool (decide (false ∈ xs))) ∧ w = w' := by
  have hlen := hr.len63
  have hidx : Calls Try.prog 70 #[.slice A xs.length c, .bool false] w fun e w' => e = .returned (.int .i64 (fbIdx xs)) ∧ w = w' := by
    go_enter Try.func70, Try.ntmps70
    go_wp2_with fail
    go_loop [5, 8] (fun _ i => ∃ k : Nat, k ≤ xs.length ∧ i = .int .i64 k ∧ ∀ j (h : j < xs.length), j < k → xs[j] = true) (fun _ i => xs.length - (intOf i).toNat)
    case atStart => exact ⟨0, by omega, rfl, fun j _ h => by omega⟩
    case round =>
      obtain ⟨k, hk, rfl, hno⟩ := hrel
      have Hno := Lib.hid hno
      clear hno
      by_cases hlt : k < xs.length
      · obtain ⟨ad, rfl, hab, hcell⟩ := hr.bool hlt
        cases hx : xs[k]
        · have HV : Hid (fbIdx xs = k) := Lib.hid (by
            unfold fbIdx
            rw [if_pos (by rw [← hx]; exact List.getElem_mem _)]
            have : xs.findIdx (fun b => !b) = k := by
              rw [List.findIdx_eq hlt]
              exact ⟨by simp [hx], fun j hj => by simp [Hno.out j (by omega) hj]⟩
            omega)
          go_wp2_with fail
          go_ret
          exact ⟨ret_int HV.out.symm, rfl⟩
        · have Hx := Lib.hid hx
          go_wp2_with fail
          go_round
          case rel =>
            refine ⟨k + 1, by omega, by go_num, fun j hj hjk => ?_⟩
            by_cases h : j < k
            · exact Hno.out j hj h
            · obtain rfl : j = k := by omega
              exact Hx.out
          case measure => simp [intOf]; omega
      · have HV : Hid (fbIdx xs = -1) := Lib.hid (by
          unfold fbIdx
          rw [if_neg]
          intro h
          obtain ⟨j, hj, he⟩ := List.mem_iff_getElem.1 h
          rw [Hno.out j hj (by omega)] at he
          cases he)
        go_wp2_with fail
        go_ret
        exact ⟨ret_int HV.out.symm, rfl⟩
  by_cases hm : false ∈ xs
  · have hnn : 0 ≤ fbIdx xs := by unfold fbIdx; rw [if_pos hm]; omega
    have HM : Hid (decide (false ∈ xs) = true) := Lib.hid (by simpa using hm)
    go_enter Try.func53, Try.ntmps53
    go_wp2_with fail
    refine hidx.mono ?_
    rintro e w1 ⟨rfl, rfl⟩
    go_wp2_with fail
    go_ret
    exact ⟨ret_bool HM.out.symm, rfl⟩
  · have hnn : fbIdx xs < 0 := by unfold fbIdx; rw [if_neg hm]; omega
    have HM : Hid (decide (false ∈ xs) = false) := Lib.hid (by simpa using hm)
    go_enter Try.func53, Try.ntmps53
    go_wp2_with fail
    refine hidx.mono ?_
    rintro e w1 ⟨rfl, rfl⟩
    go_wp2_with fail
    go_ret
    exact ⟨ret_bool (by rw [HM.out]; simp; omega), rfl⟩

set_option maxHeartbeats 1600000 in
theorem implTripFault_any (A : Option Addr) (c : Nat) (xs : List Int) (most : Int) (A2 : Option Addr) (c2 : Nat) (rs : List (Row Int)) (w : World) (hr : Rd LI w w.heap.size A c xs) (hr2 : RdR LI w w.heap.size A2 c2 rs) :
    Calls Try.prog 16 #[.slice A xs.length c, .int .i64 most, .slice A2 rs.length c2] w fun e w' => e = .returned (.tuple #[.int .i64 (tfP2 xs most (dat rs)).1, .int .i64 (tfP2 xs most (dat rs)).2]) ∧ Below w.heap.size w w' := by
  have hlen := hr.len63
  have hlen2 := hr2.len63
  have hc := implValidLoads_any A c xs most w hr
  cases hv : vlB xs most
  · have HP : Hid (tfP2 xs most (dat rs) = (0, 1)) := Lib.hid (by simp [tfP2, hv])
    rw [hv] at hc
    rw [HP.out]
    go_enter Try.func16, Try.ntmps16
    go_wp2_with fail
    refine hc.mono ?_
    rintro e w1 ⟨rfl, hb1⟩
    go_wp2_with fail
    go_ret2
    exact ⟨rfl, hb1⟩
  · rw [hv] at hc
    by_cases hn : rs.length ≤ 100
    · have HP : Hid (tfP2 xs most (dat rs) = (tfZ xs most (dat rs), 0)) := Lib.hid (by simp [tfP2, hv, dat_len, hn])
      rw [HP.out]
      obtain ⟨⟨hm1, hm2⟩, hl, hx⟩ := vlB_parts hv
      have hx5 : ∀ x ∈ xs, 1 ≤ x ∧ x ≤ 5000 := fun x h => by have := hx x h; omega
      clear hv HP
      go_enter Try.func16, Try.ntmps16
      go_wp2_with fail
      refine hc.mono ?_
      rintro e w1 ⟨rfl, hb1⟩
      clear hc
      have hs1 := hb1.size
      go_wp2_with (at_make; refine wpL_make (L := LB) rowB rfl _ _ rfl .i64 .i64 _ _ xs.length rfl rfl rfl rfl (by omega) (by unfold maxLen; omega) false rfl ?_; intro w2 hown hb2)
      have hb2' := bthen hb1 (Nat.le_refl _) hb2
      go_loopw [28] (fun i wr => ∃ (k : Nat) (met : List Bool), k ≤ rs.length ∧ i = .int .i64 k ∧ met.length = xs.length ∧ trAll xs most ((dat rs).take k) = some met ∧ (∀ j, j < k → (trAll xs most ((dat rs).take (j + 1))).isNone = false) ∧
          Own LB 4 wr w.heap.size (some ⟨w1.heap.size, 0, none⟩) xs.length met ∧ Below w.heap.size w wr) (fun i _ => rs.length - (intOf i).toNat)
      case atStart => exact ⟨0, _, by omega, rfl, by simp, rfl, fun j h => by omega, by simpa using hown.lower hs1, hb2'⟩
      case round =>
        obtain ⟨k, met, hk, rfl, hmet, hall, hno, hown, hbel⟩ := hrel
        have HA := Lib.hid (And.intro hmet (And.intro hall hno))
        clear hmet hall hno
        by_cases hlt : k < rs.length
        · obtain ⟨ad, rfl, hab, hcell, hrk⟩ := (hr2.below hbel).at_ hlt
          have hkd : k < (dat rs).length := by rw [dat_len]; exact hlt
          have HS := Lib.hid (trAll_succ xs most (dat rs) hkd)
          have HD : Hid ((dat rs)[k] = rs[k].2.2) := Lib.hid (dat_get rs k hlt)
          have hlr := hrk.len63
          generalize hAk : rs[k].1 = Ak at hrk hcell
          have HAk := Lib.hid hAk
          clear hAk
          go_wp2_with fail
          obtain ⟨wo, rfl⟩ : ∃ wo : World, wo = wr := ⟨_, rfl⟩
          go_loopw [11, 35] (fun s j wr => ∃ (m : Nat) (st : List Bool × Int), m ≤ rs[k].2.2.length ∧ j = .int .i64 m ∧ s = .int .i64 st.2 ∧ trRun xs met (rs[k].2.2.take m) = some st ∧ TrOk xs st ∧ 
              Own LB 4 wr w.heap.size (some ⟨w1.heap.size, 0, none⟩) xs.length st.1 ∧ Below w.heap.size w wr) (fun _ j _ => rs[k].2.2.length - (intOf j).toNat)
          case atStart => exact ⟨0, (met, 0), by omega, rfl, rfl, rfl, trOk0 HA.out.1, hown, hbel⟩
          case round =>
            obtain ⟨m, st, hm, rfl, rfl, hrun, hok, hown2, hbel2⟩ := hrel
            have HR := Lib.hid hrun
            clear hrun
            obtain ⟨hs0, hs5⟩ := hok.bd hl
            have HK := Lib.hid hok
            clear hok
            by_cases hlm : m < rs[k].2.2.length
            · have hrk2 := (hr2.below hbel2).at_ hlt
              rw [HAk.out] at hrk2
              obtain ⟨ad3, hA3, hab3, hcell3, hrk3⟩ := hrk2
              cases hA3
              obtain ⟨ad2, hA2, hab2, hcell2⟩ := hrk3.int hlm
              subst hA2
              have HT := Lib.hid (trRun_succ xs met rs[k].2.2 hlm)
              have HN : Hid (trStep xs (some st) rs[k].2.2[m] = none → tfZ xs most (dat rs) = k) := Lib.hid fun h => by
                refine tfZ_hit hkd HA.out.2.2 ?_
                rw [HS.out, HA.out.2.1, HD.out]
                have hnone : trRun xs met rs[k].2.2 = none := trRun_none (k := m + 1) (by rw [HT.out, HR.out, h])
                simp [trOne, hnone]
              cases hin : inB rs[k].2.2[m] 0 ((xs.length : Int) - 1)
              · have HZ : Hid (tfZ xs most (dat rs) = k) := Lib.hid (HN.out (by simp [trStep, hin]))
                go_wp2_with fail
                refine (within_any _ _ _ _).mono ?_
                rintro e w3 ⟨rfl, rfl⟩
                go_wp2_with fail
                go_ret2
                exact ⟨ret_ii HZ.out.symm rfl, hbel2⟩
              · obtain ⟨hv0, hv1⟩ := inB_yes hin
                obtain ⟨q, hq⟩ := Int.eq_ofNat_of_zero_le hv0
                have hql : q < xs.length := by omega
                have hqs : q < st.1.length := by have := HK.out.1; omega
                have hq0 : (q : Int) < xs.length := by omega
                rw [hq] at hcell2 hin
                have HQ := Lib.hid hq
                clear hq hv0 hv1
                obtain ⟨g, hg, hbg, hgl, hcg, hfg⟩ := hown2.bool hqs
                cases hg
                cases hmt : st.1[q]
                · rw [hmt] at hcg
                  obtain ⟨ad5, hA5, hab5, hcell5⟩ := (hr.below hbel2).int hql
                  subst hA5
                  obtain ⟨hxq0, hxq1⟩ := hx5 _ (List.getElem_mem hql)
                  have HE : Hid (trStep xs (some st) rs[k].2.2[m] = some (st.1.set q true, st.2 + xs[q])) := Lib.hid (by
                    simp only [trStep]
                    rw [HQ.out, if_pos ⟨hin, by simp [hqs, hmt]⟩]
                    simp [hql])
                  have HO := Lib.hid (trStep_ok hx5 HK.out HE.out)
                  have hown3 := hown2.setBool q true
                  have hcell4 : (wr.setCell ⟨w1.heap.size, q, none⟩ (.bool true)).cell? (ad5.add q) = some (.int .i64 xs[q]) := by
                    rw [World.cell?_setCell_other _ _ _ _ (fun e => by have := congrArg Addr.block e; rw [block_of_add] at this; simp at this; omega)]; exact hcell5
                  go_wp2_with fail
                  refine (within_any _ _ _ _).mono ?_
                  rintro e w3 ⟨rfl, rfl⟩
                  go_wp2_with fail
                  go_roundw
                  case rel => exact ⟨m + 1, (st.1.set q true, st.2 + xs[q]), by omega, by go_num, rfl, by rw [HT.out, HR.out, HE.out], HO.out, hown3, hbel2.setCell hs1 _⟩
                  case measure => simp [intOf]; omega
                · rw [hmt] at hcg
                  have HZ : Hid (tfZ xs most (dat rs) = k) := Lib.hid (HN.out (by
                    simp only [trStep]
                    rw [HQ.out, if_neg]
                    rintro ⟨_, h⟩
                    simp [hqs, hmt] at h))
                  go_wp2_with fail
                  refine (within_any _ _ _ _).mono ?_
                  rintro e w3 ⟨rfl, rfl⟩
                  go_wp2_with fail
                  go_ret2
                  exact ⟨ret_ii HZ.out.symm rfl, hbel2⟩
            · have HR' : Hid (trRun xs met rs[k].2.2 = some st) := Lib.hid (by have := HR.out; rw [List.take_of_length_le (by omega)] at this; exact this)
              have hrk2 := (hr2.below hbel2).at_ hlt
              rw [HAk.out] at hrk2
              obtain ⟨ad3, hA3, hab3, hcell3, hrk3⟩ := hrk2
              cases hA3
              by_cases hover : most < st.2
              · have HZ : Hid (tfZ xs most (dat rs) = k) := Lib.hid (tfZ_hit hkd HA.out.2.2 (by rw [HS.out, HA.out.2.1, HD.out]; simp [trOne, HR'.out, hover]))
                go_wp2_with fail
                go_ret2
                exact ⟨ret_ii HZ.out.symm rfl, hbel2⟩
              · by_cases hem : rs[k].2.2.length = 0
                · have HZ : Hid (tfZ xs most (dat rs) = k) := Lib.hid (tfZ_hit hkd HA.out.2.2 (by rw [HS.out, HA.out.2.1, HD.out]; simp [trOne, HR'.out, hem]))
                  have hem0 : ((rs[k].2.2.length : Int) == 0) = true := by rw [beq_iff_eq]; omega
                  have Hem := Lib.hid hem
                  clear hem
                  go_wp2_with fail
                  go_ret2
                  exact ⟨ret_ii HZ.out.symm rfl, hbel2⟩
                · have HE : Hid (trAll xs most ((dat rs).take (k + 1)) = some st.1) := Lib.hid (by rw [HS.out, HA.out.2.1, HD.out]; simp [trOne, HR'.out, hover, hem])
                  have hem0 : ((rs[k].2.2.length : Int) == 0) = false := by rw [beq_eq_false_iff_ne]; omega
                  go_wp2_with fail
                  go_roundw
                  case rel =>
                    refine ⟨k + 1, st.1, by omega, by go_num, HK.out.1, HE.out, fun j hj => ?_, hown2, hbel2⟩
                    by_cases hjk : j < k
                    · exact HA.out.2.2 j hjk
                    · obtain rfl : j = k := by omega
                      rw [HE.out]; rfl
                  case measure => simp [intOf]; omega
        · have hkk : (dat rs).take k = dat rs := List.take_of_length_le (by rw [dat_len]; omega)
          have HZ : Hid (tfZ xs most (dat rs) = if false ∈ met then (rs.length : Int) else -1) := Lib.hid (by
            have := tfZ_end (loads := xs) (most := most) (trips := dat rs) (met := met) (fun j hj => HA.out.2.2 j (by rw [dat_len] at hj; omega)) (by have := HA.out.2.1; rw [hkk] at this; exact this)
            rw [dat_len] at this
            exact this)
          have hcm := boolIndex_any (some ⟨w1.heap.size, 0, none⟩) xs.length met _ wr hown.rd
          have HM := Lib.hid HA.out.1
          rw [HM.out] at hcm
          by_cases hfm : false ∈ met
          · rw [show decide (false ∈ met) = true by simpa using hfm] at hcm
            rw [if_pos hfm] at HZ
            go_wp2_with fail
            refine hcm.mono ?_
            rintro e w3 ⟨rfl, rfl⟩
            go_wp2_with fail
            go_ret2
            exact ⟨ret_ii HZ.out.symm rfl, hbel⟩
          · rw [show decide (false ∈ met) = false by simpa using hfm] at hcm
            rw [if_neg hfm] at HZ
            go_wp2_with fail
            refine hcm.mono ?_
            rintro e w3 ⟨rfl, rfl⟩
            go_wp2_with fail
            go_ret2
            exact ⟨ret_ii HZ.out.symm rfl, hbel⟩
    · have HP : Hid (tfP2 xs most (dat rs) = (0, 2)) := Lib.hid (by simp [tfP2, hv, dat_len, hn])
      rw [HP.out]
      clear hv HP
      go_enter Try.func16, Try.ntmps16
      go_wp2_with fail
      refine hc.mono ?_
      rintro e w1 ⟨rfl, hb1⟩
      go_wp2_with fail
      go_ret2
      exact ⟨rfl, hb1⟩
set_option maxHeartbeats 1600000 in
theorem specTripFault_any (A : Option Addr) (c : Nat) (xs : List Int) (most : Int) (A2 : Option Addr) (c2 : Nat) (rs : List (Row Int)) (w : World) (hr : Rd LI w w.heap.size A c xs) (hr2 : RdR LI w w.heap.size A2 c2 rs) :
    Calls Try.prog 17 #[.slice A xs.length c, .int .i64 most, .slice A2 rs.length c2] w fun e w' => e = .returned (.tuple #[.int .i64 (tfP2 xs most (dat rs)).1, .int .i64 (tfP2 xs most (dat rs)).2]) ∧ Below w.heap.size w w' := by
  have hlen := hr.len63
  have hlen2 := hr2.len63
  have hc := l21Ok_any A c xs most w hr
  cases hv : vlB xs most
  · have HP : Hid (tfP2 xs most (dat rs) = (0, 1)) := Lib.hid (by simp [tfP2, hv])
    rw [hv] at hc
    rw [HP.out]
    go_enter Try.func17, Try.ntmps17
    go_wp2_with fail
    refine hc.mono ?_
    rintro e w1 ⟨rfl, hb1⟩
    go_wp2_with fail
    go_ret2
    exact ⟨rfl, hb1⟩
  · rw [hv] at hc
    by_cases hn : rs.length ≤ 100
    · have HP : Hid (tfP2 xs most (dat rs) = (tfZ xs most (dat rs), 0)) := Lib.hid (by simp [tfP2, hv, dat_len, hn])
      rw [HP.out]
      obtain ⟨⟨hm1, hm2⟩, hl, hx⟩ := vlB_parts hv
      have hx5 : ∀ x ∈ xs, 1 ≤ x ∧ x ≤ 5000 := fun x h => by have := hx x h; omega
      clear hv HP
      go_enter Try.func17, Try.ntmps17
      go_wp2_with fail
      refine hc.mono ?_
      rintro e w1 ⟨rfl, hb1⟩
      clear hc
      have hs1 := hb1.size
      go_wp2_with (at_make; refine wpL_make (L := LB) rowB rfl _ _ rfl .i64 .i64 _ _ xs.length rfl rfl rfl rfl (by omega) (by unfold maxLen; omega) false rfl ?_; intro w2 hown hb2)
      have hb2' := bthen hb1 (Nat.le_refl _) hb2
      go_loopw [9] (fun i wr => ∃ (k : Nat) (met : List Bool), k ≤ rs.length ∧ i = .int .i64 k ∧ met.length = xs.length ∧ trAll xs most ((dat rs).take k) = some met ∧ (∀ j, j < k → (trAll xs most ((dat rs).take (j + 1))).isNone = false) ∧
          Own LB 4 wr w.heap.size (some ⟨w1.heap.size, 0, none⟩) xs.length met ∧ Below w.heap.size w wr) (fun i _ => rs.length - (intOf i).toNat)
      case atStart => exact ⟨0, _, by omega, rfl, by simp, rfl, fun j h => by omega, by simpa using hown.lower hs1, hb2'⟩
      case round =>
        obtain ⟨k, met, hk, rfl, hmet, hall, hno, hown, hbel⟩ := hrel
        have HA := Lib.hid (And.intro hmet (And.intro hall hno))
        clear hmet hall hno
        by_cases hlt : k < rs.length
        · obtain ⟨ad, rfl, hab, hcell, hrk⟩ := (hr2.below hbel).at_ hlt
          have hkd : k < (dat rs).length := by rw [dat_len]; exact hlt
          have HS := Lib.hid (trAll_succ xs most (dat rs) hkd)
          have HD : Hid ((dat rs)[k] = rs[k].2.2) := Lib.hid (dat_get rs k hlt)
          have hlr := hrk.len63
          generalize hAk : rs[k].1 = Ak at hrk hcell
          have HAk := Lib.hid hAk
          clear hAk
          go_wp2_with fail
          obtain ⟨wo, rfl⟩ : ∃ wo : World, wo = wr := ⟨_, rfl⟩
          go_loopw [10, 11] (fun s j wr => ∃ (m : Nat) (st : List Bool × Int), m ≤ rs[k].2.2.length ∧ j = .int .i64 m ∧ s = .int .i64 st.2 ∧ trRun xs met (rs[k].2.2.take m) = some st ∧ TrOk xs st ∧ 
              Own LB 4 wr w.heap.size (some ⟨w1.heap.size, 0, none⟩) xs.length st.1 ∧ Below w.heap.size w wr) (fun _ j _ => rs[k].2.2.length - (intOf j).toNat)
          case atStart => exact ⟨0, (met, 0), by omega, rfl, rfl, rfl, trOk0 HA.out.1, hown, hbel⟩
          case round =>
            obtain ⟨m, st, hm, rfl, rfl, hrun, hok, hown2, hbel2⟩ := hrel
            have HR := Lib.hid hrun
            clear hrun
            obtain ⟨hs0, hs5⟩ := hok.bd hl
            have HK := Lib.hid hok
            clear hok
            by_cases hlm : m < rs[k].2.2.length
            · have hrk2 := (hr2.below hbel2).at_ hlt
              rw [HAk.out] at hrk2
              obtain ⟨ad3, hA3, hab3, hcell3, hrk3⟩ := hrk2
              cases hA3
              obtain ⟨ad2, hA2, hab2, hcell2⟩ := hrk3.int hlm
              subst hA2
              have HT := Lib.hid (trRun_succ xs met rs[k].2.2 hlm)
              have HN : Hid (trStep xs (some st) rs[k].2.2[m] = none → tfZ xs most (dat rs) = k) := Lib.hid fun h => by
                refine tfZ_hit hkd HA.out.2.2 ?_
                rw [HS.out, HA.out.2.1, HD.out]
                have hnone : trRun xs met rs[k].2.2 = none := trRun_none (k := m + 1) (by rw [HT.out, HR.out, h])
                simp [trOne, hnone]
              cases hin : inB rs[k].2.2[m] 0 ((xs.length : Int) - 1)
              · have HZ : Hid (tfZ xs most (dat rs) = k) := Lib.hid (HN.out (by simp [trStep, hin]))
                go_wp2_with fail
                refine (l00In_any _ _ _ _).mono ?_
                rintro e w3 ⟨rfl, rfl⟩
                go_wp2_with fail
                go_ret2
                exact ⟨ret_ii HZ.out.symm rfl, hbel2⟩
              · obtain ⟨hv0, hv1⟩ := inB_yes hin
                obtain ⟨q, hq⟩ := Int.eq_ofNat_of_zero_le hv0
                have hql : q < xs.length := by omega
                have hqs : q < st.1.length := by have := HK.out.1; omega
                have hq0 : (q : Int) < xs.length := by omega
                rw [hq] at hcell2 hin
                have HQ := Lib.hid hq
                clear hq hv0 hv1
                obtain ⟨g, hg, hbg, hgl, hcg, hfg⟩ := hown2.bool hqs
                cases hg
                cases hmt : st.1[q]
                · rw [hmt] at hcg
                  obtain ⟨ad5, hA5, hab5, hcell5⟩ := (hr.below hbel2).int hql
                  subst hA5
                  obtain ⟨hxq0, hxq1⟩ := hx5 _ (List.getElem_mem hql)
                  have HE : Hid (trStep xs (some st) rs[k].2.2[m] = some (st.1.set q true, st.2 + xs[q])) := Lib.hid (by
                    simp only [trStep]
                    rw [HQ.out, if_pos ⟨hin, by simp [hqs, hmt]⟩]
                    simp [hql])
                  have HO := Lib.hid (trStep_ok hx5 HK.out HE.out)
                  have hown3 := hown2.setBool q true
                  have hcell4 : (wr.setCell ⟨w1.heap.size, q, none⟩ (.bool true)).cell? (ad5.add q) = some (.int .i64 xs[q]) := by
                    rw [World.cell?_setCell_other _ _ _ _ (fun e => by have := congrArg Addr.block e; rw [block_of_add] at this; simp at this; omega)]; exact hcell5
                  go_wp2_with fail
                  refine (l00In_any _ _ _ _).mono ?_
                  rintro e w3 ⟨rfl, rfl⟩
                  go_wp2_with fail
                  go_roundw
                  case rel => exact ⟨m + 1, (st.1.set q true, st.2 + xs[q]), by omega, by go_num, rfl, by rw [HT.out, HR.out, HE.out], HO.out, hown3, hbel2.setCell hs1 _⟩
                  case measure => simp [intOf]; omega
                · rw [hmt] at hcg
                  have HZ : Hid (tfZ xs most (dat rs) = k) := Lib.hid (HN.out (by
                    simp only [trStep]
                    rw [HQ.out, if_neg]
                    rintro ⟨_, h⟩
                    simp [hqs, hmt] at h))
                  go_wp2_with fail
                  refine (l00In_any _ _ _ _).mono ?_
                  rintro e w3 ⟨rfl, rfl⟩
                  go_wp2_with fail
                  go_ret2
                  exact ⟨ret_ii HZ.out.symm rfl, hbel2⟩
            · have HR' : Hid (trRun xs met rs[k].2.2 = some st) := Lib.hid (by have := HR.out; rw [List.take_of_length_le (by omega)] at this; exact this)
              have hrk2 := (hr2.below hbel2).at_ hlt
              rw [HAk.out] at hrk2
              obtain ⟨ad3, hA3, hab3, hcell3, hrk3⟩ := hrk2
              cases hA3
              by_cases hover : most < st.2
              · have HZ : Hid (tfZ xs most (dat rs) = k) := Lib.hid (tfZ_hit hkd HA.out.2.2 (by rw [HS.out, HA.out.2.1, HD.out]; simp [trOne, HR'.out, hover]))
                go_wp2_with fail
                go_ret2
                exact ⟨ret_ii HZ.out.symm rfl, hbel2⟩
              · by_cases hem : rs[k].2.2.length = 0
                · have HZ : Hid (tfZ xs most (dat rs) = k) := Lib.hid (tfZ_hit hkd HA.out.2.2 (by rw [HS.out, HA.out.2.1, HD.out]; simp [trOne, HR'.out, hem]))
                  have hem0 : ((rs[k].2.2.length : Int) == 0) = true := by rw [beq_iff_eq]; omega
                  have Hem := Lib.hid hem
                  clear hem
                  go_wp2_with fail
                  go_ret2
                  exact ⟨ret_ii HZ.out.symm rfl, hbel2⟩
                · have HE : Hid (trAll xs most ((dat rs).take (k + 1)) = some st.1) := Lib.hid (by rw [HS.out, HA.out.2.1, HD.out]; simp [trOne, HR'.out, hover, hem])
                  have hem0 : ((rs[k].2.2.length : Int) == 0) = false := by rw [beq_eq_false_iff_ne]; omega
                  go_wp2_with fail
                  go_roundw
                  case rel =>
                    refine ⟨k + 1, st.1, by omega, by go_num, HK.out.1, HE.out, fun j hj => ?_, hown2, hbel2⟩
                    by_cases hjk : j < k
                    · exact HA.out.2.2 j hjk
                    · obtain rfl : j = k := by omega
                      rw [HE.out]; rfl
                  case measure => simp [intOf]; omega
        · have hkk : (dat rs).take k = dat rs := List.take_of_length_le (by rw [dat_len]; omega)
          have HZ : Hid (tfZ xs most (dat rs) = if false ∈ met then (rs.length : Int) else -1) := Lib.hid (by
            have := tfZ_end (loads := xs) (most := most) (trips := dat rs) (met := met) (fun j hj => HA.out.2.2 j (by rw [dat_len] at hj; omega)) (by have := HA.out.2.1; rw [hkk] at this; exact this)
            rw [dat_len] at this
            exact this)
          go_wp2_with fail
          obtain ⟨wo, rfl⟩ : ∃ wo : World, wo = wr := ⟨_, rfl⟩
          have HM := Lib.hid HA.out.1
          have HO := Lib.hid hown
          have hown' : ∀ q (h : q < met.length), wo.cell? ⟨w1.heap.size, q, none⟩ = some (.bool met[q]) := fun q h => by
            obtain ⟨g, hg, _, _, hcg, _⟩ := hown.bool h
            cases hg
            exact hcg
          have HOwn := Lib.hid hown'
          clear hown hown'
          go_loop [13] (fun i => ∃ m : Nat, m ≤ xs.length ∧ i = .int .i64 m ∧ ∀ q (h : q < met.length), q < m → met[q] = true) (fun i => xs.length - (intOf i).toNat)
          case atStart => exact ⟨0, by omega, rfl, fun q _ h => by omega⟩
          case round =>
            obtain ⟨m, hm, rfl, hno⟩ := hrel
            have Hno := Lib.hid hno
            clear hno
            by_cases hlm : m < xs.length
            · have hlm2 : m < met.length := by rw [HM.out]; exact hlm
              have hcm := HOwn.out m hlm2
              have hlm0 : (m : Int) < xs.length := by omega
              cases hmt : met[m]
              · rw [hmt] at hcm
                have HZ' : Hid (tfZ xs most (dat rs) = rs.length) := Lib.hid (by rw [HZ.out, if_pos (by rw [← hmt]; exact List.getElem_mem _)])
                go_wp2_with fail
                go_ret2
                exact ⟨ret_ii HZ'.out.symm rfl, hbel⟩
              · rw [hmt] at hcm
                have Hmt := Lib.hid hmt
                clear hmt
                go_wp2_with fail
                go_round
                case rel =>
                  refine ⟨m + 1, by omega, by go_num, fun q hq hqm => ?_⟩
                  by_cases h : q < m
                  · exact Hno.out q hq h
                  · obtain rfl : q = m := by omega
                    exact Hmt.out
                case measure => simp [intOf]; omega
            · have HZ' : Hid (tfZ xs most (dat rs) = -1) := Lib.hid (by
                rw [HZ.out, if_neg]
                intro h
                obtain ⟨j, hj, he⟩ := List.mem_iff_getElem.1 h
                rw [Hno.out j hj (by have := HM.out; omega)] at he
                cases he)
              go_wp2_with fail
              go_ret2
              exact ⟨ret_ii HZ'.out.symm rfl, hbel⟩
    · have HP : Hid (tfP2 xs most (dat rs) = (0, 2)) := Lib.hid (by simp [tfP2, hv, dat_len, hn])
      rw [HP.out]
      clear hv HP
      go_enter Try.func17, Try.ntmps17
      go_wp2_with fail
      refine hc.mono ?_
      rintro e w1 ⟨rfl, hb1⟩
      go_wp2_with fail
      go_ret2
      exact ⟨rfl, hb1⟩
end Go.Proofs.Ytcookepklcbfeaa
