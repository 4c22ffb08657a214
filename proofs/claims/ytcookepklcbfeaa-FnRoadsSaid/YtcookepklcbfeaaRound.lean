/-
  ShortestRound of the program.
-/
import Derived.Test.YtcookepklcbfeaaRoundPlain
import Derived.Test.YtcookepklcbfeaaRises
import Derived.Test.YtcookepklcbfeaaWayB
import Derived.Test.YtcookepklcbfeaaConcat
import Derived.Deep.RegionHeld3
namespace Go.Proofs.Ytcookepklcbfeaa
open Go.ChangeShapes Go.WideShapes Go.RowKit

/-- the table as a function of numbers, -1 outside -/
def DD (X : List (List Int)) (a b : Int) : Int := if 0 ≤ a ∧ a < X.length ∧ 0 ≤ b ∧ b < X.length then Dw X a.toNat b.toNat else -1
theorem DD_in (X : List (List Int)) {a b : Nat} (ha : a < X.length) (hb : b < X.length) : DD X a b = Dw X a b := by unfold DD; rw [if_pos (by omega)]; simp
theorem DD_bd {X : List (List Int)} (h : VR X) (a b : Int) : -1 ≤ DD X a b ∧ DD X a b ≤ 256000 := by
  unfold DD
  split
  · exact Dw_bd h (by omega) (by omega)
  · omega
theorem DD_tri {X : List (List Int)} (h : VR X) (a b c : Int) (h1 : 0 ≤ DD X a b) (h2 : 0 ≤ DD X b c) : 0 ≤ DD X a c ∧ DD X a c ≤ DD X a b + DD X b c := by
  have e1 : 0 ≤ a ∧ a < X.length ∧ 0 ≤ b ∧ b < X.length := by
    by_cases e : 0 ≤ a ∧ a < X.length ∧ 0 ≤ b ∧ b < X.length
    · exact e
    · unfold DD at h1; rw [if_neg e] at h1; omega
  have e2 : 0 ≤ b ∧ b < X.length ∧ 0 ≤ c ∧ c < X.length := by
    by_cases e : 0 ≤ b ∧ b < X.length ∧ 0 ≤ c ∧ c < X.length
    · exact e
    · unfold DD at h2; rw [if_neg e] at h2; omega
  unfold DD at *
  rw [if_pos e1] at h1 ⊢
  rw [if_pos e2] at h2 ⊢
  rw [if_pos (by omega)]
  exact (Pw_wg h (Nat.le_refl _)).tri b.toNat (by omega) a.toNat c.toNat (by omega) (by omega) h1 h2
theorem DD_zero {X : List (List Int)} (h : VR X) : DD X 0 0 = 0 := by
  have := DD_in X (a := 0) (b := 0) (by have := h.1.1; omega) (by have := h.1.1; omega)
  rw [show ((0 : Nat) : Int) = 0 from rfl] at this
  rw [this]
  exact (Pw_wb h (Nat.le_refl _)).dg 0 (by have := h.1.1; omega)
theorem RdR.matAt {w : World} {B c : Nat} {A : Option Addr} {rs : List (Row Int)} (h : RdR LI w B A c rs) {n : Nat} {M : Nat → Nat → Int} (hd : dat rs = mat n M) {i k : Nat} (hi : i < n) (hk : k < n) :
    ∃ ad Ak ck, A = some ad ∧ ad.block < B ∧ w.cell? (ad.add i) = some (.slice (some Ak) n ck) ∧ Ak.block < B ∧ w.cell? (Ak.add k) = some (.int .i64 (M i k)) := by
  have hl : rs.length = n := by rw [← dat_len, hd, mat_len]
  obtain ⟨ad, rfl, hab, hc, hr⟩ := h.at_ (i := i) (by omega)
  have e : rs[i].2.2 = (List.range n).map fun k => M i k := by
    rw [← dat_get rs i (by omega)]
    simp only [hd]
    exact mat_get M (by rw [mat_len]; exact hi)
  obtain ⟨Ak, hA, hkb, hb⟩ := hr.int (k := k) (by rw [e]; simpa using hk)
  refine ⟨ad, Ak, rs[i].2.1, rfl, hab, ?_, hkb, ?_⟩
  · rw [hc, hA, e]; simp
  · rw [hb]
    simp only [e]
    simp
theorem addr_succ (ad : Addr) (k : Nat) : ad.add (k + 1) = ⟨ad.block, ad.off + (k + 1), none⟩ := by unfold Addr.add; simp
theorem Rd.dropK {w : World} {B c : Nat} {ad : Addr} {xs : List Int} (h : Rd LI w B (some ad) c xs) (k : Nat) (hk : k ≤ xs.length) : Rd LI w B (some (ad.add k)) (c - k) (xs.drop k) := by
  refine ⟨by simp; have := h.le; omega, by have := h.cap; omega, fun i hi => ?_⟩
  simp only [List.length_drop] at hi
  obtain ⟨ad', e, hb, hc⟩ := h.at_ (k + i) (by omega)
  cases e
  refine ⟨_, rfl, by rw [block_of_add]; exact hb, fun j u hu => ?_⟩
  rw [add_of_add]
  have := hc j u (by simpa using hu)
  simp only [LI, Nat.mul_one] at this ⊢
  rw [← Nat.add_assoc]
  exact this
theorem RdR.drew {w : World} {B c : Nat} {A : Option Addr} {rs : List (Row Int)} (h : RdR LI w B A c rs) : RdR LI w.drew B A c rs := ⟨h.out.drew, fun r hr => (h.inn r hr).drew⟩
theorem RdR.two {w : World} {T : TypeId} {A1 A2 : Option Addr} {c1 c2 n1 n2 : Nat} {xs ys : List Int} (h1 : Rd LI w w.heap.size A1 c1 xs) (h2 : Rd LI w w.heap.size A2 c2 ys) (e1 : xs.length = n1) (e2 : ys.length = n2) :
    RdR LI (w.alloc (.cells #[.slice A1 n1 c1, .slice A2 n2 c2] T)) (w.heap.size + 1) (some ⟨w.heap.size, 0, none⟩) 2 [(A1, c1, xs), (A2, c2, ys)] := by
  subst e1 e2
  refine ⟨?_, fun r hr => ?_⟩
  · have := (Own.lit (L := LV) (T := T) w (base := w.heap.size) (Nat.le_refl _) rfl [(A1, xs.length, c1), (A2, ys.length, c2)] #[.slice A1 xs.length c1, .slice A2 ys.length c2] 2 rfl (by unfold maxLen; omega) rfl).rd
    simpa [hd] using this
  · simp at hr
    rcases hr with rfl | rfl
    · exact (h1.alloc (Nat.le_refl _) _).more (by omega)
    · exact (h2.alloc (Nat.le_refl _) _).more (by omega)
theorem erase_flat (l : List Int) (k k1 : Nat) (h : k1 = k + 1) (A1 A2 : Option Addr) (c1 c2 : Nat) : (dat [((A1, c1, l.take k) : Row Int), (A2, c2, l.drop k1)]).flatten = l.eraseIdx k := by
  subst h
  rw [List.eraseIdx_eq_take_drop_succ]
  simp [dat]

noncomputable def mnV (D : Int → Int → Int) (a : Int) (l : List Int) : Int := @dite _ (∃ v, Mn D a l v) (Classical.propDecidable _) (fun h => Classical.choose h) (fun _ => -1)
theorem mnV_eq {D : Int → Int → Int} {a : Int} {l : List Int} {v : Int} (h : Mn D a l v) : mnV D a l = v := by
  unfold mnV
  rw [dif_pos ⟨v, h⟩]
  exact (Classical.choose_spec (⟨v, h⟩ : ∃ v, Mn D a l v)).one h
noncomputable def srP (X : List (List Int)) (xs : List Int) : Int × Int := if vrB X = true then (if risB 0 ((X.length : Int) - 1) xs = true then (if mnV (DD X) 0 xs < 0 then (0, 3) else (mnV (DD X) 0 xs, 0)) else (0, 2)) else (0, 1)
set_option maxRecDepth 100000 in
set_option maxHeartbeats 6400000 in
theorem round_any (X : List (List Int)) (hv : VR X) (m : Nat) : ∀ (l : List Int) (i : Nat) (B : Nat) (Aw : Option Addr) (cw : Nat) (rs : List (Row Int)) (w : World) (Al : Option Addr) (cl : Nat), l.length = m → RdR LI w B Aw cw rs → B ≤ w.heap.size → dat rs = mat X.length (Dw X) → Rd LI w w.heap.size Al cl l →
    (∀ p ∈ l, 0 ≤ p ∧ p < X.length) → i < X.length → m ≤ 8 →
    Calls Try.prog 62 #[.slice Aw rs.length cw, .int .i64 i, .slice Al l.length cl] w fun e w' => ∃ v, e = .returned (.int .i64 v) ∧ Mn (DD X) i l v ∧ Below w.heap.size w w' := by
  have hX0 := hv.1.1
  have hX8 := hv.1.2
  have HV := Lib.hid hv
  clear hv
  induction m with
  | zero =>
    intro l i B Aw cw rs w Al cl hl hr hB hd hrl hp hi _
    have hl0 : l = [] := List.length_eq_zero_iff.1 hl
    subst hl0
    obtain ⟨ad, Ak, ck, rfl, hab, hc1, hkb, hc2⟩ := hr.matAt hd hi hX0
    have hrs : rs.length = X.length := by rw [← dat_len, hd, mat_len]
    have h1 : i < rs.length := by omega
    have h2 : (i : Int) < rs.length := by omega
    have h3 : (0 : Int) < X.length := by omega
    have HM : Hid (Mn (DD X) i [] (Dw X i 0)) := Lib.hid (by
      have e := DD_in X hi hX0
      have := Mn.nil_ (D := DD X) (a := i) (DD_bd HV.out _ _).1
      rw [show (0 : Int) = ((0 : Nat) : Int) from rfl, e] at this
      exact this)
    have hc2' : w.cell? Ak = some (.int .i64 (Dw X i 0)) := by
      have : Ak.add 0 = Ak := by unfold Addr.add; simp
      rw [this] at hc2; exact hc2
    clear hc2 hr hd hrl hp hrs
    generalize Dw X i 0 = d at *
    go_enter Try.func62, Try.ntmps62
    go_wp2_with fail
    go_ret
    exact ⟨d, rfl, HM.out, Below.refl _ _⟩
  | succ m ih =>
    intro l i B Aw cw rs w Al cl hl hr hB hd hrl hp hi hm8
    have hz : ((l.length : Int) == 0) = false := by rw [beq_eq_false_iff_ne]; omega
    have hln : l ≠ [] := by intro e; rw [e] at hl; simp at hl
    obtain ⟨al, rfl, hal, hxx⟩ := hrl.int (k := 0) (by omega)
    clear hxx
    obtain ⟨aw, Ak0, ck0, rfl, haw, hx1, hx2, hx3⟩ := hr.matAt hd hi hX0
    clear hx1 hx2 hx3
    have hrs : rs.length = X.length := by rw [← dat_len, hd, mat_len]
    have HP := Lib.hid hp
    have HD := Lib.hid hd
    have HLN := Lib.hid hln
    have HIH := Lib.hid ih
    have hcl := hrl.le
    have hcl2 := hrl.cap
    unfold maxLen at hcl2
    have hl1 : l.length ≤ 8 := by omega
    have HLL := Lib.hid hl
    have h1 : i < rs.length := by omega
    have h2 : (i : Int) < rs.length := by omega
    have hri : (X.length : Int) ≤ 8 := by omega
    clear hp hd hln ih hl hrs
    go_enter Try.func62, Try.ntmps62
    go_wp2_with fail
    go_loopw [7, 23] (fun b j wr => ∃ (k : Nat) (best : Int), k ≤ l.length ∧ j = .int .i64 k ∧ b = .int .i64 best ∧ Hid (RB (DD X) i l k best) ∧ Hid (Below w.heap.size w wr)) (fun _ j _ => l.length - (intOf j).toNat)
    case atStart => exact ⟨0, -1, by omega, rfl, rfl, Lib.hid RB.start, Lib.hid (Below.refl _ _)⟩
    case round =>
      obtain ⟨k, best, hk, rfl, rfl, HR, HB⟩ := hrel
      have hb1 := HR.out.lo
      have hb2 := HR.out.hi (M := 256000) (by omega) (fun a b => (DD_bd HV.out a b).2)
      have hb3 : best ≤ 256000 * 9 := by omega
      clear hb2
      by_cases hlt : k < l.length
      · have hsz := HB.out.size
        have hki : (k : Int) < l.length := by omega
        obtain ⟨al', hA, _, hck⟩ := (hrl.below HB.out).int hlt
        cases hA
        obtain ⟨q, hq⟩ : ∃ q : Nat, l[k] = (q : Int) := ⟨l[k].toNat, by have := HP.out _ (List.getElem_mem hlt); omega⟩
        have hqX : q < X.length := by have := HP.out _ (List.getElem_mem hlt); omega
        rw [hq] at hck
        have HQ := Lib.hid hq
        have HHR : Hid (∀ W : World, Below B w W → RdR LI W B (some aw) cw rs) := Lib.hid fun W hb => hr.below hb
        have hrW : Rd LI wr wr.heap.size (some al) cl l := ((hrl.below HB.out).more hsz)
        have hlk1 : (l.take k).length = k := by simp; omega
        obtain ⟨k1, hk1⟩ : ∃ k1 : Nat, (k : Int) + 1 = (k1 : Int) := ⟨k + 1, by omega⟩
        have hk1n : k1 = k + 1 := by omega
        have hlk2 : (l.drop k1).length = l.length - k1 := by simp
        have hkk : (k1 : Int) ≤ l.length := by omega
        have hkk1 : k1 ≤ l.length := by omega
        have hkc0 : (k : Int) ≤ cl := by omega
        have hkc1 : k ≤ cl := by omega
        have hkw : IntKind.i64.wrap (k1 : Int) = (k1 : Int) := wrapS (by omega) (by omega)
        obtain ⟨A2, hA2⟩ : ∃ A2, (if cl = k1 then some al else some (al.add k1)) = A2 := ⟨_, rfl⟩
        have h2W : Rd LI wr wr.heap.size A2 (cl - k1) (l.drop k1) := by
          rw [← hA2]
          split
          · rw [List.drop_of_length_le (by omega)]
            exact Rd.nil (by unfold maxLen; omega)
          · exact hrW.dropK k1 hkk1
        have hBA : Below w.heap.size w (wr.alloc (.cells #[.slice (some al) k cl, .slice A2 (l.length - k1) (cl - k1)] 24)).drew := below_drewN (HB.out.alloc hsz _) 1
        have hcc := concat_any (some ⟨wr.heap.size, 0, none⟩) 2 [(some al, cl, l.take k), (A2, cl - k1, l.drop k1)] (wr.heap.size + 1) (wr.alloc (.cells #[.slice (some al) k cl, .slice A2 (l.length - k1) (cl - k1)] 24)).drew
          (RdR.two (hrW.take k) h2W hlk1 hlk2).drew (by simp) (by rw [erase_flat l k k1 hk1n, List.length_eraseIdx_of_lt hlt]; omega)
        rw [erase_flat l k k1 hk1n] at hcc
        change Calls Try.prog _ #[.slice (some ⟨wr.heap.size, 0, none⟩) 2 2] _ _ at hcc
        have HEL : Hid ((l.eraseIdx k).length = m) := Lib.hid (by rw [List.length_eraseIdx_of_lt hlt, HLL.out]; omega)
        have HEM : Hid (∀ p ∈ l.eraseIdx k, 0 ≤ p ∧ p < X.length) := Lib.hid fun p hp => HP.out p (List.mem_of_mem_eraseIdx hp)
        have HCC := Lib.hid hcc
        have HBA := Lib.hid hBA
        have HREC : Hid (∀ (W : World) (A5 : Option Addr) (c5 : Nat), Below w.heap.size w W → Rd LI W W.heap.size A5 c5 (l.eraseIdx k) → Calls Try.prog 62 #[.slice (some aw) rs.length cw, .int .i64 q, .slice A5 (l.eraseIdx k).length c5] W fun e w' => ∃ v, e = .returned (.int .i64 v) ∧ Mn (DD X) q (l.eraseIdx k) v ∧ Below W.heap.size W w') := Lib.hid fun W A5 c5 hb hr5 =>
          HIH.out (l.eraseIdx k) q B (some aw) cw rs W A5 c5 HEL.out (hr.below (hb.mono hB)) (by have := hb.size; omega) HD.out hr5 HEM.out hqX (by omega)
        clear hq hk1n hcc hBA h2W hlk1 hlk2 hrW
        go_wp2_with fail
        go_region_held3 (fun _ => True) (trivial) (first | (go_at_call 73; (with_reducible refine HCC.out.mono ?_); rintro e w5 ⟨A5, c5, rfl, ho5, hb5⟩; have HB5 := Lib.hid (bthen HBA.out (Nat.le_refl _) hb5); have HO5 := Lib.hid ho5.rd; clear ho5 hb5) | (go_at_call 62; (with_reducible refine (HREC.out _ _ _ HB5.out HO5.out).mono ?_); rintro e w6 ⟨v, rfl, hM6, hb6⟩; have HB6 := Lib.hid (bthen HB5.out (Nat.le_refl _) hb6); have HM6 := Lib.hid hM6; clear hM6 hb6))
        have hv1 := HM6.out.lo
        have hv2 : v ≤ 256000 * 10 := by
          have := HM6.out.hi (M := 256000) (by omega) (fun a b => (DD_bd HV.out a b).2)
          rw [HEL.out] at this
          omega
        obtain ⟨aw', Ak, ck, hA, hab, hc1, hkb, hc2⟩ := (hr.below (HB6.out.mono hB)).matAt HD.out hi hqX
        cases hA
        have HDD := Lib.hid (DD_in X hi hqX)
        obtain ⟨d0, d1⟩ := Dw_bd HV.out hi hqX
        have hqXi : (q : Int) < X.length := by omega
        generalize Dw X i q = d at *
        have hwr : IntKind.i64.wrap (d + v) = d + v := wrapS (by omega) (by omega)
        by_cases hd0 : d < 0
        · have HR2 := Lib.hid (HR.out.skip hlt (fun h => by rw [HQ.out, HDD.out] at h; omega))
          go_wp2_with fail
          go_roundw
          case rel => exact ⟨k + 1, best, by omega, by go_num, rfl, HR2, HB6⟩
          case measure => simp [intOf]; omega
        · have hd2 : 0 ≤ d := by omega
          by_cases hv0 : v < 0
          · have HR2 := Lib.hid (HR.out.skip hlt (fun _ L t => by
              rcases HM6.out with ⟨g1, g2⟩ | ⟨g1, g2, g3⟩
              · rw [HQ.out] at t; exact g2 L t
              · omega))
            go_wp2_with fail
            go_roundw
            case rel => exact ⟨k + 1, best, by omega, by go_num, rfl, HR2, HB6⟩
            case measure => simp [intOf]; omega
          · have hv3 : 0 ≤ v := by omega
            have HM7 : Hid (Mn (DD X) l[k] (l.eraseIdx k) v) := Lib.hid (by rw [HQ.out]; exact HM6.out)
            have HDL : Hid (DD X i l[k] = d) := Lib.hid (by rw [HQ.out]; exact HDD.out)
            by_cases hb0 : best < 0
            · have HR2 : Hid (RB (DD X) i l (k + 1) (d + v)) := Lib.hid (by
                have := HR.out.new hlt HM7.out hv3 (by rw [HDL.out]; exact hd2) (.inl hb0)
                rwa [HDL.out] at this)
              go_wp2_with fail
              go_roundw
              case rel => exact ⟨k + 1, d + v, by omega, by go_num, rfl, HR2, HB6⟩
              case measure => simp [intOf]; omega
            · have hb4 : 0 ≤ best := by omega
              by_cases hlt2 : d + v < best
              · have HR2 : Hid (RB (DD X) i l (k + 1) (d + v)) := Lib.hid (by
                  have := HR.out.new hlt HM7.out hv3 (by rw [HDL.out]; exact hd2) (.inr (by rw [HDL.out]; exact hlt2))
                  rwa [HDL.out] at this)
                go_wp2_with fail
                go_roundw
                case rel => exact ⟨k + 1, d + v, by omega, by go_num, rfl, HR2, HB6⟩
                case measure => simp [intOf]; omega
              · have hle2 : best ≤ d + v := by omega
                have HR2 := Lib.hid (HR.out.keep hlt HM7.out hb4 (by rw [HDL.out]; exact hle2))
                go_wp2_with fail
                go_roundw
                case rel => exact ⟨k + 1, best, by omega, by go_num, rfl, HR2, HB6⟩
                case measure => simp [intOf]; omega
      · obtain rfl : k = l.length := by omega
        have HM := Lib.hid (HR.out.done HLN.out)
        go_wp2_with fail
        go_ret
        exact ⟨best, rfl, HM.out, HB.out⟩

theorem sr1_any (x : Int) (w : World) :
    Calls Try.prog 65 #[.int .i64 x] w fun e w' => e = .returned (.bool (x == 0)) ∧ w = w' := by
  go_enter Try.func65, Try.ntmps65
  go_wp2
  go_ret
  exact ⟨rfl, rfl⟩
theorem eg_sr1 : ∀ args w, (callFunc 65 args).run Try.prog w = .ok (.enter 65 args) w := by
  intro args w
  kernel_rfl
set_option maxRecDepth 100000 in
set_option maxHeartbeats 6400000 in
theorem implShortestRound_any (A : Option Addr) (c : Nat) (qs : List (Row Int)) (Al : Option Addr) (cl : Nat) (xs : List Int) (w : World) (hr : RdR LI w w.heap.size A c qs) (hrl : Rd LI w w.heap.size Al cl xs) :
    Calls Try.prog 30 #[.slice A qs.length c, .slice Al xs.length cl] w fun e w' => e = .returned (.tuple #[.int .i64 (srP (dat qs) xs).1, .int .i64 (srP (dat qs) xs).2]) ∧ Below w.heap.size w w' := by
  have hlen := hr.len63
  have hlenx := hrl.len63
  have hcv := implValidRoads_any A c qs w hr
  cases hv : vrB (dat qs)
  · have HP : Hid (srP (dat qs) xs = (0, 1)) := Lib.hid (by unfold srP; rw [if_neg (by simp [hv])])
    rw [hv] at hcv
    simp only [HP.out]
    go_enter Try.func30, Try.ntmps30
    go_wp2_with fail
    refine hcv.mono ?_
    rintro e w1 ⟨rfl, hb1⟩
    go_wp2_with fail
    go_ret2
    exact ⟨rfl, by first | exact hb1 | exact hb1.below⟩
  have HV := Lib.hid (dB_true hv)
  have Hv := Lib.hid hv
  rw [hv] at hcv
  clear hv
  have hl8 : qs.length ≤ 8 := by have := HV.out.1.2; rw [dat_len] at this; exact this
  have hX : (dat qs).length = qs.length := dat_len qs
  have hl1 : 1 ≤ qs.length := by have := HV.out.1.1; omega
  obtain ⟨FIN, hFIN⟩ : ∃ F, F = srP (dat qs) xs := ⟨_, rfl⟩
  rw [← hFIN]
  have HNO : Hid (¬ Ris 0 ((qs.length : Int) - 1) xs → FIN = (0, 2)) := Lib.hid fun h => by rw [hFIN]; unfold srP; rw [if_pos Hv.out, hX, if_neg]; intro e; exact h (dB_true e)
  have HYES : Hid (Ris 0 ((qs.length : Int) - 1) xs → FIN = if mnV (DD (dat qs)) 0 xs < 0 then (0, 3) else (mnV (DD (dat qs)) 0 xs, 0)) := Lib.hid fun h => by rw [hFIN]; unfold srP; rw [if_pos Hv.out, hX, if_pos (show risB 0 ((qs.length : Int) - 1) xs = true from dB_yes h)]
  have HX := Lib.hid hX
  clear hX hFIN
  go_enter Try.func30, Try.ntmps30
  go_wp2_with fail
  refine hcv.mono ?_
  rintro e w1 ⟨rfl, hb1⟩
  have hbl : Below w.heap.size w w1 := by first | exact hb1 | exact hb1.below
  clear hb1 hcv
  go_wp2_with fail
  go_loopw [14] (fun i wr => ∃ k : Nat, k ≤ xs.length ∧ i = .int .i64 k ∧ Hid (RisK 0 ((qs.length : Int) - 1) xs k) ∧ wr = w1) (fun i _ => xs.length - (intOf i).toNat)
  case atStart => exact ⟨0, by omega, rfl, Lib.hid (fun i _ h => by omega), by first | rfl | trivial⟩
  case round =>
    obtain ⟨k, hk, rfl, HK, rfl⟩ := hrel
    by_cases hlt : k < xs.length
    · obtain ⟨ad, rfl, hab, hcell⟩ := (hrl.below hbl).int hlt
      have hlt0 : (k : Int) < xs.length := by omega
      have hwi := fun W => within_any xs[k] 0 ((qs.length : Int) - 1) W
      cases hin : inB xs[k] 0 ((qs.length : Int) - 1)
      · have HF : Hid (FIN = (0, 2)) := Lib.hid (HNO.out fun hR => by rw [inB_mk (hR k hlt).1] at hin; cases hin)
        rw [hin] at hwi
        go_wp2_with fail
        refine (hwi _).mono ?_
        rintro e w2 ⟨rfl, rfl⟩
        go_wp2_with fail
        go_ret2
        exact ⟨by rw [HF.out]; rfl, hbl⟩
      · have HI := Lib.hid (inB_yes hin)
        rw [hin] at hwi
        by_cases hk0 : k = 0
        · have hd : decide (0 < k) = false := by simp; omega
          have hd2 : decide ((0 : Int) < (k : Int)) = false := by simp; omega
          have HK0 := Lib.hid hk0
          clear hk0
          go_wp2_with fail
          refine (hwi _).mono ?_
          rintro e w2 ⟨rfl, rfl⟩
          go_wp2_with fail
          go_roundw
          case rel => exact ⟨k + 1, by omega, by go_num, Lib.hid (HK.out.step hlt HI.out (fun h0 => by have := HK0.out; omega)), by first | rfl | trivial⟩
          case measure => simp [intOf]; omega
        · have hd : decide (0 < k) = true := by simp; omega
          have hd1 : (0 : Int) < (k : Int) := by omega
          have hd3 : 0 < k := by omega
          obtain ⟨ad', hA, hab', hcell'⟩ := (hrl.below hbl).int (k := k - 1) (by omega)
          cases hA
          have ht : ((k : Int) - 1).toNat = k - 1 := by omega
          have hp0 : (0 : Int) ≤ (k : Int) - 1 := by omega
          have hp1 : (k : Int) - 1 < xs.length := by omega
          obtain ⟨y, hy⟩ : ∃ y, y = xs[k - 1] := ⟨_, rfl⟩
          rw [← hy] at hcell'
          have HY := Lib.hid hy
          clear hy
          by_cases hle : xs[k] ≤ y
          · have HF : Hid (FIN = (0, 2)) := Lib.hid (HNO.out fun hR => by have h1 := (hR k hlt).2 (by omega); have := HY.out; omega)
            go_wp2_with fail
            refine (hwi _).mono ?_
            rintro e w2 ⟨rfl, rfl⟩
            go_wp2_with fail
            go_ret2
            exact ⟨by rw [HF.out]; rfl, hbl⟩
          · have hgt : y < xs[k] := by omega
            go_wp2_with fail
            refine (hwi _).mono ?_
            rintro e w2 ⟨rfl, rfl⟩
            go_wp2_with fail
            go_roundw
            case rel => exact ⟨k + 1, by omega, by go_num, Lib.hid (HK.out.step hlt HI.out (fun h0 => by have := HY.out; omega)), by first | rfl | trivial⟩
            case measure => simp [intOf]; omega
    · obtain rfl : k = xs.length := by omega
      have hR := HK.out.all
      have HF := Lib.hid (HYES.out hR)
      have hxl : xs.length ≤ 8 := by have := hR.len; omega
      have hzs := hR.zero
      have HMZ : Hid (∀ v, Mn (DD (dat qs)) 0 (xs.filter fun p => !(p == 0)) v → mnV (DD (dat qs)) 0 xs = v) := Lib.hid (fun v hm => by
        rcases hzs with e | e
        · rw [e] at hm; exact mnV_eq hm
        · rw [e]
          refine mnV_eq (Mn.zero (DD_tri HV.out) (DD_zero HV.out) ?_)
          have e2 : (0 :: xs.filter fun p => !(p == 0)).filter (fun p => !(p == 0)) = xs.filter fun p => !(p == 0) := by
            rw [List.filter_cons_of_neg (by simp), List.filter_filter]
            simp
          rw [← e2] at hm
          rw [e2] at hm
          exact hm)
      have HPX : Hid (∀ p ∈ xs.filter (fun p => !(p == 0)), 0 ≤ p ∧ p < (dat qs).length) := Lib.hid (fun p hp => by
        obtain ⟨i, hi, rfl⟩ := List.getElem_of_mem (List.mem_filter.1 hp).1
        have := (hR i hi).1
        rw [HX.out]
        omega)
      have hw := ways_any A c qs w.heap.size wr (hr.below hbl) hbl.size HV.out
      have hflen : (xs.filter fun p => !(p == 0)).length ≤ xs.length := List.length_filter_le _ _
      clear hR hzs
      go_wp2_with fail
      refine hw.mono ?_
      rintro e w3 ⟨A3, c3, rs3, rfl, hO3, hd3, hb3⟩
      have hB3 := bthen hbl (Nat.le_refl _) hb3
      have HB3 := Lib.hid hB3
      have HD3 : Hid (dat rs3 = mat (dat qs).length (Dw (dat qs))) := Lib.hid (by rw [HX.out]; exact hd3)
      have HO3 := Lib.hid hO3
      have hz3 := HB3.out.size
      have hcl := clone_any Al cl xs w.heap.size w3 (hrl.below hB3) hz3 (by omega)
      clear hw hb3 hd3 hO3 hB3
      go_wp2_with fail
      refine hcl.mono ?_
      rintro e w4 ⟨A4, c4, rfl, ho4, hb4⟩
      have hdf := deleteFunc_any A4 c4 xs 65 (fun p => p == 0) w3.heap.size w4 ho4 hb4.size ⟨eg_sr1, fun x W => sr1_any x W⟩
      have HB4 := Lib.hid hb4
      have hz4 := hb4.size
      clear hcl ho4 hb4
      have eg := eg_sr1
      go_wp2_with fail
      refine hdf.mono ?_
      rintro e w5 ⟨A5, c5, rfl, ho5, hb5⟩
      have HB5 : Hid (Below w3.heap.size w3 w5) := Lib.hid (HB4.out.trans hb5)
      have hz5 := HB5.out.size
      have hrd := round_any (dat qs) HV.out (xs.filter fun p => !(p == 0)).length (xs.filter fun p => !(p == 0)) 0 w3.heap.size A3 c3 rs3 w5 A5 c5 rfl (HO3.out.rd.below HB5.out) hz5 HD3.out ho5.rd HPX.out HV.out.1.1 (by omega)
      clear hdf ho5 hb5 eg
      go_wp2_with fail
      refine hrd.mono ?_
      rintro e w6 ⟨v, rfl, hM, hb6⟩
      have HMV := Lib.hid (HMZ.out v hM)
      have HBF := Lib.hid (bthen (HB3.out.trans (HB5.out.mono hz3)) (Nat.le_refl _) hb6)
      clear hM hb6 hrd
      by_cases hv0 : v < 0
      · have HF2 : Hid (FIN = (0, 3)) := Lib.hid (by rw [HF.out, HMV.out, if_pos hv0])
        go_wp2_with fail
        go_ret2
        exact ⟨by rw [HF2.out]; rfl, HBF.out⟩
      · have HF2 : Hid (FIN = (v, 0)) := Lib.hid (by rw [HF.out, HMV.out, if_neg hv0])
        have hv1 : 0 ≤ v := by omega
        go_wp2_with fail
        go_ret2
        exact ⟨by rw [HF2.out]; rfl, HBF.out⟩
end Go.Proofs.Ytcookepklcbfeaa
