/-
  FnRoads returns true for every argument: the walk.
-/
import Derived.Test.YtcookepklcbfeaaRoundS
import Derived.Test.YtcookepklcbfeaaRoadsLaw
import Derived.Test.YtcookepklcbfeaaRoadsDrawB
import Derived.Test.YtcookepklcbfeaaF6
import Derived.Deep.CutRange
namespace Go.Proofs.Ytcookepklcbfeaa
open Go.ChangeShapes Go.WideShapes Go.RowKit

/-- a table's cell, at a row and a place -/
theorem RdR.gtAt {w : World} {B c : Nat} {A : Option Addr} {rs : List (Row Int)} (h : RdR LI w B A c rs) (hV : VR (dat rs)) {p q : Nat} (hp : p < rs.length) (hq : q < rs.length) :
    ∃ ad Ap cp, A = some ad ∧ w.cell? (ad.add p) = some (.slice (some Ap) rs.length cp) ∧ w.cell? (Ap.add q) = some (.int .i64 (gt (dat rs) p q)) := by
  obtain ⟨ad, rfl, _, hc, hr⟩ := h.at_ hp
  have hl : rs[p].2.2.length = rs.length := by
    have := hV.2.1 p (by rw [dat_len]; exact hp)
    rw [getD_dat rs p hp, dat_len] at this
    exact this
  obtain ⟨Ap, hA, _, hcq⟩ := hr.int (k := q) (by omega)
  rw [hl, hA] at hc
  refine ⟨ad, Ap, _, rfl, hc, ?_⟩
  rw [hcq, gt_dat rs p q hp (by omega)]
theorem Rd.tl {w : World} {B c : Nat} {ad : Addr} {xs : List Int} (h : Rd LI w B (some ad) c xs) (h0 : 0 < xs.length) {X : Addr} (hX : X = if c = 1 then ad else ad.add 1) : Rd LI w B (some X) (c - 1) (xs.drop 1) := by
  have hle := h.le
  have hcap := h.cap
  refine ⟨by simp; omega, by omega, fun i hi => ?_⟩
  have hi2 : 1 + i < xs.length := by simp at hi ⊢; omega
  obtain ⟨ad', e, hb, hc⟩ := h.at_ (1 + i) hi2
  cases e
  have hc1 : ¬ c = 1 := by omega
  rw [if_neg hc1] at hX
  subst hX
  refine ⟨_, rfl, by rw [block_of_add]; exact hb, fun j u hu => ?_⟩
  rw [add_of_add]
  have := hc j u (by simpa [Nat.add_comm] using hu)
  rw [show (1 + i) * LI.sz + j = 1 + (i * LI.sz + j) by simp [LI]; omega] at this
  exact this
set_option maxRecDepth 100000 in
set_option maxHeartbeats 12800000 in
theorem lawRoads_any (A : Option Addr) (c : Nat) (cs : List Int) (w : World) (hr : Rd LU w w.heap.size A c cs) (hb : ∀ x ∈ cs, 0 ≤ x ∧ x ≤ 255) :
    Calls Try.prog 4 #[.slice A cs.length c] w fun e w' => e = .returned (.bool true) ∧ Below w.heap.size w w' := by
  have hlen := hr.len63
  have h6 := f6big_any A c cs.length w (by omega)
  have HK0 := Lib.hid (fun (W : World) (h : Below w.heap.size w W) => And.intro ((hr.below h).more h.size) h)
  have HBY := Lib.hid hb
  have hc1 := drawWay_any A c cs w hr hb
  clear hr hb
  cases hbig : decide (4096 < cs.length)
  rotate_left
  · rw [hbig] at h6
    clear hc1
    go_enter Try.func4, Try.ntmps4
    go_wp2_with fail
    refine h6.mono ?_
    rintro e w1 ⟨rfl, rfl⟩
    go_wp2_with fail
    go_ret
    exact ⟨rfl, Below.refl _ _⟩
  rw [hbig] at h6
  go_enter Try.func4, Try.ntmps4
  go_wp2_with fail
  refine h6.mono ?_
  rintro e w0 ⟨rfl, rfl⟩
  go_wp2_with fail
  refine hc1.mono ?_
  rintro e w1 ⟨B1, d1, rs, from_, to_, rfl, _, hr1, hb1⟩
  have HK1 := Lib.hid (fun (W : World) (hW : Below w1.heap.size w1 W) => And.intro (HK0.out W (bthen hb1 (Nat.le_refl _) hW)) (show RdR LI W W.heap.size B1 d1 rs from (hr1.below hW).more hW.size))
  obtain ⟨M, hM⟩ : ∃ M, M = wbwP (dat rs) from_ to_ := ⟨_, rfl⟩
  have hc2 := implWayBetween_any B1 d1 rs from_ to_ w1 hr1
  have HC3 := Lib.hid (fun (W : World) (hW : RdR LI W W.heap.size B1 d1 rs) => specWayBetween_any B1 d1 rs from_ to_ W hW)
  rw [← hM] at hc2 HC3
  obtain ⟨M, pc⟩ := M
  dsimp only at hc2 HC3
  have HM := Lib.hid hM
  obtain ⟨T, hT⟩ : ∃ T, T = swP (dat rs) := ⟨_, rfl⟩
  have HC4 := Lib.hid (fun (W : World) (hW : RdR LI W W.heap.size B1 d1 rs) => implShortestWays_any B1 d1 rs W hW)
  have HC5 := Lib.hid (fun (W : World) (hW : RdR LI W W.heap.size B1 d1 rs) => specShortestWays_any B1 d1 rs W hW)
  rw [← hT] at HC4 HC5
  obtain ⟨T, one⟩ := T
  dsimp only at HC4 HC5
  have HT := Lib.hid hT
  clear h6 hc1 hr1 hb1 hM hT hlen hbig
  as_aux_lemma =>
  go_wp2_with fail
  refine hc2.mono ?_
  rintro e w2 ⟨B2, d2, rfl, ho2, hb2⟩
  have HK2 := Lib.hid (fun (W : World) (hW : Below w2.heap.size w2 W) => And.intro (HK1.out W (bthen hb2 (Nat.le_refl _) hW)) ((ho2.rd.below hW).more hW.size))
  have hc3 := HC3.out w2 (HK2.out w2 (Below.refl _ _)).1.2
  clear hc2 ho2 hb2 HC3 HK1
  go_wp2_with fail
  refine hc3.mono ?_
  rintro e w3 ⟨B3, d3, rfl, ho3, hb3⟩
  have HK3 := Lib.hid (fun (W : World) (hW : Below w3.heap.size w3 W) => And.intro (HK2.out W (bthen hb3 (Nat.le_refl _) hW)) ((ho3.rd.below hW).more hW.size))
  have hc4 := HC4.out w3 (HK3.out w3 (Below.refl _ _)).1.1.2
  clear hc3 ho3 hb3 HC4 HK2
  as_aux_lemma =>
  go_wp2_with fail
  refine hc4.mono ?_
  rintro e w4 ⟨A4, c4, rs4, rfl, ho4, hd4, hb4⟩
  have HD4 := Lib.hid hd4
  have HK4 := Lib.hid (fun (W : World) (hW : Below w4.heap.size w4 W) => And.intro (HK3.out W (bthen hb4 (Nat.le_refl _) hW)) (show RdR LI W W.heap.size A4 c4 rs4 from (ho4.rd.below hW).more hW.size))
  have hc5 := HC5.out w4 (HK4.out w4 (Below.refl _ _)).1.1.1.2
  clear hc4 ho4 hd4 hb4 HC5 HK3
  go_wp2_with fail
  refine hc5.mono ?_
  rintro e w5 ⟨A5, c5, rs5, rfl, ho5, hd5, hb5⟩
  have HD5 := Lib.hid hd5
  have HK5 := Lib.hid (fun (W : World) (hW : Below w5.heap.size w5 W) => And.intro (HK4.out W (bthen hb5 (Nat.le_refl _) hW)) (show RdR LI W W.heap.size A5 c5 rs5 from (ho5.rd.below hW).more hW.size))
  have hc6 := drawRound_any A c cs w5 (HK5.out w5 (Below.refl _ _)).1.1.1.1.1.1 HBY.out
  clear hc5 ho5 hd5 hb5 HK4
  as_aux_lemma =>
  go_wp2_with fail
  refine hc6.mono ?_
  rintro e w6 ⟨B6, d6, rs6, B7, d7, ps, rfl, _, hp7, hr6, hr7, hb6⟩
  obtain ⟨S, hS⟩ : ∃ S, S = srP (dat rs6) ps := ⟨_, rfl⟩
  have hc7 := implShortestRound_any B6 d6 rs6 B7 d7 ps w6 hr6 hr7
  have HC8 := Lib.hid (fun (W : World) (h1 : RdR LI W W.heap.size B6 d6 rs6) (h2 : Rd LI W W.heap.size B7 d7 ps) => specShortestRound_any B6 d6 rs6 B7 d7 ps W h1 h2)
  rw [← hS] at hc7 HC8
  obtain ⟨S, three⟩ := S
  dsimp only at hc7 HC8
  have HS := Lib.hid hS
  have HK6 := Lib.hid (fun (W : World) (hW : Below w6.heap.size w6 W) => And.intro (HK5.out W (bthen hb6 (Nat.le_refl _) hW)) (And.intro (show RdR LI W W.heap.size B6 d6 rs6 from (hr6.below hW).more hW.size) ((hr7.below hW).more hW.size)))
  clear hc6 hr6 hr7 hb6 hS HK5
  go_wp2_with fail
  refine hc7.mono ?_
  rintro e w7 ⟨rfl, hb7⟩
  have HK7 := Lib.hid (fun (W : World) (hW : Below w7.heap.size w7 W) => HK6.out W (bthen hb7 (Nat.le_refl _) hW))
  have hc8 := HC8.out w7 (HK7.out w7 (Below.refl _ _)).2.1 (HK7.out w7 (Below.refl _ _)).2.2
  clear hc7 hb7 HC8 HK6
  go_wp2_with fail
  refine hc8.mono ?_
  rintro e w8 ⟨rfl, hb8⟩
  have HK8 := Lib.hid (fun (W : World) (hW : Below w8.heap.size w8 W) => HK7.out W (bthen hb8 (Nat.le_refl _) hW))
  have hc9 := drawRoads_any A c cs w8 (HK8.out w8 (Below.refl _ _)).1.1.1.1.1.1.1 HBY.out
  clear hc8 hb8 HK7 HBY HK0
  as_aux_lemma =>
  go_wp2_with fail
  refine hc9.mono ?_
  rintro e w9 ⟨B9, d9, rs9, rfl, _, hr9, hb9⟩
  have HC10 := Lib.hid (fun (W : World) (hW : Below w9.heap.size w9 W) => And.intro (implValidRoads_any B9 d9 rs9 W ((hr9.below hW).more hW.size)) (specValidRoads_any B9 d9 rs9 W ((hr9.below hW).more hW.size)))
  have HK9 := Lib.hid (fun (W : World) (hW : Below w9.heap.size w9 W) => HK8.out W (bthen hb9 (Nat.le_refl _) hW))
  have hf1 := f6ints_any B2 B3 d2 d3 M _ w9 (HK9.out w9 (Below.refl _ _)).1.1.1.1.2 (HK9.out w9 (Below.refl _ _)).1.1.1.2
  clear hc9 hr9 hb9 HK8
  go_wp2_with fail
  refine hf1.mono ?_
  rintro e w10 ⟨rfl, hd10⟩
  have hb10 : Below w9.heap.size w9 w10 := hd10.below
  have hf2 := f6lists_any A4 A5 c4 c5 rs4 rs5 _ w10 (HK9.out w10 hb10).1.1.2 (HK9.out w10 hb10).1.2 (by rw [HD4.out, HD5.out])
  clear hf1 hd10
  go_wp2_with fail
  refine hf2.mono ?_
  rintro e w11 ⟨rfl, hd11⟩
  have hb11 := bthen hb10 (Nat.le_refl _) hd11.below
  have hv1 := (HC10.out w11 hb11).1
  clear hf2 hd11 hb10
  as_aux_lemma =>
  go_wp2_with fail
  refine hv1.mono ?_
  rintro e w12 ⟨rfl, hb12⟩
  have hv2 := (HC10.out w12 (bthen hb11 (Nat.le_refl _) hb12)).2
  have hb12' := bthen hb11 (Nat.le_refl _) hb12
  clear hv1 hb11 hb12
  go_wp2_with fail
  refine hv2.mono ?_
  rintro e w13 ⟨rfl, hb13⟩
  have HB13 := Lib.hid (bthen hb12' (Nat.le_refl _) hb13)
  clear hv2 hb12' hb13 HC10
  generalize vrB (dat rs9) = vb9 at *
  have HX1 : Hid (∀ W, Below w9.heap.size w9 W → RdR LI W W.heap.size B1 d1 rs) := Lib.hid (fun W hW => (HK9.out W hW).1.1.1.1.1.2)
  have HM3 : Hid (∀ W, Below w9.heap.size w9 W → Rd LI W W.heap.size B3 d3 M) := Lib.hid (fun W hW => (HK9.out W hW).1.1.1.2)
  have HX5 : Hid (∀ W, Below w9.heap.size w9 W → RdR LI W W.heap.size A5 c5 rs5) := Lib.hid (fun W hW => (HK9.out W hW).1.2)
  have HX6 : Hid (∀ W, Below w9.heap.size w9 W → RdR LI W W.heap.size B6 d6 rs6 ∧ Rd LI W W.heap.size B7 d7 ps) := Lib.hid (fun W hW => (HK9.out W hW).2)
  have HBW : Hid (∀ W, Below w9.heap.size w9 W → Below w.heap.size w W) := Lib.hid (fun W hW => (HK9.out W hW).1.1.1.1.1.1.2)
  clear HK9 HD4
  as_aux_lemma =>
  go_upto_region 14 with fail
  obtain ⟨b3, hb3⟩ : ∃ b, b = (three == 0 && decide (0 < ps.length)) := ⟨_, rfl⟩
  go_cut [123] from 117 to 123 (fun s wx => s = .bool b3 ∧ wx = w13)
  case first =>
    as_aux_lemma =>
    by_cases h1 : three = 0
    · subst h1
      by_cases h2 : 0 < ps.length
      · have hb : b3 = true := by rw [hb3]; simpa using h2
        have h2i : (0 : Int) < ps.length := by omega
        clear hb3
        go_wp2_with fail
        go_meet
        case rel => exact ⟨by rw [hb], rfl⟩
      · have hb : b3 = false := by rw [hb3]; simpa using h2
        have h2i : (ps.length : Int) ≤ 0 := by omega
        clear hb3
        go_wp2_with fail
        go_meet
        case rel => exact ⟨by rw [hb], rfl⟩
    · have hb : b3 = false := by rw [hb3]; simp [h1]
      have h3 : (three == 0) = false := by rw [beq_eq_false_iff_ne]; exact h1
      clear hb3
      go_wp2_with fail
      go_meet
      case rel => exact ⟨by rw [hb], rfl⟩
  case rest =>
  as_aux_lemma =>
  obtain ⟨rfl, rfl⟩ := hcut
  go_upto_if 123 with fail
  go_cut [2] from 117 to 137 (fun s wx => s = .bool false ∧ Below w9.heap.size w9 wx)
  case first =>
    as_aux_lemma =>
    cases b3
    · go_wp2_with fail
      go_meet
      case rel => exact ⟨rfl, HB13.out⟩
    have hb := hb3.symm
    rw [Bool.and_eq_true] at hb
    obtain rfl : three = 0 := by simpa using hb.1
    have hp0 : 0 < ps.length := by simpa using hb.2
    clear hb hb3
    obtain ⟨m, hm, hle⟩ := sr_walk HS.out.symm hp0
    obtain ⟨h6, h7⟩ := HX6.out wc HB13.out
    obtain ⟨ad, rfl, _, _⟩ := h7.int hp0
    have hple := h7.le
    have hpcap := h7.cap
    have hpl : (ps.drop 1).length = ps.length - 1 := by simp
    have p1 : (1 : Int) ≤ ps.length := by omega
    have p2 : (ps.length : Int) ≤ d7 := by omega
    have p3 : d7 ≤ 9223372036854775807 := by unfold maxLen at hpcap; omega
    by_cases hc1 : d7 = 1
    · subst hc1
      have hX : ad = if (1 : Nat) = 1 then ad else ad.add 1 := by rw [if_pos rfl]
      have hcr := implShortestRound_any B6 d6 rs6 (some ad) 0 (ps.drop 1) wc h6 (h7.tl hp0 hX)
      rw [hm, hpl, show ps.length - 1 = 0 by omega] at hcr
      dsimp only at hcr
      clear hX h6 h7 hm hpl
      go_wp2_with fail
      refine hcr.mono ?_
      rintro e wa ⟨rfl, hba⟩
      have HBa := Lib.hid (bthen HB13.out (Nat.le_refl _) hba)
      clear hcr hba
      go_wp2_with fail
      go_meet
      case rel => exact ⟨rfl, HBa.out⟩
    · have hX : ad.add 1 = if d7 = 1 then ad else ad.add 1 := by rw [if_neg hc1]
      have hcr := implShortestRound_any B6 d6 rs6 (some (ad.add 1)) (d7 - 1) (ps.drop 1) wc h6 (h7.tl hp0 hX)
      rw [hm, hpl, show ad.add 1 = ⟨ad.block, ad.off + 1, none⟩ by simp [Addr.add]] at hcr
      dsimp only at hcr
      clear hX h6 h7 hm hpl
      go_wp2_with fail
      refine hcr.mono ?_
      rintro e wa ⟨rfl, hba⟩
      have HBa := Lib.hid (bthen HB13.out (Nat.le_refl _) hba)
      clear hcr hba
      go_wp2_with fail
      go_meet
      case rel => exact ⟨rfl, HBa.out⟩
  case rest =>
  as_aux_lemma =>
  clear HB13 hb3 b3
  obtain ⟨rfl, hK⟩ := hcut
  have HB := Lib.hid hK
  clear hK HX6 HS
  go_upto_if 139 with fail
  obtain ⟨b3, hb3⟩ : ∃ b, b = (one == 0) := ⟨_, rfl⟩
  rw [← hb3]
  go_cut [2] from 138 to 235 (fun s wx => s = .bool false ∧ Below w9.heap.size w9 wx)
  case first =>
    as_aux_lemma =>
    cases b3
    · go_wp2_with fail
      go_meet
      case rel => exact ⟨rfl, HB.out⟩
    obtain rfl : one = 0 := by simpa using hb3.symm
    clear hb3
    obtain ⟨hV, hTm, hsym, htri⟩ := sw_walk HT.out.symm
    obtain ⟨n, hn⟩ : ∃ n, n = (dat rs).length := ⟨_, rfl⟩
    obtain ⟨D, hD⟩ : ∃ D, D = Dw (dat rs) := ⟨_, rfl⟩
    rw [← hn, ← hD] at hsym htri hTm
    have HD5' : Hid (dat rs5 = mat n D) := Lib.hid (by rw [HD5.out, hTm])
    have hn8 : n ≤ 8 := by rw [hn]; exact hV.1.2
    have hl5 : rs5.length = n := by rw [← dat_len rs5, HD5'.out, mat_len]
    have HL5 := Lib.hid hl5
    have hl8 : rs5.length ≤ 8 := by omega
    have HSY := Lib.hid hsym
    have HTR := Lib.hid htri
    clear hV hTm hn hD hl5 hsym htri
    go_wp2_with fail
    go_loopw [2, 23] (fun z i wr => ∃ (i1 : Nat), i1 ≤ rs5.length ∧ z = .bool false ∧ i = .int .i64 i1 ∧ Hid (Below w9.heap.size w9 wr)) (fun _ i _ => rs5.length - (intOf i).toNat)
    case atStart => exact ⟨0, by omega, rfl, rfl, HB⟩
    case round =>
      clear HB
      obtain ⟨i1, hi1, rfl, rfl, HB⟩ := hrel
      obtain ⟨wu, rfl⟩ : ∃ q, q = wr := ⟨_, rfl⟩
      by_cases hlt1 : i1 < rs5.length
      rotate_left
      · have hii : (rs5.length : Int) ≤ i1 := by omega
        go_wp2_with fail
        go_meet
        case rel => exact ⟨rfl, HB.out⟩
      have hii : (i1 : Int) < rs5.length := by omega
      go_wp2_with fail
      go_loopw [2, 24] (fun z i wr => ∃ (k1 : Nat), k1 ≤ rs5.length ∧ z = .bool false ∧ i = .int .i64 k1 ∧ Hid (Below w9.heap.size w9 wr)) (fun _ i _ => rs5.length - (intOf i).toNat)
      case atStart => exact ⟨0, by omega, rfl, rfl, HB⟩
      case round =>
        clear HB
        obtain ⟨k1, hk1, rfl, rfl, HB⟩ := hrel
        obtain ⟨wv, rfl⟩ : ∃ q, q = wr := ⟨_, rfl⟩
        by_cases hlt2 : k1 < rs5.length
        rotate_left
        · have hkk : (rs5.length : Int) ≤ k1 := by omega
          go_wp2_with fail
          go_roundw
          case rel => exact ⟨i1 + 1, by omega, rfl, by go_num, HB⟩
          case measure => simp [intOf]; omega
        have hkk : (k1 : Int) < rs5.length := by omega
        have hin : i1 < n := by have := HL5.out; omega
        have hkn : k1 < n := by have := HL5.out; omega
        have hini : (i1 : Int) < n := by omega
        have hkni : (k1 : Int) < n := by omega
        obtain ⟨ad, Ai, ci, rfl, _, hci, _, hcik⟩ := (HX5.out wv HB.out).matAt HD5'.out hin hkn
        obtain ⟨ad', Ak, ck, hA, _, hck, _, hcki⟩ := (HX5.out wv HB.out).matAt HD5'.out hkn hin
        cases hA
        obtain ⟨s1, s2, s3⟩ := HSY.out i1 k1 hin hkn
        rw [← s1] at hcki
        obtain ⟨dik, hdik⟩ : ∃ v, v = D i1 k1 := ⟨_, rfl⟩
        rw [← hdik] at hcik hcki s2 s3
        have HDIK := Lib.hid hdik
        clear s1 hdik
        go_upto_region 25 with fail
        go_quiet (fail)
        go_wp2_with fail
        go_loopw [2, 25] (fun z i wr => ∃ (m1 : Nat), m1 ≤ rs5.length ∧ z = .bool false ∧ i = .int .i64 m1 ∧ Hid (Below w9.heap.size w9 wr)) (fun _ i _ => rs5.length - (intOf i).toNat)
        case atStart => exact ⟨0, by omega, rfl, rfl, Lib.hid (below_drewN HB.out _)⟩
        case round =>
          clear HB hci hcik hck hcki
          obtain ⟨m1, hm1, rfl, rfl, HB⟩ := hrel
          by_cases hlt3 : m1 < rs5.length
          rotate_left
          · have hmm : (rs5.length : Int) ≤ m1 := by omega
            go_wp2_with fail
            go_roundw
            case rel => exact ⟨k1 + 1, by omega, rfl, by go_num, HB⟩
            case measure => simp [intOf]; omega
          have hmm : (m1 : Int) < rs5.length := by omega
          have hmn : m1 < n := by have := HL5.out; omega
          have hmni : (m1 : Int) < n := by omega
          obtain ⟨ad1, Ai, ci, hA1, _, hci, _, hcim⟩ := (HX5.out wr HB.out).matAt HD5'.out hin hmn
          cases hA1
          obtain ⟨ad1, Am, cm, hA1, _, hcm, _, hcmk⟩ := (HX5.out wr HB.out).matAt HD5'.out hmn hkn
          cases hA1
          obtain ⟨ad1, Ai2, ci2, hA1, _, hci2, _, hcik⟩ := (HX5.out wr HB.out).matAt HD5'.out hin hkn
          cases hA1
          rw [hci] at hci2
          cases hci2
          rw [← HDIK.out] at hcik
          obtain ⟨x2, x3⟩ := (HSY.out i1 m1 hin hmn).2
          obtain ⟨y2, y3⟩ := (HSY.out m1 k1 hmn hkn).2
          have ht := HTR.out i1 m1 k1 hin hmn hkn
          rw [← HDIK.out] at ht
          generalize D i1 m1 = a at *
          generalize D m1 k1 = b at *
          by_cases ha : 0 ≤ a
          rotate_left
          · have ha2 : a < 0 := by omega
            have ha3 : decide (0 ≤ a) = false := decide_eq_false ha
            clear ht ha x2 x3 y2 y3 s2 s3
            go_upto_region 30 with fail
            go_quiet (fail)
            go_wp2_with fail
            go_roundw
            case rel => exact ⟨m1 + 1, by omega, rfl, by go_num, Lib.hid (below_drewN HB.out _)⟩
            case measure => simp [intOf]; omega
          by_cases hb : 0 ≤ b
          rotate_left
          · have hb2 : b < 0 := by omega
            have hb3 : decide (0 ≤ b) = false := decide_eq_false hb
            clear ht hb x2 x3 y2 y3 s2 s3
            go_upto_region 30 with fail
            go_quiet (fail)
            go_wp2_with fail
            go_roundw
            case rel => exact ⟨m1 + 1, by omega, rfl, by go_num, Lib.hid (below_drewN HB.out _)⟩
            case measure => simp [intOf]; omega
          obtain ⟨t1, t2⟩ := ht ha hb
          obtain ⟨sab, hsab⟩ : ∃ v, v = a + b := ⟨_, rfl⟩
          have e1 : IntKind.i64.wrap (a + b) = sab := by rw [hsab]; exact wrapS (by omega) (by omega)
          have e2 : decide (dik < 0) = false := decide_eq_false (by omega)
          have e3 : decide (sab < dik) = false := decide_eq_false (by omega)
          have e4 : dik ≤ sab := by omega
          clear t2 hsab x2 x3 y2 y3 s2 s3
          go_upto_region 30 with fail
          go_quiet (fail)
          go_wp2_with fail
          go_roundw
          case rel => exact ⟨m1 + 1, by omega, rfl, by go_num, Lib.hid (below_drewN HB.out _)⟩
          case measure => simp [intOf]; omega
  case rest =>
  as_aux_lemma =>
  clear HB hb3 b3
  obtain ⟨rfl, hK⟩ := hcut
  have HB := Lib.hid hK
  clear hK
  by_cases h1 : pc = 0
  rotate_left
  · have h3 : (pc != 0) = true := by rw [bne_iff_ne]; exact h1
    by_cases h4 : pc = 3
    · subst h4
      obtain ⟨a, b, rfl, rfl, hV, hvb, ha, hb, hD⟩ := wb_none HM.out.symm rfl
      have hTm := HT.out
      rw [swP_yes hvb] at hTm
      obtain ⟨hT1, hT2⟩ := Prod.mk.inj hTm
      have hd5 := HD5.out
      rw [hT1] at hd5
      obtain ⟨ad, Aa, ca, rfl, _, hca, _, hcb⟩ := (HX5.out wc HB.out).matAt hd5 ha hb
      have hl5 : rs5.length = rs.length := by rw [← dat_len rs5, hd5, mat_len, dat_len]
      rw [dat_len] at ha hb hca
      rw [hD] at hcb
      have ha1 : (a : Int) < rs5.length := by omega
      have hb1 : (b : Int) < rs.length := by omega
      clear hV hvb hTm hT1 hT2 hd5 hl5 hD h1 h3 HM3 HX1
      go_wp2_with fail
      go_ret
      exact ⟨by first | rfl | (simp; done), HBW.out _ HB.out⟩
    · have h5 : (pc != 3) = true := by rw [bne_iff_ne]; exact h4
      go_wp2_with fail
      go_ret
      exact ⟨by first | rfl | (simp; done), HBW.out _ HB.out⟩
  subst h1
  obtain ⟨a, b, rfl, rfl, hV, ha, hb, h0, ⟨hM0, hM00⟩, hch, hlenM⟩ := wb_walk HM.out.symm
  have hTm := HT.out
  rw [swP_yes (show vrB (dat rs) = true from dB_yes hV)] at hTm
  obtain ⟨hT1, hT2⟩ := Prod.mk.inj hTm
  have hd5 := HD5.out
  rw [hT1] at hd5
  have HD5' := Lib.hid hd5
  have hl5 : rs5.length = rs.length := by rw [← dat_len rs5, hd5, mat_len, dat_len]
  have hself := Dw_self hV hb
  have hbab := Dw_bd hV ha hb
  have HV := Lib.hid hV
  have HCH := Lib.hid hch
  have HA := Lib.hid ha
  have HBB := Lib.hid hb
  have HL5 := Lib.hid hl5
  have HSELF := Lib.hid hself
  have hml0 : M.length - 1 < M.length := by omega
  have hlast : M[M.length - 1]'hml0 = (b : Int) := hch.last
  have HLAST := Lib.hid hlast
  have HM00 := Lib.hid hM00
  rw [dat_len] at ha hb
  have hE0 : Hid ((0 : Int) + Dw (dat rs) (M.getD 0 0).toNat b = Dw (dat rs) a b) := Lib.hid (by rw [getD_lt _ _ hM0, hM00, Int.toNat_natCast, Int.zero_add])
  clear hTm hT1 hT2 hd5 hl5 hself hch hlast hM00 hV
  go_wp2_with fail
  go_loopw [2, 26, 27] (fun z s i wr => ∃ (j : Nat) (S : Int), j + 1 ≤ M.length ∧ z = .bool false ∧ s = .int .i64 S ∧ i = .int .i64 ((j : Int) + 1) ∧ Hid (S + Dw (dat rs) (M.getD j 0).toNat b = Dw (dat rs) a b) ∧ Hid (Below w9.heap.size w9 wr)) (fun _ _ i _ => M.length - (intOf i).toNat)
  case atStart => exact ⟨0, 0, by omega, rfl, rfl, by go_num, hE0, HB⟩
  case round =>
    clear HB hE0
    obtain ⟨j, S, hj, rfl, rfl, rfl, HE, HB⟩ := hrel
    by_cases hlt : j + 1 < M.length
    · have hji : (j : Int) + 1 < M.length := by omega
      have hj0 : (j : Int) < M.length := by omega
      have hjl : j < M.length := by omega
      obtain ⟨p, q, hp, hq, hpn, hqn, hg, hgd⟩ := HCH.out.at_ j hlt
      have hgb := gt_bd HV.out hpn hqn
      have hd1 := Dw_bd HV.out hpn HBB.out
      have hd2 := Dw_bd HV.out hqn HBB.out
      rw [dat_len] at hpn hqn
      obtain ⟨am, rfl, _, hcp⟩ := (HM3.out wr HB.out).int hjl
      obtain ⟨am', hA, _, hcq⟩ := (HM3.out wr HB.out).int hlt
      cases hA
      rw [hp] at hcp
      rw [hq] at hcq
      have hcq2 : wr.cell? ⟨am.block, am.off + (j + 1), none⟩ = some (.int .i64 q) := by rw [← addr_succ]; exact hcq
      obtain ⟨ad, Ap, cp, rfl, hcr, hcx⟩ := (HX1.out wr HB.out).gtAt HV.out hpn hqn
      have he := HE.out
      rw [getD_lt _ _ hjl, hp, Int.toNat_natCast] at he
      have HE2 : Hid (S + gt (dat rs) p q + Dw (dat rs) (M.getD (j + 1) 0).toNat b = Dw (dat rs) a b) := Lib.hid (by rw [getD_lt _ _ hlt, hq, Int.toNat_natCast]; omega)
      generalize gt (dat rs) p q = x at *
      have hpI : (p : Int) < rs.length := by omega
      have hqI : (q : Int) < rs.length := by omega
      have hSb : -300000 ≤ S ∧ S ≤ 300000 := by omega
      have e1 : IntKind.i64.wrap ((j : Int) + 1 - 1) = j := by rw [show (j : Int) + 1 - 1 = j by omega]; exact wrapS (by omega) (by omega)
      have e2 : ((j : Int) + 1).toNat = j + 1 := by omega
      clear he hgd hd1 hd2 hp hq
      go_upto_region 38 with fail
      go_quiet (fail)
      clear e1 e2
      go_wp2_with fail
      go_roundw
      case rel => exact ⟨j + 1, S + x, by omega, rfl, rfl, by go_num, HE2, Lib.hid (below_drewN HB.out _)⟩
      case measure => simp [intOf]; omega
    · have hji : (M.length : Int) ≤ (j : Int) + 1 := by omega
      have hjl : j < M.length := by omega
      have hml : M.length - 1 < M.length := by omega
      have hM0 : 0 < M.length := by omega
      have hjm : j = M.length - 1 := by omega
      have hMj : M[j] = (b : Int) := by
        have := HLAST.out
        simp only [hjm]
        exact this
      have he := HE.out
      rw [getD_lt _ _ hjl, hMj, Int.toNat_natCast, HSELF.out, Int.add_zero] at he
      obtain ⟨am, rfl, _, hc0⟩ := (HM3.out wr HB.out).int hM0
      obtain ⟨am', hA, _, hcl⟩ := (HM3.out wr HB.out).int hml
      cases hA
      rw [HM00.out] at hc0
      rw [HLAST.out] at hcl
      have hc0' : wr.cell? am = some (.int .i64 a) := by rw [← hc0]; congr 1
      obtain ⟨ad, Aa, ca, rfl, _, hca, _, hcb⟩ := (HX5.out wr HB.out).matAt HD5'.out HA.out HBB.out
      rw [dat_len] at hca
      rw [← he] at hcb
      have ha1 : (a : Int) < rs5.length := by have := HL5.out; omega
      have hb1 : (b : Int) < rs.length := by omega
      have f2 : ((M.length : Int) - 1).toNat = M.length - 1 := by omega
      have f3 : (0 : Int) ≤ (M.length : Int) - 1 := by omega
      have f4 : (M.length : Int) - 1 < M.length := by omega
      have f5 : (0 : Int) < M.length := by omega
      clear he hMj hjm hc0 HE hlt hjl hj
      go_wp2_with fail
      go_ret
      exact ⟨by first | rfl | (simp; done), HBW.out _ HB.out⟩
end Go.Proofs.Ytcookepklcbfeaa
