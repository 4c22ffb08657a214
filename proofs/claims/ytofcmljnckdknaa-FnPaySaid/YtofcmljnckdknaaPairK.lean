/-
  PairHands of the reference: the whole.
-/
import Derived.Test.YtofcmljnckdknaaPairJ
namespace Go.Proofs.Ytofcmljnckdknaa
open Go.ChangeShapes Go.WideShapes Go.RowKit

theorem rwB_hitV {n : Nat} {row : List Int} {k : Nat} (hk : k < row.length) (h : inB row[k] 0 1000 = false) : rwB n row = true := by
  unfold rwB outB
  rw [Bool.or_eq_true]
  right
  exact List.any_eq_true.2 ⟨row[k], List.getElem_mem hk, by rw [h]; rfl⟩
theorem rwB_hitL {n : Nat} {row : List Int} (h : row.length ≠ n) : rwB n row = true := by
  unfold rwB
  simp [h]
theorem rwB_fine {n : Nat} {row : List Int} (h : row.length = n) (hv : ∀ v ∈ row, inB v 0 1000 = true) : rwB n row = false := by
  unfold rwB outB
  simp only [h, decide_true, Bool.not_true, Bool.false_or, List.any_eq_false]
  intro v hvm
  simp [hv v hvm]
theorem rowB : TyRow Try.prog 77 4 (.bool false) LB.sz 1 := ⟨Try.underlying77, by kernel_rfl⟩

set_option maxRecDepth 100000 in
set_option maxHeartbeats 12800000 in
theorem specPairHands_any (A : Option Addr) (c : Nat) (xs : List HandD) (A2 : Option Addr) (c2 : Nat) (rs : List (Row Int)) (w : World) (hr : Rd LHand w w.heap.size A c xs) (hr2 : RdR LI w w.heap.size A2 c2 rs) (hok : ∀ n ∈ xs, OkHand n) :
    Calls Try.prog 20 #[.slice A xs.length c, .slice A2 rs.length c2] w fun e w' => ∃ B d, e = .returned (.tuple #[.slice B (prP xs (dat rs)).1.length d, .int .i64 (prP xs (dat rs)).2]) ∧ Own LI 2 w' w.heap.size B d (prP xs (dat rs)).1 ∧ Below w.heap.size w w' := by
  have hlen := hr.len63
  have hlen2 := hr2.len63
  have hcv := l23Ok_any A c xs w.heap.size w hr hok
  obtain ⟨FIN, hFIN⟩ : ∃ F, F = prP xs (dat rs) := ⟨_, rfl⟩
  rw [← hFIN]
  cases hg : gangB xs
  · have HP : Hid (FIN = ([], 1)) := Lib.hid (by rw [hFIN]; unfold prP; rw [hg]; rfl)
    rw [hg] at hcv
    clear hFIN hg
    rw [HP.out]
    go_enter Try.func20, Try.ntmps20
    go_wp2_with fail
    refine hcv.mono ?_
    rintro e w1 ⟨rfl, hd⟩
    have hb1 : Below w.heap.size w w1 := by first | exact hd.below | (subst hd; exact Below.refl _ _)
    clear hd
    go_wp2_with fail
    go_ret2
    exact ⟨none, 0, rfl, Own.none_, hb1⟩
  have hx20 := gang_len hg
  rw [hg] at hcv
  have HV : Hid (FIN = if (rs.length = (lyL xs true).length ∧ (dat rs).any (rwB (lyL xs false).length) = false) then
      (if (lyL xs false).length < (lyL xs true).length then ([], 6) else
        if 6 < (lyL xs false).length then ([], 5) else
          (hnd (lyL xs false) ((injs (lyL xs false).length rs.length []).foldl (stp (dat rs)) ([], -1)).1, 0))
      else ([], 2)) := Lib.hid (by rw [hFIN]; unfold prP; rw [hg, dat_len]; rfl)
  clear hFIN hg
  have hll1 := lyL_len xs true
  have hll2 := lyL_len xs false
  have hLT : Hid (∀ W : World, Rd LHand W W.heap.size A c xs → Calls Try.prog 52 #[.slice A xs.length c, .bool true] W fun e w' => ∃ A1 c1, e = .returned (.slice A1 (lyL xs true).length c1) ∧ Own LI 2 w' W.heap.size A1 c1 (lyL xs true) ∧ Below W.heap.size W w') := Lib.hid (fun W h => l23Layers_any A c xs true W.heap.size W (Nat.le_refl _) h hx20)
  have hLF : Hid (∀ W : World, Rd LHand W W.heap.size A c xs → Calls Try.prog 52 #[.slice A xs.length c, .bool false] W fun e w' => ∃ A1 c1, e = .returned (.slice A1 (lyL xs false).length c1) ∧ Own LI 2 w' W.heap.size A1 c1 (lyL xs false) ∧ Below W.heap.size W w') := Lib.hid (fun W h => l23Layers_any A c xs false W.heap.size W (Nat.le_refl _) h hx20)
  generalize lyL xs true = LA at *
  generalize lyL xs false = CA at *
  go_enter Try.func20, Try.ntmps20
  go_wp2_with fail
  refine hcv.mono ?_
  rintro e w1 ⟨rfl, hd⟩
  have hb1 : Below w.heap.size w w1 := by first | exact hd.below | (subst hd; exact Below.refl _ _)
  have HB1 := Lib.hid hb1
  have hc1 := hLT.out w1 ((hr.below hb1).more hb1.size)
  clear hcv hb1 hd
  go_wp2_with fail
  refine hc1.mono ?_
  rintro e w2 ⟨A3, c3, rfl, ho3, hb2⟩
  have HB2 := Lib.hid (bthen HB1.out (Nat.le_refl _) hb2)
  have hcap3 := ho3.len63
  have hc2' := hLF.out w2 ((hr.below HB2.out).more HB2.out.size)
  clear hc1 hb2 ho3
  go_wp2_with fail
  refine hc2'.mono ?_
  rintro e w3 ⟨A4, c4, rfl, ho4, hb3⟩
  have HB3 := Lib.hid (bthen HB2.out (Nat.le_refl _) hb3)
  have hcap4 := ho4.len63
  have HO4 := Lib.hid ho4.rd
  have hs3 := HB3.out.size
  have HR3 := Lib.hid (hr2.below HB3.out)
  clear hc2' hb3 ho4 hLT hLF
  by_cases hl : rs.length = LA.length
  rotate_left
  · have HP : Hid (FIN = ([], 2)) := Lib.hid (by rw [HV.out, if_neg (fun h => hl h.1)])
    have z1 : ((rs.length : Int) != (LA.length : Int)) = true := by rw [bne_iff_ne]; omega
    have z2 : (rs.length != LA.length) = true := by rw [bne_iff_ne]; exact hl
    clear hl
    go_wp2_with fail
    go_ret2
    exact ⟨none, 0, by rw [HP.out]; rfl, by rw [HP.out]; exact Own.none_, HB3.out⟩
  have z1 : ((rs.length : Int) != (LA.length : Int)) = false := by rw [bne_eq_false_iff_eq]; omega
  have z2 : (rs.length != LA.length) = false := by rw [bne_eq_false_iff_eq]; exact hl
  have HL := Lib.hid hl
  have HBAD : Hid ((dat rs).any (rwB CA.length) = true → FIN = ([], 2)) := Lib.hid (fun h => by rw [HV.out, if_neg (fun h2 => by rw [h2.2] at h; cases h)])
  clear hl
  go_wp2_with fail
  go_loopw [8] (fun i wr => ∃ k : Nat, k ≤ rs.length ∧ i = .int .i64 k ∧ Hid (((dat rs).take k).any (rwB CA.length) = false) ∧ Hid (Dr w3 wr)) (fun i _ => rs.length - (intOf i).toNat)
  case atStart => exact ⟨0, by omega, rfl, Lib.hid rfl, Lib.hid (Dr.refl _)⟩
  case round =>
    obtain ⟨k, hk, rfl, HN, HDr⟩ := hrel
    have HRW := Lib.hid (HR3.out.below HDr.out.below)
    have HBW := Lib.hid (HB3.out.trans (HDr.out.below (B := w.heap.size)))
    by_cases hlt : k < rs.length
    · obtain ⟨ad, rfl, hab, hrow, hrr⟩ := HRW.out.at_ hlt
      have hki : (k : Int) < rs.length := by omega
      have hkd : k < (dat rs).length := by rw [dat_len]; exact hlt
      have hde : (dat rs)[k] = rs[k].2.2 := dat_get rs k hlt
      have HHIT : Hid (rwB CA.length rs[k].2.2 = true → FIN = ([], 2)) := Lib.hid (fun h => HBAD.out (List.any_eq_true.2 ⟨(dat rs)[k], List.getElem_mem hkd, by rw [hde]; exact h⟩))
      have HSTEP : Hid (rwB CA.length rs[k].2.2 = false → ((dat rs).take (k + 1)).any (rwB CA.length) = false) := Lib.hid (fun h => by
        rw [List.take_succ_eq_append_getElem hkd, List.any_append, HN.out, hde]
        simp [h])
      have hrl := hrr.len63
      have HRR := Lib.hid hrr
      clear hde hrr
      obtain ⟨wq, rfl⟩ : ∃ wq : World, wq = wr := ⟨_, rfl⟩
      generalize rs[k].1 = Ar at *
      generalize rs[k].2.1 = cr at *
      generalize rs[k].2.2 = row at *
      go_wp2_with fail
      go_loopw [9] (fun i wr => ∃ j : Nat, j ≤ row.length ∧ i = .int .i64 j ∧ Hid (∀ v ∈ row.take j, inB v 0 1000 = true) ∧ Hid (Dr wq wr)) (fun i _ => row.length - (intOf i).toNat)
      case atStart => exact ⟨0, by omega, rfl, Lib.hid (by simp), Lib.hid (Dr.refl _)⟩
      case round =>
        obtain ⟨j, hj, rfl, HA, HDj⟩ := hrel
        have hrow2 := ((HDj.out.below (B := (ad.add k).block + 1)).cell (p := ad.add k) (by omega)).trans hrow
        by_cases hjt : j < row.length
        · obtain ⟨ar, rfl, har, hcell⟩ := (HRR.out.below HDj.out.below).int hjt
          have hji : (j : Int) < row.length := by omega
          cases hin : inB row[j] 0 1000
          · have HP := Lib.hid (HHIT.out (rwB_hitV hjt hin))
            have hin1 := fun W => l00In_any row[j] 0 1000 W
            rw [hin] at hin1
            clear hin
            generalize row[j] = v at *
            have HIN := Lib.hid hin1
            clear hin1
            go_wp2_with (go_at_call 39; refine (HIN.out _).mono ?_; rintro e w' ⟨rfl, rfl⟩)
            go_ret2
            exact ⟨none, 0, by rw [HP.out]; rfl, by rw [HP.out]; exact Own.none_, HBW.out.trans HDj.out.below⟩
          · have HA2 : Hid (∀ v ∈ row.take (j + 1), inB v 0 1000 = true) := Lib.hid (by
              rw [List.take_succ_eq_append_getElem hjt]
              intro y hy
              rcases List.mem_append.1 hy with h2 | h2
              · exact HA.out y h2
              · simp at h2; rw [h2]; exact hin)
            have hin1 := fun W => l00In_any row[j] 0 1000 W
            rw [hin] at hin1
            clear hin
            generalize row[j] = v at *
            have HIN := Lib.hid hin1
            clear hin1
            go_wp2_with (go_at_call 39; refine (HIN.out _).mono ?_; rintro e w' ⟨rfl, rfl⟩)
            go_roundw
            case rel => exact ⟨j + 1, by omega, by go_num, HA2, HDj⟩
            case measure => simp [intOf]; omega
        · obtain rfl : j = row.length := by omega
          have HA2 : Hid (∀ v ∈ row, inB v 0 1000 = true) := Lib.hid (by
            have h := HA.out
            rw [List.take_of_length_le (Nat.le_refl _)] at h
            exact h)
          by_cases hrn : row.length = CA.length
          · have y1 : ((row.length : Int) != (CA.length : Int)) = false := by rw [bne_eq_false_iff_eq]; omega
            have y2 : (row.length != CA.length) = false := by rw [bne_eq_false_iff_eq]; exact hrn
            have HN2 := Lib.hid (HSTEP.out (rwB_fine hrn HA2.out))
            clear hrn
            go_wp2_with fail
            go_roundw
            case rel => exact ⟨k + 1, by omega, by go_num, HN2, Lib.hid (HDr.out.trans HDj.out)⟩
            case measure => simp [intOf]; omega
          · have y1 : ((row.length : Int) != (CA.length : Int)) = true := by rw [bne_iff_ne]; omega
            have y2 : (row.length != CA.length) = true := by rw [bne_iff_ne]; exact hrn
            have HP := Lib.hid (HHIT.out (rwB_hitL hrn))
            clear hrn
            go_wp2_with fail
            go_ret2
            exact ⟨none, 0, by rw [HP.out]; rfl, by rw [HP.out]; exact Own.none_, HBW.out.trans HDj.out.below⟩
    · obtain rfl : k = rs.length := by omega
      have hany : (dat rs).any (rwB CA.length) = false := by
        have h := HN.out
        rw [List.take_of_length_le (by rw [dat_len]; omega)] at h
        exact h
      have HV3 : Hid (FIN = if CA.length < LA.length then ([], 6) else
        if 6 < CA.length then ([], 5) else
          (hnd CA ((injs CA.length rs.length []).foldl (stp (dat rs)) ([], -1)).1, 0)) := Lib.hid (by rw [HV.out, if_pos ⟨HL.out, hany⟩])
      obtain ⟨hrow, hwk⟩ := rwB_no hany
      have HROW := Lib.hid hrow
      have HWK := Lib.hid hwk
      clear hany hrow hwk
      by_cases hlt2 : CA.length < LA.length
      · have HP : Hid (FIN = ([], 6)) := Lib.hid (by rw [HV3.out, if_pos hlt2])
        have hlti : (CA.length : Int) < LA.length := by omega
        go_wp2_with fail
        go_ret2
        exact ⟨none, 0, by rw [HP.out]; rfl, by rw [HP.out]; exact Own.none_, HBW.out⟩
      have hle : LA.length ≤ CA.length := by omega
      have hlei : (LA.length : Int) ≤ CA.length := by omega
      by_cases h6 : 6 < CA.length
      · have HP : Hid (FIN = ([], 5)) := Lib.hid (by rw [HV3.out, if_neg hlt2, if_pos h6])
        have h6i : (6 : Int) < CA.length := by omega
        clear hlt2
        go_wp2_with fail
        go_ret2
        exact ⟨none, 0, by rw [HP.out]; rfl, by rw [HP.out]; exact Own.none_, HBW.out⟩
      have h6n : CA.length ≤ 6 := by omega
      have h6i : (CA.length : Int) ≤ 6 := by omega
      obtain ⟨BEST, hBEST⟩ : ∃ b, b = ((injs CA.length rs.length []).foldl (stp (dat rs)) ([], -1)).1 := ⟨_, rfl⟩
      have HP : Hid (FIN = (hnd CA BEST, 0)) := Lib.hid (by rw [HV3.out, if_neg hlt2, if_neg h6, hBEST])
      have hrs6 : rs.length ≤ 6 := by have := HL.out; omega
      have hbk := fold_keep (fun l => l.length ≤ 6 ∧ LtL CA.length l) (dat rs) (injs CA.length rs.length []) (fun l hl => by
        obtain ⟨h1, h2⟩ := injs_all CA.length rs.length [] (LtL.nil _) l hl
        exact ⟨by rw [h1]; simp; omega, h2⟩) ([], -1) ⟨by simp, LtL.nil _⟩
      have hbk2 : BEST.length ≤ 6 ∧ LtL CA.length BEST := by rw [hBEST]; exact hbk
      obtain ⟨hb6, hbl⟩ := hbk2
      have HBL := Lib.hid hbl
      have HBEST := Lib.hid hBEST
      obtain ⟨wq, rfl⟩ : ∃ wq : World, wq = wr := ⟨_, rfl⟩
      have HOC := Lib.hid (HO4.out.below (HDr.out.below (B := w3.heap.size)))
      have hszq : w3.heap.size ≤ wq.heap.size := (HDr.out.below (B := 0)).size
      have hszw := HBW.out.size
      have hcall : Hid (∀ (W : World) (g : Nat) (Au : Option Addr) (cu : Nat) (Al : Option Addr) (cl : Nat) (Ab : Option Addr) (cb : Nat), PS W wq.heap.size g A2 c2 rs (CA.length : Int) Au cu (List.replicate CA.length false) Al cl [] Ab cb [] (-1) →
          Calls Try.prog 53 #[.pointer (some ⟨g, 0, none⟩), .int .i64 0] W fun e w' => e = .returned (.tuple #[]) ∧ ∃ U Al' cl' Ab' cb' m', PS w' wq.heap.size g A2 c2 rs (CA.length : Int) Au cu U Al' cl' [] Ab' cb' BEST m' ∧ Below wq.heap.size W w') := Lib.hid (fun W g Au cu Al cl Ab cb h => by
        have := pwalk_any (dat rs) HWK.out wq.heap.size g A2 c2 rs rfl CA.length HROW.out h6n (by rw [dat_len]; exact hrs6) rs.length W 0 Au cu (List.replicate CA.length false) Al cl [] Ab cb [] (-1) (by rw [dat_len]; simp) (by simp) (fun k hk => by simp [hk]) (LtL.nil _) rfl (by omega) (by omega) h
        rw [← HBEST.out] at this
        exact this.mono fun e w' ⟨he, a1, a2, a3, a4, h1, h2⟩ => ⟨he, _, a1, a2, a3, a4, _, h1, h2⟩)
      clear hlt2 h6 hbk hbl hBEST
      go_wp2_with (at_make; refine wpL_make (L := LB) rowB rfl _ _ rfl .i64 .i64 _ _ CA.length rfl rfl rfl rfl (by omega) (by unfold maxLen; omega) false rfl ?_; intro w4 hu4 hb4)
      have hs4 := hb4.size
      have hs4b : wq.heap.size < w4.heap.size := (hu4.blk_lt _ rfl).2
      refine (hcall.out _ (w4.heap.size + 2) (some ⟨wq.heap.size, 0, none⟩) CA.length (some ⟨w4.heap.size, 0, none⟩) 0 (some ⟨w4.heap.size + 1, 0, none⟩) 0 ?_).mono ?_
      · have hbW := (((Below.refl w4.heap.size w4).alloc (Nat.le_refl _) (.cells #[] 2)).alloc (by simp) (.cells #[] 2)).alloc (by simp; omega) (.cells #[.slice A2 rs.length c2, .int .i64 CA.length, .slice (some ⟨wq.heap.size, 0, none⟩) CA.length CA.length, .slice (some ⟨w4.heap.size, 0, none⟩) 0 0, .slice (some ⟨w4.heap.size + 1, 0, none⟩) 0 0, .int .i64 (-1)] 79)
        have hlr : (List.replicate CA.length false).length = CA.length := by simp
        refine ⟨by go_simp, by go_simp, by rw [hlr]; go_simp, by go_simp, by go_simp, by go_simp, by go_simp, by go_simp, by go_simp, ?_, (((hu4.alloc _).alloc _).alloc _).lower (by omega), (((Own.lit0 w4 (base := wq.heap.size) (by omega) rfl).alloc _).alloc _), ((Own.lit0 (w4.alloc (.cells #[] 2)) (base := wq.heap.size) (by simp; omega) (by simp)).alloc _), by simp [blk]; omega, by simp [blk], by simp [blk], ?_, ?_, ?_, by omega, by simp⟩
        · exact (((hr2.below HBW.out).more hszw).below hb4).below (hbW.mono (by omega))
        · intro g h1 h2; have e1 : wq.heap.size = g := by simpa [blk] using h1
          have e2 : w4.heap.size = g := by simpa [blk] using h2
          omega
        · intro g h1 h2; have e1 : wq.heap.size = g := by simpa [blk] using h1
          have e2 : w4.heap.size + 1 = g := by simpa [blk] using h2
          omega
        · intro g h1 h2; have e1 : w4.heap.size = g := by simpa [blk] using h1
          have e2 : w4.heap.size + 1 = g := by simpa [blk] using h2
          omega
      rintro e w6 ⟨rfl, U, Al, cl, Ab, cb, mo, hT, hb6w⟩
      have HT := Lib.hid hT
      have k4 := hT.c4
      have hg6 := hT.g1
      have HB4 : Hid (Below w.heap.size w w4) := Lib.hid (HBW.out.trans (hb4.mono hszw))
      have HB6 := Lib.hid ((((HB4.out.alloc HB4.out.size (.cells #[] 2)).alloc (by have := HB4.out.size; simp; omega) (.cells #[] 2)).alloc (by have := HB4.out.size; simp; omega) (.cells #[.slice A2 rs.length c2, .int .i64 CA.length, .slice (some ⟨wq.heap.size, 0, none⟩) CA.length CA.length, .slice (some ⟨w4.heap.size, 0, none⟩) 0 0, .slice (some ⟨w4.heap.size + 1, 0, none⟩) 0 0, .int .i64 (-1)] 79)).trans (hb6w.mono hszw))
      have hs6 := HB6.out.size
      have HOC4 : Hid (Rd LI w4 w3.heap.size A4 c4 CA) := Lib.hid (HOC.out.below (hb4.mono hszq))
      have hbW := (((Below.refl w4.heap.size w4).alloc (Nat.le_refl _) (.cells #[] 2)).alloc (by simp) (.cells #[] 2)).alloc (by simp; omega) (.cells #[.slice A2 rs.length c2, .int .i64 CA.length, .slice (some ⟨wq.heap.size, 0, none⟩) CA.length CA.length, .slice (some ⟨w4.heap.size, 0, none⟩) 0 0, .slice (some ⟨w4.heap.size + 1, 0, none⟩) 0 0, .int .i64 (-1)] 79)
      have HOC6 : Hid (Rd LI w6 w3.heap.size A4 c4 CA) := Lib.hid ((HOC4.out.below (hbW.mono (by omega))).below (hb6w.mono hszq))
      have HOB6 : Hid (Rd LI w6 w6.heap.size Ab cb BEST) := Lib.hid hT.ob.rd
      have hs36 : w3.heap.size ≤ w6.heap.size := by have := hb6w.size; simp at this; omega
      clear hT hb6w hbW hu4 hb4 hcall
      go_wp2_with fail
      go_loopw [11, 12] (fun o i wr => ∃ (k : Nat) (A1 : Option Addr) (c1 : Nat), k ≤ BEST.length ∧ i = .int .i64 k ∧ o = .slice A1 (hnd CA (BEST.take k)).length c1 ∧ Hid (Own LI 2 wr w6.heap.size A1 c1 (hnd CA (BEST.take k))) ∧ Hid (Below w6.heap.size w6 wr)) (fun _ i _ => BEST.length - (intOf i).toNat)
      case atStart => exact ⟨0, _, _, by omega, rfl, rfl, Lib.hid (Own.lit0 w6 (Nat.le_refl _) rfl), Lib.hid ((Below.refl _ _).alloc (Nat.le_refl _) _)⟩
      case round =>
        obtain ⟨k, A1, c1, hk, rfl, rfl, HO1, HB1⟩ := hrel
        have hsz1 := HB1.out.size
        have q4 := (HB1.out.cell (p := ⟨w4.heap.size + 2, 4, none⟩) hg6).trans k4
        have hg7 : w4.heap.size + 2 < wr.heap.size := by omega
        by_cases hlt : k < BEST.length
        · have hki : (k : Int) < BEST.length := by omega
          obtain ⟨ab, rfl, hab, hcb⟩ := (HOB6.out.below HB1.out).int hlt
          obtain ⟨q0, q1⟩ := HBL.out _ (List.getElem_mem hlt)
          obtain ⟨q, hq⟩ : ∃ q : Nat, BEST[k] = (q : Int) := ⟨BEST[k].toNat, by omega⟩
          have hql : q < CA.length := by omega
          have hqi : (q : Int) < CA.length := by omega
          rw [hq] at hcb
          obtain ⟨ac, rfl, hac, hcc⟩ := (HOC6.out.below (HB1.out.mono hs36)).int hql
          have HH : Hid (hnd CA (BEST.take (k + 1)) = hnd CA (BEST.take k) ++ [CA[q]]) := Lib.hid (by
            rw [List.take_succ_eq_append_getElem hlt, hnd_snoc, hq, Int.toNat_natCast, getD_lt CA 0 hql])
          have hl7 : (hnd CA (BEST.take k)).length ≤ 6 := by rw [hnd_len, List.length_take]; omega
          clear hq q0 q1
          generalize hnd CA (BEST.take k) = L1 at *
          generalize CA[q] = cq at *
          go_wp2_with (at_builtin; go_loud (refine wpL_app1 (L := LI) rowI rfl rfl _ _ rfl rfl HO1.out cq _ rfl rfl (by simp) (by unfold maxLen; omega) (by omega) (by omega) ?_); intro A5 c5 w5 ho5 hg5)
          go_roundw
          case rel => exact ⟨k + 1, A5, c5, by omega, by go_num, by rw [HH.out]; simp, Lib.hid (by rw [HH.out]; exact ho5), Lib.hid (Grew.below HB1.out hg5 hsz1 fun g' hg' => (HO1.out.blk_lt g' hg').1)⟩
          case measure => simp [intOf]; omega
        · obtain rfl : k = BEST.length := by omega
          have ho := HO1.out
          rw [List.take_of_length_le (Nat.le_refl _)] at ho
          rw [List.take_of_length_le (Nat.le_refl _)]
          have HO2 := Lib.hid (ho.lower hs6)
          have HBF := Lib.hid (bthen HB6.out (Nat.le_refl _) HB1.out)
          clear ho HO1
          go_wp2_with fail
          go_ret2
          exact ⟨A1, c1, by rw [HP.out]; rfl, by rw [HP.out]; exact HO2.out, HBF.out⟩
end Go.Proofs.Ytofcmljnckdknaa
