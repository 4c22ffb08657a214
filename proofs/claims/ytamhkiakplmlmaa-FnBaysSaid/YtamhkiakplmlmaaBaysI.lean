/-
  BaysFor: the program.
-/
import Derived.Test.YtamhkiakplmlmaaBaysS
import Derived.RegionTactic
namespace Go.Proofs.Ytamhkiakplmlmaa
open Go.ChangeShapes Go.WideShapes Go.RowKit

theorem rowB : TyRow Try.prog 52 4 (.bool false) LB.sz 1 := ⟨Try.underlying52, by kernel_rfl⟩
theorem rowVB : TyRow Try.prog 53 52 (.slice none 0 0) LV.sz 24 := ⟨Try.underlying53, by kernel_rfl⟩
theorem add_succ (ad : Addr) (k : Nat) : ad.add (k + 1) = ⟨ad.block, ad.off + (k + 1), none⟩ := by unfold Addr.add; simp
theorem ris_of {xs : List Int} (h1 : outB xs 500 3000 = false) (h2 : ∀ j (h : j + 1 < xs.length), xs[j] < xs[j + 1]) : Ris 500 3000 xs := by
  intro i hi
  refine ⟨outB_no h1 _ (List.getElem_mem hi), fun h0 => ?_⟩
  have := h2 (i - 1) (by omega)
  simpa only [show i - 1 + 1 = i by omega] using this
theorem ris_out {xs : List Int} (h : Ris 500 3000 xs) : outB xs 500 3000 = false := outB_mk fun x hx => by
  obtain ⟨i, hi, rfl⟩ := List.getElem_of_mem hx
  exact (h i hi).1
theorem bfP_no {len : Int} {xs : List Int} (h : inB len 500 20000 = false ∨ inB xs.length 1 5 = false ∨ ¬ Ris 500 3000 xs) : bfP len xs = ([], 2) := by
  unfold bfP
  rw [if_neg]
  rintro ⟨h1, h2, h3⟩
  rcases h with h | h | h
  · rw [h1] at h; cases h
  · rw [h3] at h; cases h
  · exact h (dB_true h2)
theorem RdR.boolRow {w : World} {B c : Nat} {A : Option Addr} {rs : List (Row Bool)} (h : RdR LB w B A c rs) {bs : List Int} {NN C : Nat} (hd : dat rs = (List.range C).map (rowL bs NN)) {q : Nat} (hq : q < C) (h0 : 0 < NN) :
    ∃ ad Ak ck, A = some ad ∧ ad.block < B ∧ w.cell? (ad.add q) = some (.slice (some Ak) NN ck) ∧ Ak.block < B ∧ ∀ s, s < NN → w.cell? (Ak.add s) = some (.bool (reach bs q (s : Int))) := by
  have hl : rs.length = C := by rw [← dat_len, hd]; simp
  obtain ⟨ad, rfl, hab, hc, hr⟩ := h.at_ (i := q) (by omega)
  have e : rs[q].2.2 = rowL bs NN q := by
    rw [← dat_get rs q (by omega)]
    simp [hd]
  obtain ⟨Ak, hA, hkb, _⟩ := hr.bool (k := 0) (by rw [e, rowL_len]; exact h0)
  refine ⟨ad, Ak, rs[q].2.1, rfl, hab, ?_, hkb, fun s hs => ?_⟩
  · rw [hc, hA, e, rowL_len]
  · obtain ⟨Ak', hA', _, hb⟩ := hr.bool (k := s) (by rw [e, rowL_len]; exact hs)
    rw [hA] at hA'
    cases hA'
    rw [hb]
    simp only [e, rowL_get]

set_option maxRecDepth 100000 in
set_option maxHeartbeats 6400000 in
theorem implBaysFor_any (len : Int) (A : Option Addr) (c : Nat) (xs : List Int) (w : World) (hr : Rd LI w w.heap.size A c xs) :
    Calls Try.prog 6 #[.int .i64 len, .slice A xs.length c] w fun e w' => ∃ A' c', e = .returned (.tuple #[.slice A' (bfP len xs).1.length c', .int .i64 (bfP len xs).2]) ∧ Own LI 2 w' w.heap.size A' c' (bfP len xs).1 ∧ Below w.heap.size w w' := by
  have hlen := hr.len63
  cases hi : inB len 500 20000
  · have HP : Hid (bfP len xs = ([], 2)) := Lib.hid (bfP_no (.inl hi))
    rw [HP.out]
    have hin := fun W => within_any len 500 20000 W
    rw [hi] at hin
    clear hi HP hr
    go_enter Try.func6, Try.ntmps6
    go_wp2_with fail
    refine (hin _).mono ?_
    rintro e w2 ⟨rfl, rfl⟩
    go_wp2_with fail
    go_ret2
    exact ⟨none, 0, rfl, Own.none_, Below.refl _ _⟩
  have hin := fun W => within_any len 500 20000 W
  rw [hi] at hin
  have hin2 := fun W => within_any xs.length 1 5 W
  cases hn5 : inB xs.length 1 5
  · have HP : Hid (bfP len xs = ([], 2)) := Lib.hid (bfP_no (.inr (.inl hn5)))
    rw [HP.out]
    rw [hn5] at hin2
    clear hi HP hr hn5
    go_enter Try.func6, Try.ntmps6
    go_wp2_with fail
    refine (hin _).mono ?_
    rintro e w2 ⟨rfl, rfl⟩
    go_wp2_with fail
    refine (hin2 _).mono ?_
    rintro e w3 ⟨rfl, rfl⟩
    go_wp2_with fail
    go_ret2
    exact ⟨none, 0, rfl, Own.none_, Below.refl _ _⟩
  rw [hn5] at hin2
  have hl5 := inB_yes hn5
  have hl0 : 1 ≤ xs.length := by omega
  have hl6 : xs.length ≤ 5 := by omega
  have hou := outside_any A c xs 500 3000 w hr
  cases hot : outB xs 500 3000
  rotate_left
  · have HP : Hid (bfP len xs = ([], 2)) := Lib.hid (bfP_no (.inr (.inr fun h => by rw [ris_out h] at hot; cases hot)))
    rw [HP.out]
    rw [hot] at hou
    clear hi HP hr hn5 hot hl5
    go_enter Try.func6, Try.ntmps6
    go_wp2_with fail
    refine (hin _).mono ?_
    rintro e w2 ⟨rfl, rfl⟩
    go_wp2_with fail
    refine (hin2 _).mono ?_
    rintro e w3 ⟨rfl, rfl⟩
    go_wp2_with fail
    refine hou.mono ?_
    rintro e w3 ⟨rfl, hb⟩
    go_wp2_with fail
    go_ret2
    exact ⟨none, 0, rfl, Own.none_, hb⟩
  rw [hot] at hou
  obtain ⟨hl1, hl2⟩ := inB_yes hi
  obtain ⟨N, hN⟩ : ∃ N : Nat, (len + 50 - 1) / 50 = (N : Int) := ⟨((len + 50 - 1) / 50).toNat, by omega⟩
  have hN1 : 10 ≤ N := by omega
  have hN2 : N ≤ 400 := by omega
  obtain ⟨FIN, hFIN⟩ : ∃ F, F = bfP len xs := ⟨_, rfl⟩
  have HNO : Hid (¬ Ris 500 3000 xs → FIN = ([], 2)) := Lib.hid fun h => by rw [hFIN]; exact bfP_no (.inr (.inr h))
  have HFIN : Hid (Ris 500 3000 xs → FIN = if (bF (stepsOf xs) N).1 > 20 then ([], 5) else (bOut xs (bF (stepsOf xs) N).1.toNat N, 0)) := Lib.hid (fun hR => by
    rw [hFIN]
    unfold bfP
    rw [if_pos ⟨hi, dB_yes hR, hn5⟩, show (len + 49) / 50 = (N : Int) by omega]
    rfl)
  rw [← hFIN]
  have HOT := Lib.hid hot
  clear hFIN hi hn5 hl5 hot
  go_enter Try.func6, Try.ntmps6
  go_wp2_with fail
  refine (hin _).mono ?_
  rintro e w2 ⟨rfl, rfl⟩
  go_wp2_with fail
  refine (hin2 _).mono ?_
  rintro e w2 ⟨rfl, rfl⟩
  go_wp2_with fail
  refine hou.mono ?_
  rintro e w0 ⟨rfl, hb0⟩
  clear hin hin2 hou
  go_wp2_with fail
  go_loopw [41] (fun i wr => ∃ k : Nat, k + 1 ≤ xs.length ∧ i = .int .i64 k ∧ Hid (∀ j (h : j + 1 < xs.length), j < k → xs[j] < xs[j + 1]) ∧ Below w.heap.size w wr) (fun i _ => xs.length - (intOf i).toNat)
  case atStart => exact ⟨0, by omega, rfl, Lib.hid (fun j _ h => by omega), hb0⟩
  case round =>
    obtain ⟨k, hk, rfl, HK, hbel⟩ := hrel
    by_cases hlt : k + 1 < xs.length
    · obtain ⟨ad, rfl, _, hc1⟩ := (hr.below hbel).int (k := k) (by omega)
      obtain ⟨ad', hA, _, hc2⟩ := (hr.below hbel).int hlt
      cases hA
      rw [add_succ] at hc2
      have hlt0 : (k : Int) < (xs.length : Int) - 1 := by omega
      have hlt1 : (k : Int) + 1 < (xs.length : Int) := by omega
      have hlt2 : (k : Int) < (xs.length : Int) := by omega
      have ht1 : ((k : Int) + 1).toNat = k + 1 := by omega
      have hp1 : (0 : Int) ≤ (k : Int) + 1 := by omega
      have hwk : IntKind.i64.wrap ((k : Int) + 1) = (k : Int) + 1 := wrapS (by omega) (by omega)
      by_cases hle : xs[k + 1] ≤ xs[k]
      · have HR : Hid (FIN = ([], 2)) := Lib.hid (HNO.out fun hR => by have := (hR (k + 1) hlt).2 (by omega); simp only [Nat.add_sub_cancel] at this; omega)
        go_wp2_with fail
        go_quiet (fail)
        go_wp2_with fail
        go_ret2
        exact ⟨none, 0, by rw [HR.out]; rfl, by rw [HR.out]; exact Own.none_, below_drewN hbel _⟩
      · have hgt : xs[k] < xs[k + 1] := by omega
        have HG := Lib.hid hgt
        go_wp2_with fail
        go_quiet (fail)
        go_wp2_with fail
        go_roundw
        case rel =>
          refine ⟨k + 1, by omega, by go_num, Lib.hid (fun j hj hjk => ?_), below_drewN hbel _⟩
          by_cases e : j = k
          · subst e; exact HG.out
          · exact HK.out j hj (by omega)
        case measure => simp [intOf]; omega
    · obtain rfl : k = xs.length - 1 := by omega
      have hR : Ris 500 3000 xs := ris_of HOT.out fun j hj => HK.out j hj (by omega)
      have HZ : Hid (Szs xs) := Lib.hid ⟨hR, hl0, hl6⟩
      have HF := Lib.hid (HFIN.out hR)
      clear hR
      obtain ⟨ad, rfl, _, hcl⟩ := (hr.below hbel).int (k := xs.length - 1) (by omega)
      obtain ⟨y1, y2⟩ := HZ.out.at_ (i := xs.length - 1) (by omega)
      obtain ⟨HM1, HM2⟩ : Hid (xs[xs.length - 1]'(by omega) / 50 ∈ stepsOf xs) ∧ Hid (∀ a ∈ stepsOf xs, a ≤ xs[xs.length - 1]'(by omega) / 50) := ⟨Lib.hid HZ.out.last.1, Lib.hid HZ.out.last.2⟩
      obtain ⟨y, hy⟩ : ∃ y, y = xs[xs.length - 1]'(by omega) := ⟨_, rfl⟩
      rw [← hy] at hcl y1 y2 HM1 HM2
      clear hy
      obtain ⟨M, hM⟩ : ∃ M, y / 50 = M := ⟨_, rfl⟩
      rw [hM] at HM1 HM2
      have m1 : 10 ≤ M := by omega
      have m2 : M ≤ 60 := by omega
      have hcnt := count_eq HZ.out (n := N) HM1.out HM2.out
      have hC0 : 0 ≤ ((N : Int) + M - 1) / M := Int.ediv_nonneg (by omega) (by omega)
      obtain ⟨C, hC⟩ : ∃ C : Nat, ((N : Int) + M - 1) / M = (C : Int) := ⟨(((N : Int) + M - 1) / M).toNat, (Int.toNat_of_nonneg hC0).symm⟩
      have HC : Hid ((bF (stepsOf xs) N).1 = (C : Int)) := Lib.hid (hcnt.trans hC)
      have hq0 : (0 : Int) ≤ (xs.length : Int) - 1 := by omega
      have hq1 : (xs.length : Int) - 1 < (xs.length : Int) := by omega
      have hq2 : ((xs.length : Int) - 1).toNat = xs.length - 1 := by omega
      have hq3 : ((xs.length - 1 : Nat) : Int) = (xs.length : Int) - 1 := by omega
      have hru1 := fun W => roundedUp_any len 50 W (by omega) (by omega) (by omega) (by omega)
      have hru2 := fun W => roundedUp_any (N : Int) M W (by omega) (by omega) (by omega) (by omega)
      rw [hN] at hru1
      rw [hC] at hru2
      have hCb : (C : Int) ≤ N := by have := (bF_bd HZ.out N).2.1; rw [HC.out] at this; exact this
      clear hcnt hC0 hC hN
      by_cases h20 : 20 < C
      · have HF0 : Hid (FIN = ([], 5)) := Lib.hid (by rw [HF.out, HC.out, if_pos (by omega)])
        go_wp2_with fail
        refine (hru1 _).mono ?_
        rintro e w3 ⟨rfl, rfl⟩
        go_wp2_with fail
        refine (hru2 _).mono ?_
        rintro e w3 ⟨rfl, rfl⟩
        go_wp2_with fail
        go_ret2
        exact ⟨none, 0, by rw [HF0.out]; rfl, by rw [HF0.out]; exact Own.none_, hbel⟩
      · have h20b : C ≤ 20 := by omega
        have h20c : (C : Int) ≤ 20 := by omega
        have HF0 : Hid (FIN = (bOut xs C N, 0)) := Lib.hid (by rw [HF.out, HC.out, if_neg (by omega)]; rfl)
        obtain ⟨MO, hMO⟩ : ∃ MO : Nat, (C : Int) * M = (MO : Int) := ⟨((C : Int) * M).toNat, (Int.toNat_of_nonneg (Int.mul_nonneg (by omega) (by omega))).symm⟩
        have hMO2 : MO ≤ 1200 := by
          have := Int.mul_le_mul h20c m2 (by omega) (by omega)
          omega
        have hwr : IntKind.i64.wrap ((C : Int) * M) = (C : Int) * M := wrapS (by omega) (by omega)
        have HMO := Lib.hid hMO
        have HW1 : Hid ((MO : Int) + 1 = ((MO + 1 : Nat) : Int)) := Lib.hid (by omega)
        go_wp2_with fail
        refine (hru1 _).mono ?_
        rintro e w3 ⟨rfl, rfl⟩
        go_wp2_with fail
        refine (hru2 _).mono ?_
        rintro e w3 ⟨rfl, rfl⟩
        have hz0 := hbel.size
        go_wp2_with (at_make; refine wpL_make (L := LB) rowB rfl _ _ rfl .i64 .i64 _ _ (MO + 1) rfl rfl HW1.out HW1.out (by omega) (by unfold maxLen; omega) false rfl ?_; intro w4 hrow hb4; obtain ⟨g', hg', _, hgl, hc0, hf0⟩ := hrow.bool (k := 0) (by simp); cases hg')
        have hz4 := hb4.size
        have HB0 : Hid (Below w.heap.size w ((w4.setCell ⟨wr.heap.size, 0, none⟩ (.bool true)).alloc (.cells #[.slice (some ⟨wr.heap.size, 0, none⟩) (MO + 1) (MO + 1)] 52))) := Lib.hid (((bthen hbel (Nat.le_refl _) hb4).setCell (by exact hz0) _).alloc (by simp; omega) _)
        have HO0 : Hid (OwnR LB 52 4 ((w4.setCell ⟨wr.heap.size, 0, none⟩ (.bool true)).alloc (.cells #[.slice (some ⟨wr.heap.size, 0, none⟩) (MO + 1) (MO + 1)] 52)) w.heap.size (some ⟨w4.heap.size, 0, none⟩) 1 [(some ⟨wr.heap.size, 0, none⟩, MO + 1, rowL (stepsOf xs) (MO + 1) 0)]) := Lib.hid (by
          refine ⟨?_, fun r hr' => ?_, by simp⟩
          · refine Own.lit _ (by simp; omega) (by simp) _ _ 1 rfl (by unfold maxLen; omega) ?_
            simp [hd, LV, rowL_len]
          · simp at hr'
            subst hr'
            have := ((hrow.setBool 0 true).lower hz0).alloc (.cells #[.slice (some ⟨wr.heap.size, 0, none⟩) (MO + 1) (MO + 1)] 52)
            rw [row0] at this
            exact this)
        have HL0 : Hid ([(some (⟨wr.heap.size, 0, none⟩ : Addr), MO + 1, MO + 1)] = [((some ⟨wr.heap.size, 0, none⟩, MO + 1, rowL (stepsOf xs) (MO + 1) 0) : Row Bool)].map hd) := Lib.hid (by simp [hd, rowL_len])
        clear hrow hb4 hbel hcl hc0 hf0 hgl hru1 hru2 hwr hMO hz4
        go_loopw [11, 84] (fun o i wr => ∃ (k : Nat) (Ac : Option Addr) (cc : Nat) (rs : List (Row Bool)) (L1 : List (Option Addr × Nat × Nat)), i = .int .i64 k ∧ k ≤ C ∧ o = .slice Ac L1.length cc ∧ Hid (L1 = rs.map hd) ∧ k + 1 = L1.length ∧ Hid (dat rs = (List.range (k + 1)).map (rowL (stepsOf xs) (MO + 1))) ∧ Hid (OwnR LB 52 4 wr w.heap.size Ac cc rs) ∧ Hid (Below w.heap.size w wr)) (fun _ i _ => C - (intOf i).toNat)
        case atStart => exact ⟨0, _, _, _, _, rfl, by omega, rfl, HL0, rfl, Lib.hid rfl, HO0, HB0⟩
        case round =>
          clear HB0 HO0 HL0 hz0
          obtain ⟨k, Ac, cc, rs, L1, rfl, hkC, rfl, HL, hL1, HD, HO, HB⟩ := hrel
          have HL1 := Lib.hid hL1
          have l1 : L1.length ≤ k + 1 := by omega
          have l2 : k + 1 ≤ L1.length := by omega
          have l1i : (L1.length : Int) ≤ k + 1 := by omega
          have l2i : (k : Int) < L1.length := by omega
          clear hL1
          by_cases hkl : k < C
          · have hkl0 : (k : Int) < C := by omega
            obtain ⟨wq, rfl⟩ : ∃ wq : World, wq = wr := ⟨_, rfl⟩
            obtain ⟨ad0, Ak, ck, rfl, hab0, hck, hkb, hcs⟩ := (HO.out.rd).boolRow HD.out (q := k) (by omega) (by omega)
            have hab1 : (ad0.add k).block < wq.heap.size := by rw [block_of_add]; exact hab0
            have HCS : Hid (∀ m, m < MO + 1 → ∀ wr : World, Below wq.heap.size wq wr → wr.cell? (Ak.add m) = some (.bool (reach (stepsOf xs) k (m : Int)))) := Lib.hid fun m hm wr hb => (hb.cell (p := Ak.add m) (by rw [block_of_add]; exact hkb)).trans (hcs m hm)
            have HBq := Lib.hid HB.out
            have hgq := HB.out.size
            clear hcs HB
            go_wp2_with (at_make; refine wpL_make (L := LB) rowB rfl _ _ rfl .i64 .i64 _ _ (MO + 1) rfl rfl HW1.out HW1.out (by omega) (by unfold maxLen; omega) false rfl ?_; intro w5 hrow5 hb5; have hck5 := (hb5.cell (p := ad0.add k) hab1).trans hck)
            have HR0 := Lib.hid hrow5
            have HB5 := Lib.hid hb5
            clear hrow5 hb5
            go_loopw [95] (fun i wr => ∃ (m : Nat) (R : List Bool), m ≤ MO + 1 ∧ i = .int .i64 m ∧ Hid (RowI (stepsOf xs) (MO + 1) k m 0 R) ∧ Hid (Own LB 4 wr wq.heap.size (some ⟨wq.heap.size, 0, none⟩) (MO + 1) R) ∧ Hid (Below wq.heap.size wq wr)) (fun i _ => MO + 1 - (intOf i).toNat)
            case atStart => exact ⟨0, _, by omega, rfl, Lib.hid (RowI.start (fun a h => by have := HZ.out.mem h; omega) _ _), HR0, HB5⟩
            case round =>
              clear HR0 HB5 hck5
              obtain ⟨m, R, hm, rfl, HI, HR, HB3⟩ := hrel
              by_cases hml : m < MO + 1
              · have hml0 : (m : Int) < (MO : Int) + 1 := by omega
                have hcm := HCS.out m hml wr HB3.out
                cases hre : reach (stepsOf xs) k (m : Int)
                · have HRe := Lib.hid hre
                  rw [hre] at hcm
                  clear hre
                  go_wp2_with fail
                  go_loopw [102] (fun i wr => ∃ (j : Nat) (R : List Bool), j ≤ xs.length ∧ i = .int .i64 j ∧ Hid (RowI (stepsOf xs) (MO + 1) k m j R) ∧ Hid (Own LB 4 wr wq.heap.size (some ⟨wq.heap.size, 0, none⟩) (MO + 1) R) ∧ Hid (Below wq.heap.size wq wr)) (fun i _ => xs.length - (intOf i).toNat)
                  case atStart => exact ⟨0, R, by omega, rfl, HI, HR, HB3⟩
                  case round =>
                    clear HI HR HB3
                    obtain ⟨j, R, hj, rfl, HI, HR, HB3⟩ := hrel
                    by_cases hjl : j < xs.length
                    · obtain ⟨ad', hA, _, hcx⟩ := (hr.below (HBq.out.trans (HB3.out.mono hgq))).int hjl
                      cases hA
                      have hji : (j : Int) < xs.length := by omega
                      have hjs : j < (stepsOf xs).length := by rw [stepsOf_len]; exact hjl
                      have HSJ : Hid ((stepsOf xs)[j]'hjs = xs[j] / 50) := Lib.hid (by rw [← getD_lt _ 0 hjs, stepsOf_get hjl])
                      obtain ⟨x1, x2⟩ := HZ.out.at_ hjl
                      obtain ⟨x, hx⟩ : ∃ x, x = xs[j] := ⟨_, rfl⟩
                      rw [← hx] at hcx x1 x2 HSJ
                      obtain ⟨a, ha⟩ : ∃ a, x / 50 = a := ⟨_, rfl⟩
                      rw [ha] at HSJ
                      have a1 : 10 ≤ a := by omega
                      have a2 : a ≤ 60 := by omega
                      have HJ := Lib.hid hjs
                      clear hx
                      go_wp2_with fail
                      go_roundw
                      case rel => exact ⟨j + 1, R, by omega, by go_num, Lib.hid (HI.out.skip HJ.out (.inl HRe.out)), HR, HB3⟩
                      case measure => simp [intOf]; omega
                    · obtain rfl : j = xs.length := by omega
                      have HI2 : Hid (RowI (stepsOf xs) (MO + 1) k (m + 1) 0 R) := Lib.hid (RowI.next (by have := HI.out; rw [← stepsOf_len xs] at this; exact this))
                      go_wp2_with fail
                      go_roundw
                      case rel => exact ⟨m + 1, R, by omega, by go_num, HI2, HR, HB3⟩
                      case measure => simp [intOf]; omega
                · have HRe := Lib.hid hre
                  rw [hre] at hcm
                  clear hre
                  go_wp2_with fail
                  go_loopw [102] (fun i wr => ∃ (j : Nat) (R : List Bool), j ≤ xs.length ∧ i = .int .i64 j ∧ Hid (RowI (stepsOf xs) (MO + 1) k m j R) ∧ Hid (Own LB 4 wr wq.heap.size (some ⟨wq.heap.size, 0, none⟩) (MO + 1) R) ∧ Hid (Below wq.heap.size wq wr)) (fun i _ => xs.length - (intOf i).toNat)
                  case atStart => exact ⟨0, R, by omega, rfl, HI, HR, HB3⟩
                  case round =>
                    clear HI HR HB3
                    obtain ⟨j, R, hj, rfl, HI, HR, HB3⟩ := hrel
                    by_cases hjl : j < xs.length
                    · obtain ⟨ad', hA, _, hcx⟩ := (hr.below (HBq.out.trans (HB3.out.mono hgq))).int hjl
                      cases hA
                      have hji : (j : Int) < xs.length := by omega
                      have hjs : j < (stepsOf xs).length := by rw [stepsOf_len]; exact hjl
                      have HSJ : Hid ((stepsOf xs)[j]'hjs = xs[j] / 50) := Lib.hid (by rw [← getD_lt _ 0 hjs, stepsOf_get hjl])
                      obtain ⟨x1, x2⟩ := HZ.out.at_ hjl
                      obtain ⟨x, hx⟩ : ∃ x, x = xs[j] := ⟨_, rfl⟩
                      rw [← hx] at hcx x1 x2 HSJ
                      obtain ⟨a, ha⟩ : ∃ a, x / 50 = a := ⟨_, rfl⟩
                      rw [ha] at HSJ
                      have a1 : 10 ≤ a := by omega
                      have a2 : a ≤ 60 := by omega
                      have HJ := Lib.hid hjs
                      clear hx
                      by_cases hnx : (m : Int) + a ≤ (MO : Int)
                      · obtain ⟨p, hp⟩ : ∃ p : Nat, (m : Int) + a = (p : Int) := ⟨((m : Int) + a).toNat, by omega⟩
                        have hpM : p ≤ MO := by omega
                        have hpM1 : (p : Int) ≤ MO := by omega
                        have hpM2 : p < MO + 1 := by omega
                        obtain ⟨g', hg', hgb, hgl, hcp, hfp⟩ := HR.out.bool (k := p) (by rw [HI.out.len]; omega)
                        cases hg'
                        have HI2 : Hid (RowI (stepsOf xs) (MO + 1) k m (j + 1) (R.set p true)) := Lib.hid (HI.out.put HJ.out HRe.out (by rw [HSJ.out]; exact hp.symm))
                        have HR2 := Lib.hid (HR.out.setBool p true)
                        have HB4 := Lib.hid (HB3.out.setCell (p := ⟨wq.heap.size, p, none⟩) (by simp) (.bool true))
                        have hpi : (p : Int) < (MO : Int) + 1 := by omega
                        go_wp2_with fail
                        go_roundw
                        case rel => exact ⟨j + 1, R.set p true, by omega, by go_num, HI2, HR2, HB4⟩
                        case measure => simp [intOf]; omega
                      · have hnx2 : (MO : Int) < (m : Int) + a := by omega
                        have HI2 : Hid (RowI (stepsOf xs) (MO + 1) k m (j + 1) R) := Lib.hid (HI.out.skip HJ.out (.inr (by rw [HSJ.out]; omega)))
                        go_wp2_with fail
                        go_roundw
                        case rel => exact ⟨j + 1, R, by omega, by go_num, HI2, HR, HB3⟩
                        case measure => simp [intOf]; omega
                    · obtain rfl : j = xs.length := by omega
                      have HI2 : Hid (RowI (stepsOf xs) (MO + 1) k (m + 1) 0 R) := Lib.hid (RowI.next (by have := HI.out; rw [← stepsOf_len xs] at this; exact this))
                      go_wp2_with fail
                      go_roundw
                      case rel => exact ⟨m + 1, R, by omega, by go_num, HI2, HR, HB3⟩
                      case measure => simp [intOf]; omega
              · obtain rfl : m = MO + 1 := by omega
                have hRe : R = rowL (stepsOf xs) (MO + 1) (k + 1) := HI.out.done (fun a h => by have := HZ.out.mem h; omega)
                have HRE := Lib.hid hRe
                have hO3 := HO.out.below HB3.out
                have hout : Own LV 52 wr w.heap.size (some ad0) cc L1 := by rw [HL.out]; exact hO3.out
                have hs3 := HB3.out.size
                have HO3 := Lib.hid hO3
                have HlO := Lib.hid HO.out.blk_lt
                clear hRe hO3
                go_wp2_with (at_builtin; go_loud (refine wpL_app1 (L := LV) rowVB rfl rfl _ _ rfl rfl hout (some ⟨wq.heap.size, 0, none⟩, MO + 1, MO + 1) _ rfl rfl (by simp) (by unfold maxLen; omega) (by omega) (by omega) ?_); intro A6 c6 w6 ho6 hg6)
                go_roundw
                case rel =>
                  have e : hd ((some ⟨wq.heap.size, 0, none⟩, MO + 1, R) : Row Bool) = (some ⟨wq.heap.size, 0, none⟩, MO + 1, MO + 1) := by unfold hd; simp only [HI.out.len]
                  have hsn := OwnR.snoc (r := (some ⟨wq.heap.size, 0, none⟩, MO + 1, R)) HO3.out (by decide) (HR.out.lower hgq) (fun s hs g h1 h2 => by have := HlO.out.2 s hs g h1; simp [blk] at h2; omega) (by
                    rw [HL.out] at ho6
                    rw [e]
                    exact ho6) hg6
                  refine ⟨k + 1, A6, c6, _, L1 ++ [(some ⟨wq.heap.size, 0, none⟩, MO + 1, MO + 1)], by go_num, by omega, by simp, Lib.hid ?_, by simp; exact HL1.out, Lib.hid ?_, Lib.hid hsn, Lib.hid ?_⟩
                  · rw [HL.out, List.map_append]
                    simp [e]
                  · rw [dat_append, HD.out, List.range_succ (n := k + 1), List.map_append, HRE.out]
                    rfl
                  · exact Grew.below (HBq.out.trans (HB3.out.mono hgq)) hg6 (by omega) fun g' hg' => (HlO.out.1 g' hg').1
                case measure => simp [intOf]; omega
          · obtain rfl : k = C := by omega
            obtain ⟨wt, rfl⟩ : ∃ wt : World, wt = wr := ⟨_, rfl⟩
            obtain ⟨ad0, Ak, ck, rfl, hab0, hck, hkb, hcs⟩ := (HO.out.rd).boolRow HD.out (q := k) (by omega) (by omega)
            have HRt := Lib.hid HO.out.rd
            have hgt := HB.out.size
            obtain ⟨⟨c', hc1, hc2⟩, hge, hmin⟩ := bF_ok HZ.out.ne HZ.out.pos N
            obtain rfl : c' = k := by have := HC.out; omega
            have hmx := reach_le HM2.out hc2
            rw [HMO.out] at hmx
            obtain ⟨LBn, hLB⟩ : ∃ l : Nat, bL (stepsOf xs) N = (l : Int) := ⟨(bL (stepsOf xs) N).toNat, by omega⟩
            rw [hLB] at hc2 hge hmx hmin
            have hLM : LBn ≤ MO := by omega
            have hNL : N ≤ LBn := by omega
            have HT := Lib.hid hc2
            have HMIN : Hid (∀ l : Nat, N ≤ l → l < LBn → reach (stepsOf xs) c' (l : Int) = false) := Lib.hid (by
              intro l h1 h2
              by_cases e : reach (stepsOf xs) c' (l : Int) = true
              · have := (hmin c' _ e (by omega)).2 hc1
                omega
              · simpa using e)
            have HLB := Lib.hid hLB
            have HCS := Lib.hid hcs
            clear hc1 hc2 hmin hLB hcs hge hmx
            go_wp2_with fail
            go_loopw [19] (fun i wr => ∃ l : Nat, N ≤ l ∧ l ≤ LBn ∧ i = .int .i64 l ∧ wr = wt) (fun i _ => LBn + 1 - (intOf i).toNat)
            case atStart => exact ⟨N, by omega, by omega, rfl, by first | rfl | trivial⟩
            case round =>
              obtain ⟨l, hl1, hl2, rfl, rfl⟩ := hrel
              have hcl := HCS.out l (by omega)
              have hlM : (l : Int) < (MO : Int) + 1 := by omega
              by_cases hll : l < LBn
              · rw [HMIN.out l hl1 hll] at hcl
                go_wp2_with fail
                go_roundw
                case rel => exact ⟨l + 1, by omega, by omega, by go_num, by first | rfl | trivial⟩
                case measure => simp [intOf]; omega
              · obtain rfl : l = LBn := by omega
                rw [HT.out] at hcl
                go_wp2_with fail
                clear hcl hck
                obtain ⟨wt, rfl⟩ : ∃ wt : World, wt = wr := ⟨_, rfl⟩
                go_loopw [20, 19, 21] (fun o i kk wr => ∃ (n c2 l : Nat) (out : List Int) (Ao : Option Addr) (co : Nat), o = .slice Ao out.length co ∧ i = .int .i64 l ∧ kk = .int .i64 ((c2 : Int) - 1) ∧ c2 ≤ c' ∧ Hid ((bF (stepsOf xs) n).1 = c2) ∧ Hid (bL (stepsOf xs) n = l) ∧ l ≤ MO ∧ out.length + c2 ≤ 20 ∧ Hid (FIN.1 = out ++ bOut xs c2 n) ∧ Hid (Own LI 2 wr wt.heap.size Ao co out) ∧ Hid (Below wt.heap.size wt wr)) (fun _ _ kk _ => (intOf kk + 1).toNat)
                case atStart => exact ⟨N, c', l, [], _, _, rfl, rfl, rfl, by omega, HC, HLB, by omega, by simp; omega, Lib.hid (by rw [HF0.out]; rfl), Lib.hid (Own.lit0 _ (Nat.le_refl _) rfl), Lib.hid ((Below.refl _ _).alloc (Nat.le_refl _) _)⟩
                case round =>
                  clear HL HF HNO HFIN HMIN HT hlM hll hl1 hl2 hNL
                  obtain ⟨n, c2, lf, out, Ao, co, rfl, rfl, rfl, hcc, HCN, HLN, hlM, hoc, HE, HOo, HB2⟩ := hrel
                  by_cases hc0 : c2 = 0
                  · have hz1 : (c2 : Int) - 1 < 0 := by omega
                    have hz2 : (c2 : Int) < 1 := by omega
                    have hz3 : c2 < 1 := by omega
                    have HE2 : Hid (FIN = (out, 0)) := Lib.hid (by
                      have := HE.out
                      rw [hc0, bOut, List.append_nil] at this
                      rw [← this, HF0.out])
                    clear hc0
                    go_wp2_with fail
                    go_ret2
                    exact ⟨Ao, co, by rw [HE2.out]; rfl, by rw [HE2.out]; exact HOo.out.lower hgt, HB.out.trans (HB2.out.mono hgt)⟩
                  · have hge1 : (1 : Int) ≤ c2 := by omega
                    have hge2 : 1 ≤ c2 := by omega
                    have hge3 : (0 : Int) ≤ (c2 : Int) - 1 := by omega
                    obtain ⟨q, hq⟩ : ∃ q, c2 = q + 1 := ⟨c2 - 1, by omega⟩
                    have hqi : (c2 : Int) - 1 = (q : Int) := by omega
                    have hqc : q < c' + 1 := by omega
                    have HQ := Lib.hid hq
                    have hn0 : n ≠ 0 := by rintro rfl; have := HCN.out; rw [bF_zero] at this; simp at this; omega
                    obtain ⟨m, rfl⟩ : ∃ m, n = m + 1 := ⟨n - 1, by omega⟩
                    obtain ⟨j, hj, hp, hrj, hno, hcn, hln⟩ := bF_pick HZ.out.ne HZ.out.pos m q (by rw [HCN.out]; omega)
                    rw [stepsOf_len] at hj
                    rw [HLN.out, stepsOf_get hj] at hrj hln
                    rw [stepsOf_get hj] at hcn
                    have HNO2 : Hid (∀ i (hi : i < xs.length), i < j → reach (stepsOf xs) q ((lf : Int) - xs[i] / 50) = false) := Lib.hid fun i hi hij => by
                      have := hno i hij
                      rwa [HLN.out, stepsOf_get hi] at this
                    have HX : Hid (bOut xs c2 (m + 1) = xs[j] :: bOut xs q (bR (m + 1) (xs[j] / 50))) := Lib.hid (by
                      rw [HQ.out, bOut, hp]
                      simp only [Int.toNat_natCast]
                      rw [stepsOf_get hj, getD_lt xs 0 hj])
                    have HRJ := Lib.hid hrj
                    have HCN2 := Lib.hid hcn
                    have HLN2 := Lib.hid hln
                    obtain ⟨ad9, Ak2, ck2, hA9, hab9, hck9, hkb2, hcs9⟩ := HRt.out.boolRow HD.out (q := q) hqc (by omega)
                    cases hA9
                    have hck := (HB2.out.cell (p := ad0.add q) (by rw [block_of_add]; exact hab9)).trans hck9
                    have HCS2 : Hid (∀ s, s < MO + 1 → wr.cell? (Ak2.add s) = some (.bool (reach (stepsOf xs) q (s : Int)))) := Lib.hid fun s hs => (HB2.out.cell (p := Ak2.add s) (by rw [block_of_add]; exact hkb2)).trans (hcs9 s hs)
                    have HBw := Lib.hid (HB.out.trans (HB2.out.mono hgt))
                    have hs2 := HB2.out.size
                    have hqL : q < L1.length := by omega
                    have hqLi : (q : Int) < L1.length := by omega
                    clear hrj hno hcn hln hq hcs9 hck9 hp hn0
                    go_wp2_with fail
                    obtain ⟨wo, rfl⟩ : ∃ wo : World, wo = wr := ⟨_, rfl⟩
                    go_loopw [146, 19, 20] (fun i l o wr => ∃ p : Nat, p ≤ j ∧ i = .int .i64 p ∧ l = .int .i64 lf ∧ o = .slice Ao out.length co ∧ wr = wo) (fun i _ _ _ => j + 1 - (intOf i).toNat)
                    case atStart => exact ⟨0, by omega, rfl, rfl, rfl, by first | rfl | trivial⟩
                    case round =>
                      obtain ⟨p, hpj, rfl, rfl, rfl, rfl⟩ := hrel
                      have hpx : p < xs.length := by omega
                      have hpi : (p : Int) < xs.length := by omega
                      obtain ⟨ad', hA, hab', hcx⟩ := (hr.below HBw.out).int hpx
                      cases hA
                      obtain ⟨x1, x2⟩ := HZ.out.at_ hpx
                      by_cases hpl : p < j
                      · have hno := HNO2.out p hpx hpl
                        obtain ⟨x, hx⟩ : ∃ x, x = xs[p] := ⟨_, rfl⟩
                        rw [← hx] at hcx x1 x2 hno
                        obtain ⟨a, ha⟩ : ∃ a, x / 50 = a := ⟨_, rfl⟩
                        rw [ha] at hno
                        have a1 : 10 ≤ a := by omega
                        have a2 : a ≤ 60 := by omega
                        clear hx
                        by_cases hle : a ≤ lf
                        · obtain ⟨r, hr0⟩ : ∃ r : Nat, (lf : Int) - a = (r : Int) := ⟨((lf : Int) - a).toNat, by omega⟩
                          rw [hr0] at hno
                          have hrM : r < MO + 1 := by omega
                          have hrMi : (r : Int) < (MO : Int) + 1 := by omega
                          have hcr := HCS2.out r hrM
                          rw [hno] at hcr
                          clear hno
                          go_wp2_with fail
                          go_roundw
                          case rel => exact ⟨p + 1, by omega, by go_num, rfl, rfl, by first | rfl | trivial⟩
                          case measure => simp [intOf]; omega
                        · have hneg : (lf : Int) - a < 0 := by omega
                          have hneg2 : (lf : Int) < a := by omega
                          clear hno
                          go_wp2_with fail
                          go_roundw
                          case rel => exact ⟨p + 1, by omega, by go_num, rfl, rfl, by first | rfl | trivial⟩
                          case measure => simp [intOf]; omega
                      · obtain rfl : p = j := by omega
                        have hrj := HRJ.out
                        obtain ⟨x, hx⟩ : ∃ x, x = xs[p] := ⟨_, rfl⟩
                        rw [← hx] at hcx x1 x2 hrj HX HCN2 HLN2
                        obtain ⟨a, ha⟩ : ∃ a, x / 50 = a := ⟨_, rfl⟩
                        rw [ha] at hrj HX HCN2 HLN2
                        have a1 : 10 ≤ a := by omega
                        have a2 : a ≤ 60 := by omega
                        have hnn := reach_nn (fun a h => by have := HZ.out.mem h; omega) hrj
                        obtain ⟨r, hr0⟩ : ∃ r : Nat, (lf : Int) - a = (r : Int) := ⟨((lf : Int) - a).toNat, by omega⟩
                        rw [hr0] at hrj
                        have HLN3 : Hid (bL (stepsOf xs) (bR (m + 1) a) = (r : Int)) := Lib.hid (by rw [HLN2.out, hr0])
                        have hrM : r < MO + 1 := by omega
                        have hrMi : (r : Int) < (MO : Int) + 1 := by omega
                        have hcr := HCS2.out r hrM
                        rw [hrj] at hcr
                        clear hrj hx
                        go_wp2_with (at_builtin; go_loud (refine wpL_app1 (L := LI) rowI rfl rfl _ _ rfl rfl HOo.out x _ rfl rfl rfl (by unfold maxLen; omega) (by omega) (by exact HB2.out.size) ?_); intro An cn wn hon hg1; have HON := Lib.hid hon; have HG1 := Lib.hid hg1; clear hon hg1)
                        go_roundw
                        case rel => exact ⟨bR (m + 1) a, q, r, out ++ [x], An, cn, by simp, rfl, by go_num, by omega, HCN2, HLN3, by omega, by simp; omega, Lib.hid (by rw [HE.out, HX.out]; simp), HON, Lib.hid (Grew.below HB2.out HG1.out hs2 (fun g hg => (HOo.out.blk_lt g hg).1))⟩
                        case measure => simp [intOf]; omega
end Go.Proofs.Ytamhkiakplmlmaa
