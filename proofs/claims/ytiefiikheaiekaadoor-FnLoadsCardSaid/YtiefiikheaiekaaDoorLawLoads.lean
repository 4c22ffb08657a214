/-
  FnLoads returns true for every argument: the walk.
-/
import Derived.Test.YtiefiikheaiekaaDoorMovesImp
import Derived.Test.YtiefiikheaiekaaDoorMovesDrawB
import Derived.Test.YtiefiikheaiekaaDoorYardM
import Derived.Test.YtiefiikheaiekaaDoorYardJ
import Derived.Test.YtiefiikheaiekaaDoorOpen8
namespace Go.Proofs.YtiefiikheaiekaaDoor
open Go.ChangeShapes Go.WideShapes Go.RowKit

theorem open_bytes_nil {H : Type} {enc : TypeId × Value → H} {W : World} {a : Option Addr} {len cap : Nat} {d : DataW H} {p : List MemPlace} {t e : TypeId} (ht : Tryd.prog.underlying t = some (.slice e)) (he : Tryd.prog.underlying e = some (.int .u8)) (hc : Tryd.prog.cellsOf e = 1)
    (h0 : DataW.Trod enc Tryd.prog W 0 (fun _ => true) true t (.slice a len cap) d p) : a = none → cap = 0 := by
  obtain ⟨fuel, hf⟩ := h0
  rcases open_ints ht he hc hf with ⟨hcs, _⟩ | ⟨x, l, c, zs, hcs, _, hl, hm, hz, _, hcell, hwz⟩
  · simp [Value.cells] at hcs
    exact fun _ => hcs.2.2
  · simp [Value.cells] at hcs
    intro e
    rw [hcs.1] at e
    cases e
theorem loads_few {X : List (List Int)} {o : List Int} {n : Nat} (hv : Inv X o) (hl : ∀ L' n', Sol X o L' n' → n ≤ n') {N : Nat} (hN : X.length = N) {D : List (Int × Int)} (h : N ≤ 1 ∧ D = [] ∨ Sol X o D (cntM D)) (h5 : (ldP X o D).2 = 0) : n ≤ cntM D := by
  rcases h with ⟨_, rfl⟩ | h
  · have e := ld_nil hv h5
    subst e
    exact hl [] 0 .done
  · exact hl _ _ h

set_option maxRecDepth 100000 in
set_option maxHeartbeats 12800000 in
theorem lawLoads_any (A : Option Addr) (c : Nat) (cs : List Int) (A2 : Option Addr) (c2 : Nat) (ds : List Int) (w : World) (hr : Rd LU w w.heap.size A c cs) (hr2 : Rd LU w w.heap.size A2 c2 ds) (hb : ∀ x ∈ cs, 0 ≤ x ∧ x ≤ 255) (hb2 : ∀ x ∈ ds, 0 ≤ x ∧ x ≤ 255) (hn1 : A = none → c = 0) (hn2 : A2 = none → c2 = 0) (hT : TabW w) :
    Calls Tryd.prog 5 #[.slice A cs.length c, .slice A2 ds.length c2] w fun e w' => e = .returned (.bool true) ∧ Below w.heap.size w w' := by
  have hlen := hr.len63
  have hlen2 := hr2.len63
  have h6 := a2Long_any A c cs.length A2 c2 ds.length w (by omega) (by omega)
  have hc1 := specA2Yard_any A c cs w hr hb
  have HK0 := Lib.hid (fun (W : World) (h : Below w.heap.size w W) => And.intro ((hr.below h).more h.size) (And.intro ((hr2.below h).more h.size) (tab_below hT h (Nat.le_refl _))))
  have HBY := Lib.hid (And.intro hb hb2)
  have HNN := Lib.hid (And.intro hn1 hn2)
  clear hr hr2 hb hb2 hn1 hn2 hT
  by_cases hbig : 3000 < cs.length ∨ 3000 < ds.length
  · have hbg : (decide (3000 < cs.length) || decide (3000 < ds.length)) = true := by
      rcases hbig with h | h <;> simp [h]
    rw [hbg] at h6
    clear hc1 hbig hbg
    go_enter Tryd.func5, Tryd.ntmps5
    go_wp2_with fail
    refine h6.mono ?_
    rintro e w1 ⟨rfl, rfl⟩
    go_wp2_with fail
    go_ret
    exact ⟨rfl, Below.refl _ _⟩
  have HLN : Hid (cs.length ≤ 3000 ∧ ds.length ≤ 3000) := Lib.hid (by omega)
  have hbg : (decide (3000 < cs.length) || decide (3000 < ds.length)) = false := by
    rw [decide_eq_false (fun h => hbig (.inl h)), decide_eq_false (fun h => hbig (.inr h))]
    rfl
  rw [hbg] at h6
  clear hbig hbg
  go_enter Tryd.func5, Tryd.ntmps5
  go_wp2_with fail
  refine h6.mono ?_
  rintro e w0 ⟨rfl, rfl⟩
  go_wp2_with fail
  refine hc1.mono ?_
  rintro e w1 ⟨A1, c1, rs, rfl, ho1, hv, hb1⟩
  have HX := Lib.hid (dat_len rs)
  have HVY := Lib.hid hv
  have HNIL := Lib.hid (nil_of ho1)
  have hrl : rs.length ≤ 4 := by have h := (vy_rows hv).1; rw [dat_len] at h; exact h
  have HTL := Lib.hid (tlL_vyM hv)
  have HB1 := Lib.hid hb1
  have HR := Lib.hid (fun (W : World) (hW : Below w1.heap.size w1 W) => (ho1.rd.below hW).more hW.size)
  have HK := Lib.hid (fun (W : World) (hW : Below w1.heap.size w1 W) => HK0.out W (bthen HB1.out (Nat.le_refl _) hW))
  have hco := specA2Order_any A2 c2 ds A1 c1 rs w1 (HK.out w1 (Below.refl _ _)).2.1 HBY.out.2 ho1.rd hv
  clear h6 hc1 ho1 hv hb1 HK0
  go_wp2_with fail
  refine hco.mono ?_
  rintro e w2 ⟨B, d, o, rfl, ho2, hinv, hb2⟩
  have HV := Lib.hid hinv
  have ho6 := ord_len hinv
  have HB2 := Lib.hid hb2
  have HO := Lib.hid (fun (W : World) (hW : Below w2.heap.size w2 W) => (ho2.rd.below hW).more hW.size)
  have hbm := implBestMoves_any A1 c1 rs B d o w2 (HR.out w2 hb2) ho2.rd HTL.out HNIL.out (HK.out w2 hb2).2.2
  have hfm := fun W (hW : Below w2.heap.size w2 W) => implFewestMoves_any A1 c1 rs B d o W (HR.out W (bthen HB2.out (Nat.le_refl _) hW)) (HO.out W hW) HTL.out HNIL.out (HK.out W (bthen HB2.out (Nat.le_refl _) hW)).2.2
  have hpw := fun W (hW : Below w2.heap.size w2 W) => implPacksInTheWay_any A1 c1 rs B d o W (HR.out W (bthen HB2.out (Nat.le_refl _) hW)) (HO.out W hW) HTL.out
  have hpe : piwP (dat rs) o = ((wayX o (dat rs) : Int), 0) := by unfold piwP; rw [if_pos (oc_inv hinv)]
  rw [hpe] at hpw
  have hw6 : wayX o (dat rs) ≤ 6 := by have h1 := wayX_le o (dat rs); have h2 := (dB_true hinv.vy).2.1; omega
  obtain ⟨way, hway⟩ : ∃ way, way = wayX o (dat rs) := ⟨_, rfl⟩
  rw [← hway] at hpw hw6
  have HWY := Lib.hid hway
  clear hco ho2 hb2 hpe hway
  by_cases hone : rs.length = 1 ∧ 0 < way
  · have hbn := bm_none (oc_inv hinv) (no_sol hinv (by rw [HX.out]; exact hone.1) (by rw [← HWY.out]; exact hone.2))
    rw [hbn.1] at hbm
    rw [hbn.2] at hfm
    have HFM := Lib.hid hfm
    have HPW := Lib.hid hpw
    have hr1i : ((rs.length : Int) == 1) = true := by rw [beq_iff_eq]; omega
    have hr1n : (rs.length == 1) = true := by rw [beq_iff_eq]; omega
    have hw0i : (0 : Int) < way := by omega
    have hw0 : 0 < way := hone.2
    have HONE := Lib.hid hone
    clear hbn hinv hone hfm hpw
    go_wp2_with fail
    refine hbm.mono ?_
    rintro e w3 ⟨B3, d3, rfl, ho3, hb3⟩
    have hfm := HFM.out w3 hb3
    have HB3 := Lib.hid hb3
    clear hbm hb3 ho3
    go_wp2_with fail
    refine hfm.mono ?_
    rintro e w4 ⟨rfl, hb4⟩
    have HB4 := Lib.hid (bthen HB3.out (Nat.le_refl _) hb4)
    have hpw := HPW.out w4 HB4.out
    clear hfm hb4
    go_wp2_with fail
    refine hpw.mono ?_
    rintro e w5 ⟨rfl, hb5⟩
    have HB5 := Lib.hid (bthen HB4.out (Nat.le_refl _) hb5)
    clear hpw hb5
    go_wp2_with fail
    go_ret
    exact ⟨rfl, bthen (bthen HB1.out (Nat.le_refl _) HB2.out) (Nat.le_refl _) HB5.out⟩
  · obtain ⟨L0, n, hs, hl, hn6⟩ := least_some hinv (fun e => by
      have h1 : ¬ 0 < wayX o (dat rs) := fun hw => hone ⟨by rw [← HX.out]; exact e, by rw [HWY.out]; exact hw⟩
      omega)
    obtain ⟨L, _, hB⟩ := srch_best hinv hs hl (Nat.le_refl _)
    have hbs := bm_some (oc_inv hinv) hB
    rw [hbs.1] at hbm
    rw [hbs.2] at hfm
    have hLl := hB.sol.len
    have HLL := Lib.hid hLl
    have hL100 : L.length ≤ 100 := by omega
    have hn36 : n ≤ 36 := by omega
    have hwn : way ≤ n := by rw [HWY.out]; exact way_le hB.sol hinv
    have hw00 : way = 0 → n = 0 := fun e => by
      obtain ⟨L1, h1⟩ := sol_zero hinv (by rw [← HWY.out]; exact e)
      have := hl _ _ h1
      omega
    have HCN := Lib.hid hB.sol.cnt
    have HLD := Lib.hid (ld_sol hinv hB.sol hn36)
    have HOK := Lib.hid (fun m hm => by
      obtain ⟨q1, q2, q3, q4⟩ := hB.sol.ok (by rw [HX.out]; exact hrl) m hm
      exact (⟨by unfold I64; omega, by unfold I64; omega⟩ : OkMove m))
    have HLEAST := Lib.hid hl
    have HW00 := Lib.hid hw00
    have HFM := Lib.hid hfm
    have HPW := Lib.hid hpw
    clear hs hbs hB hl hinv hone hfm hpw hw00 hLl
    dsimp only at hbm
    go_wp2_with fail
    refine hbm.mono ?_
    rintro e w3 ⟨B3, d3, rfl, ho3, hb3⟩
    have hfm := HFM.out w3 hb3
    have HB3 := Lib.hid hb3
    have HM := Lib.hid (fun (W : World) (hW : Below w3.heap.size w3 W) => (ho3.rd.below hW).more hW.size)
    clear hbm hb3 ho3
    go_wp2_with fail
    refine hfm.mono ?_
    rintro e w4 ⟨rfl, hb4⟩
    have HB4 := Lib.hid hb4
    have HB4w := Lib.hid (bthen HB3.out (Nat.le_refl _) hb4)
    have hpw := HPW.out w4 HB4w.out
    clear hfm hb4
    go_wp2_with fail
    refine hpw.mono ?_
    rintro e w5 ⟨rfl, hb5⟩
    have HB5 := Lib.hid (bthen HB4.out (Nat.le_refl _) hb5)
    have HB5w := Lib.hid (bthen HB4w.out (Nat.le_refl _) hb5)
    have hld := specLoadPacks_any A1 c1 rs B d o B3 d3 L w5 (HR.out w5 (bthen HB2.out (Nat.le_refl _) HB5w.out)) (HO.out w5 HB5w.out) (HM.out w5 HB5.out) HTL.out HNIL.out HOK.out
    rw [HLD.out] at hld
    clear hpw hb5
    go_wp2_with fail
    refine hld.mono ?_
    rintro e w6 ⟨A6, c6, os6, rfl, ho6', hd6, hb6⟩
    have HB6 := Lib.hid (bthen HB5.out (Nat.le_refl _) hb6)
    have HB6w := Lib.hid (bthen HB5w.out (Nat.le_refl _) hb6)
    have hrdL := HM.out w6 HB6.out
    have hLl63 : L.length ≤ 9223372036854775807 := hrdL.len63
    clear hld hb6 ho6' hd6
    go_wp2_with fail
    go_loopw [15, 16] (fun cn idx wr => ∃ (k : Nat), k ≤ L.length ∧ cn = .int .i64 (cntM (L.take k)) ∧ idx = .int .i64 k ∧ wr = w6) (fun _ idx _ => L.length - (intOf idx).toNat)
    case atStart => exact ⟨0, by omega, by simp [cntM], rfl, rfl⟩
    case round =>
      obtain ⟨k, hk, rfl, rfl, rfl⟩ := hrel
      have hck := cntM_le (L.take k)
      rw [List.length_take] at hck
      by_cases hkl : k < L.length
      · have hkli : (k : Int) < L.length := by omega
        obtain ⟨ad, rfl, hadb, q0, q1⟩ := rdMove hrdL hkl
        have HCT := Lib.hid (cntM_take hkl)
        obtain ⟨t, ht⟩ : ∃ t, t = L[k].2 := ⟨_, rfl⟩
        rw [← ht] at q1 HCT
        obtain ⟨cnk, hcnk⟩ : ∃ x, x = cntM (L.take k) := ⟨_, rfl⟩
        have hcb : cnk ≤ 100 := by omega
        rw [← hcnk] at HCT ⊢
        clear ht hck hcnk
        by_cases ht0 : 0 ≤ t
        · have HC2 : Hid (cntM (L.take (k + 1)) = cnk + 1) := Lib.hid (by rw [HCT.out, if_pos ht0])
          go_wp2_with fail
          go_roundw
          case rel => exact ⟨k + 1, by omega, by rw [HC2.out]; go_num, by go_num, (by first | trivial | rfl)⟩
          case measure => simp [intOf]; omega
        · have HC2 : Hid (cntM (L.take (k + 1)) = cnk) := Lib.hid (by rw [HCT.out, if_neg ht0, Nat.add_zero])
          go_wp2_with fail
          go_roundw
          case rel => exact ⟨k + 1, by omega, by rw [HC2.out], by go_num, (by first | trivial | rfl)⟩
          case measure => simp [intOf]; omega
      · have hgk : (L.length : Int) ≤ k := by omega
        have HCE : cntM (L.take k) = n := by rw [List.take_of_length_le (by omega)]; exact HCN.out
        rw [HCE]
        have e1 : ((n : Int) != (n : Int)) = false := by simp
        have e2 : ((L.length : Int) != (n : Int) + (o.length : Int)) = false := by rw [bne_eq_false_iff_eq]; have := HLL.out; omega
        have e4 : ¬ (n : Int) < way := by omega
        have hbw := bthen HB1.out (Nat.le_refl _) (bthen HB2.out (Nat.le_refl _) HB6w.out)
        clear HCE hck hk hkl
        have HBW := HB6w
        have hA2 := specA2Moves_any A c cs A2 c2 ds A1 c1 rs B d o wr (HK.out wr (bthen HB2.out (Nat.le_refl _) HBW.out)).1 (HK.out wr (bthen HB2.out (Nat.le_refl _) HBW.out)).2.1 HBY.out.1 HBY.out.2 HLN.out.1 HLN.out.2 HNN.out.1 HNN.out.2 (HR.out wr (bthen HB2.out (Nat.le_refl _) HBW.out)) HNIL.out (HO.out wr HBW.out) HV.out
        by_cases hw0 : way = 0
        · have z1 : ((way : Int) == 0) = true := by rw [beq_iff_eq]; omega
          have z2 : ((n : Int) != 0) = false := by rw [bne_eq_false_iff_eq]; have := HW00.out hw0; omega
          have HZ0 := Lib.hid hw0
          clear hw0
          go_wp2_with fail
          refine hA2.mono ?_
          rintro e w7 ⟨B7, d7, D, rfl, ho7, hdc, hdl, hdok, hb7⟩
          have HB7 := Lib.hid (bthen HBW.out (Nat.le_refl _) hb7)
          have hli := implLoadPacks_any A1 c1 rs B d o B7 d7 D w7 (HR.out w7 (bthen HB2.out (Nat.le_refl _) HB7.out)) (HO.out w7 HB7.out) ho7.rd HTL.out HNIL.out hdok
          have HDC := Lib.hid (fun h5 => loads_few HV.out HLEAST.out HX.out hdc h5)
          have HRD := Lib.hid ho7.rd
          have hDl63 : D.length ≤ 9223372036854775807 := ho7.len63
          obtain ⟨five, hfive⟩ : ∃ five, five = (ldP (dat rs) o D).2 := ⟨_, rfl⟩
          rw [← hfive] at hli HDC
          clear hA2 ho7 hdc hdok hb7 hfive
          go_wp2_with fail
          refine hli.mono ?_
          rintro e w8 ⟨A8, c8, os8, rfl, ho8, hd8, hb8⟩
          have HB8 := Lib.hid (bthen HB7.out (Nat.le_refl _) hb8)
          have hrdD := (HRD.out.below hb8).more hb8.size
          clear hli hb8 ho8 hd8
          go_wp2_with fail
          go_loopw [15, 20] (fun cn idx wr => ∃ (k : Nat), k ≤ D.length ∧ cn = .int .i64 (cntM (D.take k)) ∧ idx = .int .i64 k ∧ wr = w8) (fun _ idx _ => D.length - (intOf idx).toNat)
          case atStart => exact ⟨0, by omega, by simp [cntM], rfl, rfl⟩
          case round =>
            obtain ⟨k, hk, rfl, rfl, rfl⟩ := hrel
            have hck := cntM_le (D.take k)
            rw [List.length_take] at hck
            by_cases hkl : k < D.length
            · have hkli : (k : Int) < D.length := by omega
              obtain ⟨ad, rfl, hadb, q0, q1⟩ := rdMove hrdD hkl
              have HCT := Lib.hid (cntM_take hkl)
              obtain ⟨t, ht⟩ : ∃ t, t = D[k].2 := ⟨_, rfl⟩
              rw [← ht] at q1 HCT
              obtain ⟨cnk, hcnk⟩ : ∃ x, x = cntM (D.take k) := ⟨_, rfl⟩
              have hcb : cnk ≤ 100 := by omega
              rw [← hcnk] at HCT ⊢
              clear ht hck hcnk
              by_cases ht0 : 0 ≤ t
              · have HC2 : Hid (cntM (D.take (k + 1)) = cnk + 1) := Lib.hid (by rw [HCT.out, if_pos ht0])
                go_wp2_with fail
                go_roundw
                case rel => exact ⟨k + 1, by omega, by rw [HC2.out]; go_num, by go_num, (by first | trivial | rfl)⟩
                case measure => simp [intOf]; omega
              · have HC2 : Hid (cntM (D.take (k + 1)) = cnk) := Lib.hid (by rw [HCT.out, if_neg ht0, Nat.add_zero])
                go_wp2_with fail
                go_roundw
                case rel => exact ⟨k + 1, by omega, by rw [HC2.out], by go_num, (by first | trivial | rfl)⟩
                case measure => simp [intOf]; omega
            · have hgk : (D.length : Int) ≤ k := by omega
              have hDk : D.take k = D := List.take_of_length_le (by omega)
              rw [hDk]
              clear hDk
              by_cases h5 : five = 0
              · have hge : (n : Int) ≤ cntM D := by have := HDC.out h5; omega
                have y1 : (five != 0) = false := by rw [bne_eq_false_iff_eq]; exact h5
                clear h5
                go_wp2_with fail
                go_ret
                exact ⟨ret_bool (by first | rfl | (simp; done) | (simp; omega)), bthen (bthen HB1.out (Nat.le_refl _) HB2.out) (Nat.le_refl _) HB8.out⟩
              · have y1 : (five != 0) = true := by rw [bne_iff_ne]; exact h5
                clear h5
                go_wp2_with fail
                go_ret
                exact ⟨ret_bool (by first | rfl | (simp; done) | (simp; omega)), bthen (bthen HB1.out (Nat.le_refl _) HB2.out) (Nat.le_refl _) HB8.out⟩
        · have z1 : ((way : Int) == 0) = false := by rw [beq_eq_false_iff_ne]; omega
          have HZ0 := Lib.hid hw0
          clear hw0
          go_wp2_with fail
          refine hA2.mono ?_
          rintro e w7 ⟨B7, d7, D, rfl, ho7, hdc, hdl, hdok, hb7⟩
          have HB7 := Lib.hid (bthen HBW.out (Nat.le_refl _) hb7)
          have hli := implLoadPacks_any A1 c1 rs B d o B7 d7 D w7 (HR.out w7 (bthen HB2.out (Nat.le_refl _) HB7.out)) (HO.out w7 HB7.out) ho7.rd HTL.out HNIL.out hdok
          have HDC := Lib.hid (fun h5 => loads_few HV.out HLEAST.out HX.out hdc h5)
          have HRD := Lib.hid ho7.rd
          have hDl63 : D.length ≤ 9223372036854775807 := ho7.len63
          obtain ⟨five, hfive⟩ : ∃ five, five = (ldP (dat rs) o D).2 := ⟨_, rfl⟩
          rw [← hfive] at hli HDC
          clear hA2 ho7 hdc hdok hb7 hfive
          go_wp2_with fail
          refine hli.mono ?_
          rintro e w8 ⟨A8, c8, os8, rfl, ho8, hd8, hb8⟩
          have HB8 := Lib.hid (bthen HB7.out (Nat.le_refl _) hb8)
          have hrdD := (HRD.out.below hb8).more hb8.size
          clear hli hb8 ho8 hd8
          go_wp2_with fail
          go_loopw [15, 20] (fun cn idx wr => ∃ (k : Nat), k ≤ D.length ∧ cn = .int .i64 (cntM (D.take k)) ∧ idx = .int .i64 k ∧ wr = w8) (fun _ idx _ => D.length - (intOf idx).toNat)
          case atStart => exact ⟨0, by omega, by simp [cntM], rfl, rfl⟩
          case round =>
            obtain ⟨k, hk, rfl, rfl, rfl⟩ := hrel
            have hck := cntM_le (D.take k)
            rw [List.length_take] at hck
            by_cases hkl : k < D.length
            · have hkli : (k : Int) < D.length := by omega
              obtain ⟨ad, rfl, hadb, q0, q1⟩ := rdMove hrdD hkl
              have HCT := Lib.hid (cntM_take hkl)
              obtain ⟨t, ht⟩ : ∃ t, t = D[k].2 := ⟨_, rfl⟩
              rw [← ht] at q1 HCT
              obtain ⟨cnk, hcnk⟩ : ∃ x, x = cntM (D.take k) := ⟨_, rfl⟩
              have hcb : cnk ≤ 100 := by omega
              rw [← hcnk] at HCT ⊢
              clear ht hck hcnk
              by_cases ht0 : 0 ≤ t
              · have HC2 : Hid (cntM (D.take (k + 1)) = cnk + 1) := Lib.hid (by rw [HCT.out, if_pos ht0])
                go_wp2_with fail
                go_roundw
                case rel => exact ⟨k + 1, by omega, by rw [HC2.out]; go_num, by go_num, (by first | trivial | rfl)⟩
                case measure => simp [intOf]; omega
              · have HC2 : Hid (cntM (D.take (k + 1)) = cnk) := Lib.hid (by rw [HCT.out, if_neg ht0, Nat.add_zero])
                go_wp2_with fail
                go_roundw
                case rel => exact ⟨k + 1, by omega, by rw [HC2.out], by go_num, (by first | trivial | rfl)⟩
                case measure => simp [intOf]; omega
            · have hgk : (D.length : Int) ≤ k := by omega
              have hDk : D.take k = D := List.take_of_length_le (by omega)
              rw [hDk]
              clear hDk
              by_cases h5 : five = 0
              · have hge : (n : Int) ≤ cntM D := by have := HDC.out h5; omega
                have y1 : (five != 0) = false := by rw [bne_eq_false_iff_eq]; exact h5
                clear h5
                go_wp2_with fail
                go_ret
                exact ⟨ret_bool (by first | rfl | (simp; done) | (simp; omega)), bthen (bthen HB1.out (Nat.le_refl _) HB2.out) (Nat.le_refl _) HB8.out⟩
              · have y1 : (five != 0) = true := by rw [bne_iff_ne]; exact h5
                clear h5
                go_wp2_with fail
                go_ret
                exact ⟨ret_bool (by first | rfl | (simp; done) | (simp; omega)), bthen (bthen HB1.out (Nat.le_refl _) HB2.out) (Nat.le_refl _) HB8.out⟩
end Go.Proofs.YtiefiikheaiekaaDoor
