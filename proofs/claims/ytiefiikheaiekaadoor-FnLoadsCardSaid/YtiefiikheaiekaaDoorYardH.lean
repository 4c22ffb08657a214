/-
  Yards: orders (impl.orderCode, spec.l20Code), PacksInTheWay.
-/
import Derived.Test.YtiefiikheaiekaaDoorYardG
import Derived.Test.YtiefiikheaiekaaDoorYardPlain2
namespace Go.Proofs.YtiefiikheaiekaaDoor
open Go.ChangeShapes Go.WideShapes Go.RowKit

theorem slicesContains_any (A : Option Addr) (c : Nat) (xs : List Int) (p : Int) (B : Nat) (w : World) (hr : Rd LI w B A c xs) :
    Calls Tryd.prog 54 #[.slice A xs.length c, .int .i64 p] w fun e w' => e = .returned (.bool (hasB xs p)) ∧ Dr w w' := by
  have hix := slicesIndex_any A c xs p B w hr
  cases hf : xs.findIdx? (fun x => x == p) with
  | none =>
    have e1 : fIdx (fun x => x == p) xs = -1 := by unfold fIdx; rw [hf]
    rw [List.findIdx?_eq_none_iff] at hf
    have HB : Hid (hasB xs p = false) := Lib.hid (hasB_take hf)
    rw [e1] at hix
    clear hf e1
    go_enter Tryd.func54, Tryd.ntmps54
    go_wp2_with fail
    refine hix.mono ?_
    rintro e w2 ⟨rfl, hd⟩
    go_wp2_with fail
    go_ret
    exact ⟨ret_bool HB.out.symm, hd⟩
  | some k =>
    have e1 : fIdx (fun x => x == p) xs = (k : Int) := by unfold fIdx; rw [hf]
    rw [List.findIdx?_eq_some_iff_getElem] at hf
    obtain ⟨hk, hp, _⟩ := hf
    have HB : Hid (hasB xs p = true) := Lib.hid (List.any_eq_true.2 ⟨xs[k], List.getElem_mem _, hp⟩)
    rw [e1] at hix
    clear hp e1
    go_enter Tryd.func54, Tryd.ntmps54
    go_wp2_with fail
    refine hix.mono ?_
    rintro e w2 ⟨rfl, hd⟩
    go_wp2_with fail
    go_ret
    exact ⟨ret_bool HB.out.symm, hd⟩
theorem ord_bad {X : List (List Int)} {o : List Int} {i : Nat} (h : i < o.length) (hb : o[i] ∉ X.flatten ∨ o[i] ∈ o.take i) : dB (OrdOk X o) = false :=
  dB_no fun hv => by
    rcases hb with hb | hb
    · exact hb (hv i h).1
    · exact (hv i h).2 hb

set_option maxRecDepth 100000 in
set_option maxHeartbeats 3200000 in
theorem orderCode_any (A : Option Addr) (c : Nat) (rs : List (Row Int)) (A1 : Option Addr) (c1 : Nat) (o : List Int) (w : World) (hr : RdR LI w w.heap.size A c rs) (hn : tlL (dat rs) ≤ 1048576) (hro : Rd LI w w.heap.size A1 c1 o) :
    Calls Tryd.prog 29 #[.slice A rs.length c, .slice A1 o.length c1] w fun e w' => e = .returned (.int .i64 (ocP (dat rs) o)) ∧ Below w.heap.size w w' := by
  have hlen := hr.len63
  have hleno := hro.len63
  have hc := implValidYard_any A c rs w hr hn
  obtain ⟨FIN, hF⟩ : ∃ F, F = ocP (dat rs) o := ⟨_, rfl⟩
  rw [← hF]
  cases hv : vyB (dat rs)
  · have HR : Hid (FIN = 1) := Lib.hid (by rw [hF]; unfold ocP; rw [if_neg (by simp [hv])])
    rw [hv] at hc
    clear hF hv
    go_enter Tryd.func29, Tryd.ntmps29
    go_wp2_with fail
    refine hc.mono ?_
    rintro e w1 ⟨rfl, hb1⟩
    go_wp2_with fail
    go_ret
    exact ⟨ret_int HR.out.symm, hb1⟩
  have HV : Hid (FIN = if dB (OrdOk (dat rs) o) = true then 0 else 2) := Lib.hid (by rw [hF]; unfold ocP; rw [if_pos hv])
  rw [hv] at hc
  obtain ⟨X, hX⟩ : ∃ X, X = dat rs := ⟨_, rfl⟩
  have hfl : X.flatten.length ≤ 1048576 := by rw [hX, tlL_flat]; exact hn
  have hcc := fun W h => concat_any A c rs w.heap.size W h
  rw [← hX] at hcc HV
  obtain ⟨F, hFF⟩ : ∃ F, F = X.flatten := ⟨_, rfl⟩
  rw [← hFF] at hcc hfl
  have HFF := Lib.hid hFF
  clear hF hv hX hFF
  go_enter Tryd.func29, Tryd.ntmps29
  go_wp2_with fail
  refine hc.mono ?_
  rintro e w1 ⟨rfl, hb1⟩
  have hcc1 := hcc w1 (hr.below hb1) hb1.size (by omega)
  have HB1 := Lib.hid hb1
  clear hc hb1 hcc
  go_wp2_with fail
  refine hcc1.mono ?_
  rintro e w2 ⟨A2, c2, rfl, ho2, hb2⟩
  have HO2 := Lib.hid ho2.rd
  have HB2 := Lib.hid (bthen HB1.out (Nat.le_refl _) hb2)
  clear hcc1 ho2 hb2
  go_wp2_with fail
  go_loopw [15] (fun i wr => ∃ k : Nat, k ≤ o.length ∧ i = .int .i64 k ∧ Hid (∀ j (h : j < o.length), j < k → o[j] ∈ X.flatten ∧ o[j] ∉ o.take j) ∧ Hid (Dr w2 wr)) (fun i _ => o.length - (intOf i).toNat)
  case atStart => exact ⟨0, by omega, rfl, Lib.hid (fun j _ h => by omega), Lib.hid (Dr.refl _)⟩
  case round =>
    obtain ⟨k, hk, rfl, HN, HD⟩ := hrel
    have HBw := Lib.hid (HB2.out.trans HD.out.below)
    by_cases hlt : k < o.length
    · have hki : (k : Int) < o.length := by omega
      obtain ⟨ao, rfl, _, hco⟩ := (hro.below HBw.out).int hlt
      obtain ⟨p, hp⟩ : ∃ p, p = o[k] := ⟨_, rfl⟩
      rw [← hp] at hco
      have HP := Lib.hid hp
      have hcap := hro.le
      have hkc : (k : Int) ≤ c1 := by omega
      have hkc1 : k ≤ c1 := by omega
      have hct := slicesContains_any A2 c2 F p w2.heap.size wr (HO2.out.below HD.out.below)
      have hlk : (o.take k).length = k := by simp; omega
      have hct2 := fun W h => slicesContains_any (some ao) c1 (o.take k) p w.heap.size W h
      rw [hlk] at hct2
      clear hp hlk
      cases h1 : hasB F p
      · have HR : Hid (FIN = 2) := Lib.hid (by
          rw [HV.out, ord_bad hlt (.inl (by rw [← HFF.out, ← HP.out]; intro hm; rw [hasB_iff.2 hm] at h1; cases h1))]
          rfl)
        rw [h1] at hct
        clear h1
        go_wp2_with fail
        refine hct.mono ?_
        rintro e w3 ⟨rfl, hd3⟩
        have HB3 := Lib.hid (HBw.out.trans hd3.below)
        clear hct hd3
        go_wp2_with fail
        go_ret
        exact ⟨ret_int HR.out.symm, HB3.out⟩
      · have HM : Hid (o[k] ∈ X.flatten) := Lib.hid (by rw [← HFF.out, ← HP.out]; exact hasB_iff.1 h1)
        rw [h1] at hct
        clear h1
        cases h2 : hasB (o.take k) p
        · rw [h2] at hct2
          have HM2 : Hid (o[k] ∉ o.take k) := Lib.hid (by rw [← HP.out]; intro hm; rw [hasB_iff.2 hm] at h2; cases h2)
          clear h2
          go_wp2_with fail
          refine hct.mono ?_
          rintro e w3 ⟨rfl, hd3⟩
          have HD3 := Lib.hid (HD.out.trans hd3)
          have HB3 := Lib.hid (HB2.out.trans HD3.out.below)
          clear hct hd3
          go_wp2_with fail
          refine (hct2 _ ((hro.below HB3.out).take k)).mono ?_
          rintro e w4 ⟨rfl, hd4⟩
          have HD4 := Lib.hid (HD3.out.trans hd4)
          clear hct2 hd4
          go_wp2_with fail
          go_roundw
          case rel =>
            refine ⟨k + 1, by omega, by go_num, Lib.hid (fun j hj hjk => ?_), HD4⟩
            by_cases e : j = k
            · subst e; exact ⟨HM.out, HM2.out⟩
            · exact HN.out j hj (by omega)
          case measure => simp [intOf]; omega
        · rw [h2] at hct2
          have HR : Hid (FIN = 2) := Lib.hid (by
            rw [HV.out, ord_bad hlt (.inr (by rw [← HP.out]; exact hasB_iff.1 h2))]
            rfl)
          clear h2
          go_wp2_with fail
          refine hct.mono ?_
          rintro e w3 ⟨rfl, hd3⟩
          have HD3 := Lib.hid (HD.out.trans hd3)
          have HB3 := Lib.hid (HB2.out.trans HD3.out.below)
          clear hct hd3
          go_wp2_with fail
          refine (hct2 _ ((hro.below HB3.out).take k)).mono ?_
          rintro e w4 ⟨rfl, hd4⟩
          have HB4 := Lib.hid (HB3.out.trans hd4.below)
          clear hct2 hd4
          go_wp2_with fail
          go_ret
          exact ⟨ret_int HR.out.symm, HB4.out⟩
    · obtain rfl : k = o.length := by omega
      have HR : Hid (FIN = 0) := Lib.hid (by rw [HV.out, if_pos (show dB (OrdOk X o) = true from dB_yes (fun j hj => HN.out j hj hj))])
      go_wp2_with fail
      go_ret
      exact ⟨ret_int HR.out.symm, HBw.out⟩

set_option maxRecDepth 100000 in
set_option maxHeartbeats 3200000 in
theorem l20Order_any (A : Option Addr) (c : Nat) (rs : List (Row Int)) (A1 : Option Addr) (c1 : Nat) (o : List Int) (B : Nat) (w : World) (hr : RdR LI w B A c rs) (hro : Rd LI w B A1 c1 o) :
    Calls Tryd.prog 61 #[.slice A rs.length c, .slice A1 o.length c1] w fun e w' => e = .returned (.bool (dB (OrdOk (dat rs) o))) ∧ Dr w w' := by
  have hlen := hr.len63
  have hleno := hro.len63
  obtain ⟨b, hb⟩ : ∃ b, b = dB (OrdOk (dat rs) o) := ⟨_, rfl⟩
  rw [← hb]
  have HV := Lib.hid hb
  have hfd := fun p W h => l20Find_any A c rs p B W h
  obtain ⟨X, hX⟩ : ∃ X, X = dat rs := ⟨_, rfl⟩
  rw [← hX] at hfd HV
  clear hb hX
  go_enter Tryd.func61, Tryd.ntmps61
  go_wp2_with fail
  go_loopw [5] (fun i wr => ∃ k : Nat, k ≤ o.length ∧ i = .int .i64 k ∧ Hid (∀ j (h : j < o.length), j < k → o[j] ∈ X.flatten ∧ o[j] ∉ o.take j) ∧ Hid (Dr w wr)) (fun i _ => o.length - (intOf i).toNat)
  case atStart => exact ⟨0, by omega, rfl, Lib.hid (fun j _ h => by omega), Lib.hid (Dr.refl _)⟩
  case round =>
    obtain ⟨k, hk, rfl, HN, HD⟩ := hrel
    by_cases hlt : k < o.length
    · have hki : (k : Int) < o.length := by omega
      obtain ⟨ao, rfl, _, hco⟩ := (hro.below HD.out.below).int hlt
      obtain ⟨p, hp⟩ : ∃ p, p = o[k] := ⟨_, rfl⟩
      rw [← hp] at hco
      have HP := Lib.hid hp
      have hcap := hro.le
      have hkc : (k : Int) ≤ c1 := by omega
      have hkc1 : k ≤ c1 := by omega
      have hfd2 := hfd p wr (hr.below HD.out.below)
      have hlk : (o.take k).length = k := by simp; omega
      have hct2 := fun (m : Nat) => l00Has_any (some ao) c1 (o.take k) p B (wr.drewN m) (((hro.below HD.out.below).take k).drewN m)
      rw [hlk] at hct2
      clear hp hlk
      rcases fdP_cases X p with ⟨h1, h2⟩ | ⟨i, q, hi, hq, h1, h2, _⟩
      · have HR : Hid (b = false) := Lib.hid (by
          rw [HV.out]
          refine ord_bad hlt (.inl ?_)
          rw [← HP.out, mem_flat]
          rintro ⟨j, hj, h⟩
          rw [h2 j hj] at h
          cases h)
        rw [h1] at hfd2
        clear h1 h2 hct2
        go_wp2_with fail
        refine hfd2.mono ?_
        rintro e w3 ⟨rfl, rfl⟩
        clear hfd2
        go_wp2_with fail
        go_quiet (fail)
        go_wp2_with fail
        go_ret
        exact ⟨ret_bool HR.out.symm, HD.out.step _⟩
      · have HM : Hid (o[k] ∈ X.flatten) := Lib.hid (by
          rw [← HP.out, mem_flat]
          exact ⟨i, hi, hasB_iff.2 (h2 ▸ List.getElem_mem hq)⟩)
        have hd0 : decide ((i : Int) < 0) = false := by simp
        rw [h1] at hfd2
        clear h1 h2 hq hi
        cases h2 : hasB (o.take k) p
        · rw [h2] at hct2
          have HM2 : Hid (o[k] ∉ o.take k) := Lib.hid (by rw [← HP.out]; intro hm; rw [hasB_iff.2 hm] at h2; cases h2)
          clear h2
          go_wp2_with fail
          refine hfd2.mono ?_
          rintro e w3 ⟨rfl, rfl⟩
          clear hfd2
          go_wp2_with fail
          go_quiet ((go_at_call 73; exact quiet_left (hct2 _)))
          go_wp2_with fail
          go_roundw
          case rel =>
            refine ⟨k + 1, by omega, by go_num, Lib.hid (fun j hj hjk => ?_), Lib.hid (HD.out.step _)⟩
            by_cases e : j = k
            · subst e; exact ⟨HM.out, HM2.out⟩
            · exact HN.out j hj (by omega)
          case measure => simp [intOf]; omega
        · rw [h2] at hct2
          have HR : Hid (b = false) := Lib.hid (by
            rw [HV.out]
            exact ord_bad hlt (.inr (by rw [← HP.out]; exact hasB_iff.1 h2)))
          clear h2
          go_wp2_with fail
          refine hfd2.mono ?_
          rintro e w3 ⟨rfl, rfl⟩
          clear hfd2
          go_wp2_with fail
          go_quiet ((go_at_call 73; exact quiet_left (hct2 _)))
          go_wp2_with fail
          go_ret
          exact ⟨ret_bool HR.out.symm, HD.out.step _⟩
    · obtain rfl : k = o.length := by omega
      have HR : Hid (b = true) := Lib.hid (by rw [HV.out]; exact (show dB (OrdOk X o) = true from dB_yes (fun j hj => HN.out j hj hj)))
      go_wp2_with fail
      go_ret
      exact ⟨ret_bool HR.out.symm, HD.out⟩
theorem l20Code_any (A : Option Addr) (c : Nat) (rs : List (Row Int)) (A1 : Option Addr) (c1 : Nat) (o : List Int) (w : World) (hr : RdR LI w w.heap.size A c rs) (hn : tlL (dat rs) ≤ 1048576) (hro : Rd LI w w.heap.size A1 c1 o) :
    Calls Tryd.prog 40 #[.slice A rs.length c, .slice A1 o.length c1] w fun e w' => e = .returned (.int .i64 (ocP (dat rs) o)) ∧ Below w.heap.size w w' := by
  have hc := l20Ok_any A c rs w hr hn
  obtain ⟨FIN, hF⟩ : ∃ F, F = ocP (dat rs) o := ⟨_, rfl⟩
  rw [← hF]
  cases hv : vyB (dat rs)
  · have HR : Hid (FIN = 1) := Lib.hid (by rw [hF]; unfold ocP; rw [if_neg (by simp [hv])])
    rw [hv] at hc
    clear hF hv
    go_enter Tryd.func40, Tryd.ntmps40
    go_wp2_with fail
    refine hc.mono ?_
    rintro e w1 ⟨rfl, hb1⟩
    go_wp2_with fail
    go_ret
    exact ⟨ret_int HR.out.symm, hb1⟩
  have HV : Hid (FIN = if dB (OrdOk (dat rs) o) = true then 0 else 2) := Lib.hid (by rw [hF]; unfold ocP; rw [if_pos hv])
  rw [hv] at hc
  have hlo := fun W h1 h2 => l20Order_any A c rs A1 c1 o w.heap.size W h1 h2
  cases ho : dB (OrdOk (dat rs) o)
  · have HR : Hid (FIN = 2) := Lib.hid (by rw [HV.out, ho]; rfl)
    rw [ho] at hlo
    clear hF hv ho
    go_enter Tryd.func40, Tryd.ntmps40
    go_wp2_with fail
    refine hc.mono ?_
    rintro e w1 ⟨rfl, hb1⟩
    go_wp2_with fail
    refine (hlo _ (hr.below hb1) (hro.below hb1)).mono ?_
    rintro e w2 ⟨rfl, hd⟩
    go_wp2_with fail
    go_ret
    exact ⟨ret_int HR.out.symm, hb1.trans hd.below⟩
  · have HR : Hid (FIN = 0) := Lib.hid (by rw [HV.out, ho]; rfl)
    rw [ho] at hlo
    clear hF hv ho
    go_enter Tryd.func40, Tryd.ntmps40
    go_wp2_with fail
    refine hc.mono ?_
    rintro e w1 ⟨rfl, hb1⟩
    go_wp2_with fail
    refine (hlo _ (hr.below hb1) (hro.below hb1)).mono ?_
    rintro e w2 ⟨rfl, hd⟩
    go_wp2_with fail
    go_ret
    exact ⟨ret_int HR.out.symm, hb1.trans hd.below⟩
end Go.Proofs.YtiefiikheaiekaaDoor
