/-
  Yards: a copy of a yard (spec.l20Copy).
-/
import Derived.Test.YtiefiikheaiekaaDoorYardJ
namespace Go.Proofs.YtiefiikheaiekaaDoor
open Go.ChangeShapes Go.WideShapes Go.RowKit

set_option maxRecDepth 100000 in
set_option maxHeartbeats 3200000 in
theorem l20Copy_any (A : Option Addr) (c : Nat) (rs : List (Row Int)) (B : Nat) (w : World) (hr : RdR LI w B A c rs) (hB : B ≤ w.heap.size) (hnil : ∀ r ∈ rs, r.1 = none → r.2.1 = 0) (hl : rs.length ≤ 1048576) (hrl : ∀ r ∈ rs, r.2.2.length ≤ 1048576) :
    Calls Tryd.prog 41 #[.slice A rs.length c] w fun e w' => ∃ A1 c1 os, e = .returned (.slice A1 os.length c1) ∧ OwnR LI 23 2 w' w.heap.size A1 c1 os ∧ dat os = dat rs ∧ Below w.heap.size w w' := by
  have hlen := hr.len63
  have HRL := Lib.hid hrl
  have HNIL := Lib.hid hnil
  clear hrl hnil
  go_enter Tryd.func41, Tryd.ntmps41
  go_wp2_with fail
  go_loopw [3, 4] (fun o i wr => ∃ (k : Nat) (A1 : Option Addr) (c1 : Nat) (os : List (Row Int)) (L1 : List (Option Addr × Nat × Nat)), k ≤ rs.length ∧ i = .int .i64 k ∧ o = .slice A1 L1.length c1 ∧ L1.length = k ∧ Hid (L1 = os.map hd) ∧ Hid (dat os = (dat rs).take k) ∧ Hid (OwnR LI 23 2 wr w.heap.size A1 c1 os) ∧ Hid (Below w.heap.size w wr)) (fun _ i _ => rs.length - (intOf i).toNat)
  case atStart => exact ⟨0, _, _, [], [], by omega, rfl, rfl, by simp, Lib.hid rfl, Lib.hid (by simp [dat]), Lib.hid ⟨Own.lit0 w (Nat.le_refl _) rfl, (fun r hr => by cases hr), List.Pairwise.nil⟩, Lib.hid ((Below.refl _ _).alloc (Nat.le_refl _) _)⟩
  case round =>
    obtain ⟨i, A1, c1, os, L1, hi, rfl, rfl, hLk0, HL, HD, HO, HBW⟩ := hrel
    have hLk : L1.length ≤ i := by omega
    have hLk2 : i ≤ L1.length := by omega
    have HLK := Lib.hid hLk0
    clear hLk0
    have hsz := HBW.out.size
    by_cases hlt : i < rs.length
    · have hli : (i : Int) < rs.length := by omega
      have hyl := HRL.out _ (List.getElem_mem hlt)
      obtain ⟨ad', rfl, _, hcell, hrk⟩ := (hr.below (HBW.out.mono hB)).at_ hlt
      have hcl := l00Own_any rs[i].1 rs[i].2.1 rs[i].2.2 B wr hrk (by omega) (by omega) (HNIL.out _ (List.getElem_mem hlt))
      have HDG := Lib.hid (dat_get rs i hlt)
      clear hrk
      generalize rs[i].2.2 = ys at *
      generalize rs[i].1 = Ay at *
      generalize rs[i].2.1 = cy at *
      go_wp2_with fail
      refine hcl.mono ?_
      rintro e w2 ⟨A2, c2, rfl, ho2, hb2⟩
      have hs2 := hb2.size
      have HB2 := Lib.hid hb2
      have HO2 := Lib.hid ho2
      have HO3 := Lib.hid (HO.out.below hb2)
      have HlO := Lib.hid HO.out.blk_lt
      have HB3 := Lib.hid (HBW.out.trans (hb2.mono (by omega)))
      have hout : Own LV 23 w2 w.heap.size A1 c1 L1 := by rw [HL.out]; exact HO3.out.out
      clear hcl hb2 ho2 hcell
      go_wp2_with (at_builtin; go_loud (refine wpL_app1 (L := LV) rowV rfl rfl _ _ rfl rfl hout (A2, ys.length, c2) _ rfl rfl (by simp) (by unfold maxLen; omega) (by omega) (by omega) ?_); intro A6 c6 w6 ho6 hg6)
      go_roundw
      case rel =>
        have hsn := OwnR.snoc (r := (A2, c2, ys)) HO3.out (by decide) (HO2.out.lower (by omega)) (fun s hs g h1 h2 => by have := HlO.out.2 s hs g h1; have := HO2.out.blk_lt g h2; omega) (by
          rw [HL.out] at ho6
          exact ho6) hg6
        refine ⟨i + 1, A6, c6, _, L1 ++ [(A2, ys.length, c2)], by omega, by go_num, by simp, by simp; exact HLK.out, Lib.hid ?_, Lib.hid ?_, Lib.hid hsn, Lib.hid ?_⟩
        · rw [HL.out, List.map_append]
          simp [hd]
        · rw [dat_append, HD.out, List.take_succ_eq_append_getElem (by rw [dat_len]; exact hlt), HDG.out]
          rfl
        · exact Grew.below HB3.out hg6 (by omega) fun g' hg' => (HlO.out.1 g' hg').1
      case measure => simp [intOf]; omega
    · obtain rfl : i = rs.length := by omega
      have HD0 : Hid (dat os = dat rs) := Lib.hid (by rw [HD.out, List.take_of_length_le (by rw [dat_len]; exact Nat.le_refl _)])
      have HOL : Hid (L1.length = os.length) := Lib.hid (by rw [HL.out, List.length_map])
      go_wp2_with fail
      go_ret
      exact ⟨A1, c1, os, by rw [← HOL.out]; rfl, HO.out, HD0.out, HBW.out⟩
end Go.Proofs.YtiefiikheaiekaaDoor
