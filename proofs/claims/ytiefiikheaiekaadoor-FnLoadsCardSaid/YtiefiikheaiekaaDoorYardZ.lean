/-
  YardText of both.
-/
import Derived.Test.YtiefiikheaiekaaDoorYardC
import Derived.Test.YtiefiikheaiekaaDoorJoinZ
namespace Go.Proofs.YtiefiikheaiekaaDoor
open Go.ChangeShapes Go.WideShapes Go.RowKit

def ytL (X : List (List Int)) : List UInt8 := jn [124] (X.map (ntL [44]))
noncomputable def ytS (X : List (List Int)) : ByteArray := if vyB X = true then bs (ytL X) else { data := #[] }
theorem map_nt (X : List (List Int)) : (X.map fun r => bs (ntL [44] r)).map (·.data.toList) = X.map (ntL [44]) := by
  rw [List.map_map]
  apply List.map_congr_left
  intro x _
  exact bs_data _
/-- a valid yard's numbers and lengths -/
structure YB (X : List (List Int)) : Prop where
  n4 : X.length ≤ 4
  bd : ∀ r ∈ X, ∀ x ∈ r, 0 ≤ x ∧ x ≤ 9223372036854775807
  ln : ∀ r ∈ X, r.length ≤ 6
theorem YB.of {X : List (List Int)} (h : vyB X = true) : YB X := by
  obtain ⟨h1, h2, h3, _⟩ := dB_true h
  refine ⟨h1.2, fun r hr x hx => ?_, fun r hr => ?_⟩
  · have := h3 x (List.mem_flatten.2 ⟨r, hr, hx⟩)
    omega
  · obtain ⟨s, t, rfl⟩ := List.append_of_mem hr
    simp only [List.flatten_append, List.flatten_cons, List.length_append] at h2
    omega
theorem YB.row {X : List (List Int)} (h : YB X) {r : List Int} (hr : r ∈ X) : (ntL [44] r).length ≤ 132 := by
  have h1 := ntL_len [44] r (h.bd r hr)
  have h2 : r.length * (21 + [(44 : UInt8)].length) ≤ 6 * 22 := Nat.mul_le_mul (h.ln r hr) (Nat.le_refl _)
  omega
theorem YB.all {X : List (List Int)} (h : YB X) (k : Nat) : (jn [124] ((X.take k).map (ntL [44]))).length ≤ 600 := by
  have h1 := jn_len [124] ((X.take k).map (ntL [44])) 132 (fun l hl => by
    obtain ⟨r, hr, rfl⟩ := List.mem_map.1 hl
    exact h.row (List.mem_of_mem_take hr))
  rw [List.length_map, List.length_take] at h1
  have h2 : min k X.length * (132 + [(124 : UInt8)].length) ≤ 4 * 133 := Nat.mul_le_mul (by have := h.n4; omega) (Nat.le_refl _)
  omega

set_option maxRecDepth 100000 in
set_option maxHeartbeats 1600000 in
theorem yardText_any (A : Option Addr) (c : Nat) (rs : List (Row Int)) (w : World) (hr : RdR LI w w.heap.size A c rs) (hv : YB (dat rs)) (ht : TabW w) :
    Calls Tryd.prog 56 #[.slice A rs.length c] w fun e w' => e = .returned (.string (bs (ytL (dat rs)))) ∧ Below w.heap.size w w' := by
  have hlen := hr.len63
  have HV := Lib.hid hv
  have HT := Lib.hid ht
  have hn4 : rs.length ≤ 4 := by have := hv.n4; rw [dat_len] at this; exact this
  obtain ⟨FIN, hF⟩ : ∃ F, F = bs (ytL (dat rs)) := ⟨_, rfl⟩
  rw [← hF]
  have HF := Lib.hid hF
  clear hv ht hF
  go_enter Tryd.func56, Tryd.ntmps56
  go_wp2_with fail
  go_loopw [3, 9] (fun o i wr => ∃ (k : Nat) (A1 : Option Addr) (c1 : Nat), k ≤ rs.length ∧ i = .int .i64 k ∧ o = .slice A1 (((dat rs).take k).map fun r => bs (ntL [44] r)).length c1 ∧ Hid (Own LS 9 wr w.heap.size A1 c1 (((dat rs).take k).map fun r => bs (ntL [44] r))) ∧ Hid (Below w.heap.size w wr)) (fun _ i _ => rs.length - (intOf i).toNat)
  case atStart => exact ⟨0, _, _, by omega, rfl, rfl, Lib.hid (Own.lit0 w (Nat.le_refl _) rfl), Lib.hid ((Below.refl _ _).alloc (Nat.le_refl _) _)⟩
  case round =>
    obtain ⟨k, A1, c1, hk, rfl, rfl, HO, HB⟩ := hrel
    have hsz := HB.out.size
    by_cases hlt : k < rs.length
    · obtain ⟨ad, rfl, hab, hcell, hrr⟩ := (hr.below HB.out).at_ hlt
      have hki : (k : Int) < rs.length := by omega
      have hkd : k < (dat rs).length := by rw [dat_len]; exact hlt
      have hde : (dat rs)[k] = rs[k].2.2 := dat_get rs k hlt
      have hmem : rs[k].2.2 ∈ dat rs := by rw [← hde]; exact List.getElem_mem hkd
      have HS : Hid (((dat rs).take (k + 1)).map (fun r => bs (ntL [44] r)) = ((dat rs).take k).map (fun r => bs (ntL [44] r)) ++ [bs (ntL [44] rs[k].2.2)]) := Lib.hid (by rw [List.take_succ_eq_append_getElem hkd, List.map_append, hde]; rfl)
      have hl6 := HV.out.ln _ hmem
      have hnt := numbersText_any { data := #[44] } rs[k].1 rs[k].2.1 rs[k].2.2 wr (hrr.more (by omega)) (HV.out.bd _ hmem) (by omega) (by show 1 ≤ 10; omega) (tab_below HT.out HB.out (Nat.le_refl _))
      change Calls Tryd.prog 71 #[.string { data := #[44] }, .slice rs[k].1 rs[k].2.2.length rs[k].2.1] wr (fun e w' => e = .returned (.string (bs (ntL [44] rs[k].2.2))) ∧ Below wr.heap.size wr w') at hnt
      have hl1 : (((dat rs).take k).map fun r => bs (ntL [44] r)).length ≤ 4 := by rw [List.length_map, List.length_take]; omega
      clear hde hmem hrr
      generalize ((dat rs).take k).map (fun r => bs (ntL [44] r)) = L1 at *
      generalize bs (ntL [44] rs[k].2.2) = ds at *
      generalize rs[k].1 = Ar at *
      generalize rs[k].2.1 = cr at *
      generalize rs[k].2.2 = row at *
      go_wp2_with fail
      refine hnt.mono ?_
      rintro e w2 ⟨rfl, hb2⟩
      have HB2 := Lib.hid (bthen HB.out (Nat.le_refl _) hb2)
      have HO2 := Lib.hid (HO.out.below hb2)
      have hs2 := HB2.out.size
      clear hb2 hnt
      go_wp2_with (at_builtin; go_loud (refine wpL_app1 (L := LS) rowSt rfl rfl _ _ rfl rfl HO2.out ds _ rfl rfl (by simp) (by unfold maxLen; omega) (by omega) (by omega) ?_); intro A4 c4 w4 ho4 hg4)
      go_roundw
      case rel => exact ⟨k + 1, A4, c4, by omega, by go_num, by rw [HS.out]; simp, Lib.hid (by rw [HS.out]; exact ho4), Lib.hid (Grew.below HB2.out hg4 hs2 fun g' hg' => (HO2.out.blk_lt g' hg').1)⟩
      case measure => simp [intOf]; omega
    · obtain rfl : k = rs.length := by omega
      have ho := HO.out
      rw [List.take_of_length_le (by rw [dat_len]; omega)] at ho
      rw [List.take_of_length_le (by rw [dat_len]; omega)]
      have hj := join_any A1 c1 ((dat rs).map fun r => bs (ntL [44] r)) { data := #[124] } w.heap.size wr ho (by rw [List.length_map, dat_len]; omega) (by
        rw [map_nt]
        have h := HV.out.all (dat rs).length
        rw [List.take_of_length_le (Nat.le_refl _)] at h
        show (jn [124] ((dat rs).map (ntL [44]))).length ≤ _
        omega)
      rw [map_nt] at hj
      have HJ : Hid (bs (jn ({ data := #[124] } : ByteArray).data.toList ((dat rs).map (ntL [44]))) = FIN) := Lib.hid (by rw [HF.out]; rfl)
      rw [HJ.out] at hj
      clear ho
      generalize ((dat rs).map fun r => bs (ntL [44] r)) = L1 at *
      go_wp2_with fail
      refine hj.mono ?_
      rintro e w2 ⟨rfl, hb2⟩
      have HB2 := Lib.hid (bthen HB.out (Nat.le_refl _) hb2)
      clear hb2 hj
      go_wp2_with fail
      go_ret
      exact ⟨rfl, HB2.out⟩

/-- a row's text so far, behind what stands ahead -/
theorem nt_succ (row : List Int) {j : Nat} (h : j < row.length) : ntL [44] (row.take (j + 1)) = if j = 0 then Lib.itoa row[j] else ntL [44] (row.take j) ++ [44] ++ Lib.itoa row[j] := by
  unfold ntL
  rw [List.take_succ_eq_append_getElem h, List.map_append]
  show jn [44] ((row.take j).map Lib.itoa ++ [Lib.itoa row[j]]) = _
  rw [jn_snoc]
  by_cases hj : j = 0
  · subst hj; simp
  · rw [if_neg hj, if_neg]
    rw [List.map_eq_nil_iff, List.take_eq_nil_iff]
    intro h2
    rcases h2 with h2 | h2
    · exact hj h2
    · rw [h2] at h; simp at h
theorem yt_succ (X : List (List Int)) {i : Nat} (h : i < X.length) : jn [124] ((X.take (i + 1)).map (ntL [44])) = (if i = 0 then [] else jn [124] ((X.take i).map (ntL [44])) ++ [124]) ++ ntL [44] X[i] := by
  rw [List.take_succ_eq_append_getElem h, List.map_append]
  show jn [124] ((X.take i).map (ntL [44]) ++ [ntL [44] X[i]]) = _
  rw [jn_snoc]
  by_cases hi : i = 0
  · subst hi; simp
  · rw [if_neg hi, if_neg]
    rw [List.map_eq_nil_iff, List.take_eq_nil_iff]
    intro h2
    rcases h2 with h2 | h2
    · exact hi h2
    · rw [h2] at h; simp at h

end Go.Proofs.YtiefiikheaiekaaDoor
