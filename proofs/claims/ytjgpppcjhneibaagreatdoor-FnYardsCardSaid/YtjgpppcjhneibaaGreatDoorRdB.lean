/-
  Numbers in decimal: the program's reader, by the library.
-/
import Derived.Test.YtjgpppcjhneibaaGreatDoorRdA
namespace Go.Proofs.YtjgpppcjhneibaaGreatDoor
open Go.ChangeShapes Go.WideShapes Go.RowKit

def ErrV (w : World) (g : Nat) : Prop := ∃ ev : Value, w.cell? ⟨g, 0, none⟩ = some ev ∧ (ev = .nilIface ∨ ∃ te pe, ev = .iface te pe)
/-- what the library's readers want of the world: the table, its two errors -/
structure LibW (w : World) : Prop where
  tab : TabW w
  e15 : ErrV w (Tryz.laysC174_ren.g 15)
  e16 : ErrV w (Tryz.laysC174_ren.g 16)
theorem err_below {w w' : World} {g : Nat} (h : ErrV w g) {B : Nat} (hb : Below B w w') (hB : w.heap.size ≤ B) : ErrV w' g := by
  obtain ⟨ev, h1, h2⟩ := h
  exact ⟨ev, cell_below h1 hb hB, h2⟩
theorem lib_below {w w' : World} (h : LibW w) {B : Nat} (hb : Below B w w') (hB : w.heap.size ≤ B) : LibW w' :=
  ⟨tab_below h.tab hb hB, err_below h.e15 hb hB, err_below h.e16 hb hB⟩
/-- FormatInt at every number -/
theorem decAll_any (n : Int) (h0 : -9223372036854775808 ≤ n) (h1 : n ≤ 9223372036854775807) (w : World) (ht : TabW w) : Calls Tryz.prog 58 #[.int .i64 n] w fun e w' => e = .returned (.string (decS n)) ∧ Below w.heap.size w w' := by
  have hc := Any.strconv_FormatInt_10 Tryz.laysM173 n h0 h1 w ht
  change Calls Tryz.prog 73 #[.int .i64 n, .int .i64 10] w (fun e w' => e = .returned (.string (decS n)) ∧ ∃ k os, w' = Sort.grow (w.drewN k) os) at hc
  generalize decS n = s at *
  go_enter Tryz.func58, Tryz.ntmps58
  go_wp2_with fail
  refine hc.mono ?_
  rintro e w1 ⟨rfl, k, os, rfl⟩
  have HB : Hid (Below w.heap.size w (Sort.grow (w.drewN k) os)) := Lib.hid (below_growL (below_drewN (Below.refl _ w) k) (Nat.le_refl _) os)
  generalize Sort.grow (w.drewN k) os = w2 at *
  go_wp2_with fail
  go_ret
  exact ⟨rfl, HB.out⟩
set_option maxRecDepth 100000 in
set_option maxHeartbeats 1600000 in
theorem readDecimal_any (s : ByteArray) (w : World) (hs : s.size ≤ 1048576) (hw : LibW w) :
    Calls Tryz.prog 41 #[.string s] w fun e w' => e = .returned (.tuple #[.int .i64 ((rdN s.data.toList).getD 0), .bool (rdN s.data.toList).isSome]) ∧ Below w.heap.size w w' := by
  obtain ⟨FIN, hF⟩ : ∃ F, F = rdN s.data.toList := ⟨_, rfl⟩
  rw [← hF]
  have hsz := size_data s
  have htl : s.data.toList.length ≤ (trm s.data.toList).length + 1 := by
    cases s.data.toList with
    | nil => simp
    | cons c r =>
      rw [trm_cons]
      split <;> simp
  have htr := trim_any s w
  by_cases h18 : (trm s.data.toList).length ≤ 18
  rotate_left
  · have HR : Hid (FIN = none) := Lib.hid (by rw [hF]; unfold rdN; rw [if_neg h18])
    have hb : (bs (trm s.data.toList)).size = (trm s.data.toList).length := bs_size _
    generalize bs (trm s.data.toList) = tb at *
    generalize (trm s.data.toList).length = tn at *
    have h3 : 18 < tb.size := by omega
    have h4 : (18 : Int) < tb.size := by omega
    by_cases h19 : 19 < s.size
    · have h5 : (19 : Int) < s.size := by omega
      clear hF h18 htr htl hb
      go_enter Tryz.func41, Tryz.ntmps41
      go_wp2_with fail
      go_ret2
      exact ⟨by rw [HR.out]; rfl, Below.refl _ _⟩
    · have h5 : (s.size : Int) ≤ 19 := by omega
      have h6 : s.size ≤ 19 := by omega
      clear hF h18 htl hb h19
      go_enter Tryz.func41, Tryz.ntmps41
      go_wp2_with fail
      refine htr.mono ?_
      rintro e w1 ⟨rfl, rfl⟩
      go_wp2_with fail
      go_ret2
      exact ⟨by rw [HR.out]; rfl, Below.refl _ _⟩
  have h5 : (s.size : Int) ≤ 19 := by omega
  have h6 : s.size ≤ 19 := by omega
  have hb : (bs (trm s.data.toList)).size = (trm s.data.toList).length := bs_size _
  have h3 : (bs (trm s.data.toList)).size ≤ 18 := by omega
  have h4 : ((bs (trm s.data.toList)).size : Int) ≤ 18 := by omega
  have HV : Hid (FIN = match Lib.parseIntB 64 s.data.toList with | .ok v => if Lib.itoa v = s.data.toList then some v else none | _ => none) := Lib.hid (by rw [hF]; unfold rdN; rw [if_pos h18]; cases Lib.parseIntB 64 s.data.toList <;> rfl)
  generalize bs (trm s.data.toList) = tb at *
  rcases hp : Lib.parseIntB 64 s.data.toList with v | _ | _
  · skip
    have hbd := Lib.parseIntB_bounds hp
    have hpi := Any.strconv_ParseInt_10_at64_ok Tryz.laysC174 s (by omega) v hp w
    change Calls Tryz.prog 57 _ _ _ at hpi
    have hd := fun (W : World) (hW : TabW W) => decAll_any v (by omega) (by omega) W hW
    have HT := Lib.hid hw.tab
    rw [hp] at HV
    by_cases he : Lib.itoa v = s.data.toList
    · have HR : Hid (FIN = some v) := Lib.hid (by rw [HV.out]; show (if Lib.itoa v = s.data.toList then some v else none) = _; rw [if_pos he])
      have hde : decS v = s := by rw [decS_bs, he, bs_self]
      rw [hde] at hd
      have HD := Lib.hid hd
      clear hF h18 htl hb HV hp hbd hw he hde hd hsz
      go_enter Tryz.func41, Tryz.ntmps41
      go_wp2_with fail
      refine htr.mono ?_
      rintro e w1 ⟨rfl, rfl⟩
      go_wp2_with fail
      refine hpi.mono ?_
      rintro e w1 ⟨rfl, hw1⟩
      have hb1 : Below w.heap.size w w1 := by
        rcases hw1 with rfl | ⟨t, rfl⟩
        · exact Below.refl _ _
        · exact Lib.bytesWorld_below _ _ _
      clear hw1
      have hd1 := HD.out w1 (tab_below HT.out hb1 (Nat.le_refl _))
      go_wp2_with fail
      refine hd1.mono ?_
      rintro e w2 ⟨rfl, hb2⟩
      have HB2 := Lib.hid (bthen hb1 (Nat.le_refl _) hb2)
      clear hb1 hb2 hd1
      go_wp2_with fail
      go_ret2
      exact ⟨by rw [HR.out]; rfl, HB2.out⟩
    · have HR : Hid (FIN = none) := Lib.hid (by rw [HV.out]; show (if Lib.itoa v = s.data.toList then some v else none) = _; rw [if_neg he])
      have hde : decS v ≠ s := by
        intro e
        rw [← e, decS_bs, bs_data] at he
        exact he rfl
      have z1 := str_ne hde
      have z2 : ((decS v).toList != s.toList) = true := by rw [bne, z1]; rfl
      generalize decS v = ds at *
      have HD := Lib.hid hd
      clear hF h18 htl hb HV hp hbd hw he hd hsz
      go_enter Tryz.func41, Tryz.ntmps41
      go_wp2_with fail
      refine htr.mono ?_
      rintro e w1 ⟨rfl, rfl⟩
      go_wp2_with fail
      refine hpi.mono ?_
      rintro e w1 ⟨rfl, hw1⟩
      have hb1 : Below w.heap.size w w1 := by
        rcases hw1 with rfl | ⟨t, rfl⟩
        · exact Below.refl _ _
        · exact Lib.bytesWorld_below _ _ _
      clear hw1
      have hd1 := HD.out w1 (tab_below HT.out hb1 (Nat.le_refl _))
      go_wp2_with fail
      refine hd1.mono ?_
      rintro e w2 ⟨rfl, hb2⟩
      have HB2 := Lib.hid (bthen hb1 (Nat.le_refl _) hb2)
      clear hb1 hb2 hd1
      go_wp2_with fail
      go_ret2
      exact ⟨by rw [HR.out]; rfl, HB2.out⟩
  · skip
    obtain ⟨ev, he1, he2⟩ := hw.e15
    have hpi := Any.strconv_ParseInt_10_at64_syntax Tryz.laysC174 s (by omega) hp ev w he1 he2
    change Calls Tryz.prog 57 _ _ _ at hpi
    have HR : Hid (FIN = none) := Lib.hid (by rw [HV.out, hp])
    clear hF h18 htl hb HV hp hw he1 he2 hsz
    go_enter Tryz.func41, Tryz.ntmps41
    go_wp2_with fail
    refine htr.mono ?_
    rintro e w1 ⟨rfl, rfl⟩
    go_wp2_with fail
    refine hpi.mono ?_
    rintro e w1 ⟨Nb, rfl, _, _, hb1⟩
    have HB2 := Lib.hid hb1
    clear hb1
    go_wp2_with fail
    go_ret2
    exact ⟨by rw [HR.out]; rfl, HB2.out⟩
  · skip
    obtain ⟨ev, he1, he2⟩ := hw.e16
    have hpi := Any.strconv_ParseInt_10_at64_range Tryz.laysC174 s (by omega) hp ev w he1 he2
    change Calls Tryz.prog 57 _ _ _ at hpi
    have HR : Hid (FIN = none) := Lib.hid (by rw [HV.out, hp])
    clear hF h18 htl hb HV hp hw he1 he2 hsz
    generalize Lib.intSat 64 s.data.toList = sat at *
    go_enter Tryz.func41, Tryz.ntmps41
    go_wp2_with fail
    refine htr.mono ?_
    rintro e w1 ⟨rfl, rfl⟩
    go_wp2_with fail
    refine hpi.mono ?_
    rintro e w1 ⟨Nb, rfl, _, _, hb1⟩
    have HB2 := Lib.hid hb1
    clear hb1
    go_wp2_with fail
    go_ret2
    exact ⟨by rw [HR.out]; rfl, HB2.out⟩
end Go.Proofs.YtjgpppcjhneibaaGreatDoor
