/-
  l00Put: a number put into a list; only that the list is new, and how long it is.
-/
import Derived.Test.YtcookepklcbfeaaRoadsDraw
namespace Go.Proofs.Ytcookepklcbfeaa
open Go.ChangeShapes Go.WideShapes Go.RowKit

set_option maxRecDepth 100000 in
set_option maxHeartbeats 6400000 in
theorem l00Put_any (v : Int) (A : Option Addr) (c : Nat) (xs : List Int) (w : World) (hr : Rd LI w w.heap.size A c xs) (hl : xs.length ≤ 20) :
    Calls Try.prog 61 #[.slice A xs.length c, .int .i64 v] w fun e w' => ∃ A1 c1 L, e = .returned (.slice A1 (L : List Int).length c1) ∧ L.length ≤ xs.length + 1 ∧ Own LI 2 w' w.heap.size A1 c1 L ∧ Below w.heap.size w w' := by
  have HR := Lib.hid (fun (W : World) (h : Below w.heap.size w W) => hr.below h)
  have HO := Lib.hid (Own.lit0 (L := LI) (T := 2) (base := w.heap.size) (g := w.heap.size) w (Nat.le_refl _) rfl)
  have hbl : Below w.heap.size w (w.alloc (.cells #[] 2)) := (Below.refl _ w).alloc (Nat.le_refl _) _
  have HB := Lib.hid hbl
  clear hr hbl
  go_enter Try.func61, Try.ntmps61
  go_wp2_with fail
  go_loopw [5, 6, 7] (fun o b i wr => ∃ (k : Nat) (A1 : Option Addr) (c1 : Nat) (L : List Int) (d : Bool), k ≤ xs.length ∧ i = .int .i64 k ∧ b = .bool d ∧ o = .slice A1 L.length c1 ∧ Hid (L.length ≤ k + 1) ∧ Hid (d = false → L.length ≤ k) ∧ Hid (Own LI 2 wr w.heap.size A1 c1 L) ∧ Hid (Below w.heap.size w wr)) (fun _ _ i _ => xs.length - (intOf i).toNat)
  case atStart => exact ⟨0, _, _, [], false, by omega, rfl, rfl, rfl, Lib.hid (by simp), Lib.hid (fun _ => by simp), HO, HB⟩
  case round =>
    clear HO HB
    obtain ⟨k, A1, c1, L, d, hk, rfl, rfl, rfl, HL, HLd, HO, HB⟩ := hrel
    have hLk := HL.out
    have hsz := HB.out.size
    by_cases hlt : k < xs.length
    · have hki : (k : Int) < xs.length := by omega
      obtain ⟨ad, rfl, hab, hc⟩ := (HR.out wr HB.out).int hlt
      generalize xs[k] = x at *
      have hnn := HO.out.blk_lt
      cases d
      · have hLd := HLd.out rfl
        by_cases h1 : v ≤ x
        · by_cases h2 : v < x
          · go_upto_region 10 with (at_builtin; go_loud (refine wpL_app1 (L := LI) rowI rfl rfl _ _ rfl rfl HO.out v _ rfl rfl (by simp) (by unfold maxLen; omega) (by omega) (by omega) ?_); intro A6 c6 w6 ho6 hg6; have hb6 := Grew.below' hg6 hsz (fun q e => (hnn q e).1); have hc6 := (hb6.cell (p := ad.add k) (by rw [block_of_add]; exact hab)).trans hc)
            have HO6 := Lib.hid ho6
            have hnn6 := ho6.blk_lt
            have hs6 := hb6.size
            have HB6 := Lib.hid (HB.out.trans hb6)
            clear ho6 hg6 hb6 hc
            have hl6 : (L ++ [v]).length = L.length + 1 := by simp
            rw [← hl6]
            obtain ⟨L2, hL2⟩ : ∃ l, l = L ++ [v] := ⟨_, rfl⟩
            rw [← hL2] at HO6 hl6 ⊢
            have hl7 : L2.length ≤ k + 1 := by omega
            clear hL2 hl6
            go_wp2_with (at_builtin; go_loud (refine wpL_app1 (L := LI) rowI rfl rfl _ _ rfl rfl HO6.out x _ rfl rfl (by simp) (by unfold maxLen; omega) (by omega) (by omega) ?_); intro A7 c7 w7 ho7 hg7)
            have hb7 := Grew.below' hg7 (show w.heap.size ≤ _ by omega) (fun q e => (hnn6 q e).1)
            have HO7 := Lib.hid ho7
            have HB7 := Lib.hid (HB6.out.trans hb7)
            clear ho7 hg7 hb7
            go_roundw
            case rel => exact ⟨k + 1, A7, c7, L2 ++ [x], true, by omega, by go_num, rfl, by simp, Lib.hid (by simp; omega), Lib.hid (fun h => by cases h), HO7, HB7⟩
            case measure => simp [intOf]; omega
          · have h2' : x ≤ v := by omega
            go_wp2_with (at_builtin; go_loud (refine wpL_app1 (L := LI) rowI rfl rfl _ _ rfl rfl HO.out x _ rfl rfl (by simp) (by unfold maxLen; omega) (by omega) (by omega) ?_); intro A7 c7 w7 ho7 hg7)
            have hb7 := Grew.below' hg7 hsz (fun q e => (hnn q e).1)
            have HO7 := Lib.hid ho7
            have HB7 := Lib.hid (HB.out.trans hb7)
            clear ho7 hg7 hb7
            go_roundw
            case rel => exact ⟨k + 1, A7, c7, L ++ [x], true, by omega, by go_num, rfl, by simp, Lib.hid (by simp; omega), Lib.hid (fun h => by cases h), HO7, HB7⟩
            case measure => simp [intOf]; omega
        · have h1' : x < v := by omega
          go_wp2_with (at_builtin; go_loud (refine wpL_app1 (L := LI) rowI rfl rfl _ _ rfl rfl HO.out x _ rfl rfl (by simp) (by unfold maxLen; omega) (by omega) (by omega) ?_); intro A7 c7 w7 ho7 hg7)
          have hb7 := Grew.below' hg7 hsz (fun q e => (hnn q e).1)
          have HO7 := Lib.hid ho7
          have HB7 := Lib.hid (HB.out.trans hb7)
          clear ho7 hg7 hb7
          go_roundw
          case rel => exact ⟨k + 1, A7, c7, L ++ [x], false, by omega, by go_num, rfl, by simp, Lib.hid (by simp; omega), Lib.hid (fun _ => by simp; omega), HO7, HB7⟩
          case measure => simp [intOf]; omega
      · go_wp2_with (at_builtin; go_loud (refine wpL_app1 (L := LI) rowI rfl rfl _ _ rfl rfl HO.out x _ rfl rfl (by simp) (by unfold maxLen; omega) (by omega) (by omega) ?_); intro A7 c7 w7 ho7 hg7)
        have hb7 := Grew.below' hg7 hsz (fun q e => (hnn q e).1)
        have HO7 := Lib.hid ho7
        have HB7 := Lib.hid (HB.out.trans hb7)
        clear ho7 hg7 hb7
        go_roundw
        case rel => exact ⟨k + 1, A7, c7, L ++ [x], true, by omega, by go_num, rfl, by simp, Lib.hid (by simp; omega), Lib.hid (fun h => by cases h), HO7, HB7⟩
        case measure => simp [intOf]; omega
    · have hki : (xs.length : Int) ≤ k := by omega
      have hnn := HO.out.blk_lt
      cases d
      · have hLd := HLd.out rfl
        go_wp2_with (at_builtin; go_loud (refine wpL_app1 (L := LI) rowI rfl rfl _ _ rfl rfl HO.out v _ rfl rfl (by simp) (by unfold maxLen; omega) (by omega) (by omega) ?_); intro A7 c7 w7 ho7 hg7)
        have hb7 := Grew.below' hg7 hsz (fun q e => (hnn q e).1)
        have HO7 := Lib.hid ho7
        have HB7 := Lib.hid (HB.out.trans hb7)
        clear ho7 hg7 hb7
        go_wp2_with fail
        go_ret
        exact ⟨A7, c7, L ++ [v], by simp, by simp; omega, HO7.out, HB7.out⟩
      · go_wp2_with fail
        go_ret
        exact ⟨A1, c1, L, rfl, by omega, HO.out, HB.out⟩
end Go.Proofs.Ytcookepklcbfeaa
