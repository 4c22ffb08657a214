/-
  TestedText of both.
-/
import Derived.Test.YtehmghlhljocbaaGreatDoorTested
import Derived.Test.YtehmghlhljocbaaGreatDoorJoinZ
import Derived.Deep.RegionHeld3
namespace Go.Proofs.YtehmghlhljocbaaGreatDoor
open Go.ChangeShapes Go.WideShapes Go.RowKit

def ttE (x : TestedD) : List UInt8 := Lib.itoa x.1 ++ [47] ++ Lib.itoa x.2
def ttB (x : TestedD) : ByteArray := decS x.1 ++ { data := #[47] } ++ decS x.2
theorem ttB_bs (x : TestedD) : ttB x = bs (ttE x) := by
  unfold ttB ttE
  rw [decS_bs, decS_bs, show ({ data := #[47] } : ByteArray) = bs [47] from rfl, bs_app, bs_app]
theorem map_tt (xs : List TestedD) : (xs.map ttB).map (·.data.toList) = xs.map ttE := by
  rw [List.map_map]
  apply List.map_congr_left
  intro x _
  show (ttB x).data.toList = ttE x
  rw [ttB_bs, bs_data]
def ttL (xs : List TestedD) : List UInt8 := jn [32] (xs.map ttE)
def ttS (xs : List TestedD) : ByteArray := if vtB xs = true then bs (ttL xs) else { data := #[] }
theorem ttE_len {x : TestedD} (h : (0 ≤ x.1 ∧ x.1 ≤ 100000) ∧ 0 ≤ x.2 ∧ x.2 ≤ 1000) : (ttE x).length ≤ 43 := by
  have h1 := itoa_len (n := x.1) (by omega) (by omega)
  have h2 := itoa_len (n := x.2) (by omega) (by omega)
  unfold ttE
  simp
  omega
theorem decS_len {n : Int} (h0 : 0 ≤ n) (h1 : n ≤ 9223372036854775807) : (decS n).size ≤ 21 := by
  rw [decS_bs, bs_size]
  exact itoa_len h0 h1

set_option maxRecDepth 100000 in
set_option maxHeartbeats 3200000 in
theorem implTestedText_any (A : Option Addr) (c : Nat) (xs : List TestedD) (w : World) (hr : Rd LTested w w.heap.size A c xs) (ht : TabW w) :
    Calls Tryz.prog 21 #[.slice A xs.length c] w fun e w' => e = .returned (.string (ttS xs)) ∧ Below w.heap.size w w' := by
  have hlen := hr.len63
  have hc := implValidTested_any A c xs w hr
  obtain ⟨FIN, hF⟩ : ∃ F, F = ttS xs := ⟨_, rfl⟩
  rw [← hF]
  cases hv : vtB xs
  · have HR : Hid (FIN = { data := #[] }) := Lib.hid (by rw [hF]; unfold ttS; rw [if_neg (by simp [hv])])
    rw [hv] at hc
    clear hF hv ht
    go_enter Tryz.func21, Tryz.ntmps21
    go_wp2_with fail
    refine hc.mono ?_
    rintro e w1 ⟨rfl, hb1⟩
    go_wp2_with fail
    go_ret
    exact ⟨by rw [HR.out]; rfl, hb1⟩
  have HR : Hid (FIN = bs (ttL xs)) := Lib.hid (by rw [hF]; unfold ttS; rw [if_pos hv])
  obtain ⟨hn20, hpt⟩ := vt_parts hv
  have HPT := Lib.hid hpt
  have HT := Lib.hid ht
  rw [hv] at hc
  clear hF hv ht hpt
  go_enter Tryz.func21, Tryz.ntmps21
  go_wp2_with fail
  refine hc.mono ?_
  rintro e w1 ⟨rfl, hb1⟩
  have HB1 := Lib.hid hb1
  have hs1 := hb1.size
  clear hc hb1
  go_wp2_with fail
  go_loopw [3, 12] (fun o i wr => ∃ (k : Nat) (A1 : Option Addr) (c1 : Nat), k ≤ xs.length ∧ i = .int .i64 k ∧ o = .slice A1 ((xs.take k).map ttB).length c1 ∧ Hid (Own LS 9 wr w.heap.size A1 c1 ((xs.take k).map ttB)) ∧ Hid (Below w.heap.size w wr)) (fun _ i _ => xs.length - (intOf i).toNat)
  case atStart => exact ⟨0, _, _, by omega, rfl, rfl, Lib.hid (Own.lit0 w1 hs1 rfl), Lib.hid (HB1.out.alloc hs1 _)⟩
  case round =>
    obtain ⟨k, A1, c1, hk, rfl, rfl, HO, HB⟩ := hrel
    have hsz := HB.out.size
    by_cases hlt : k < xs.length
    · obtain ⟨ad, rfl, hab, d0, d1⟩ := rdTested (hr.below HB.out) hlt
      have hki : (k : Int) < xs.length := by omega
      obtain ⟨⟨p0, p1⟩, p2, p3⟩ := HPT.out _ (List.getElem_mem hlt)
      have HS : Hid ((xs.take (k + 1)).map ttB = (xs.take k).map ttB ++ [decS xs[k].1 ++ { data := #[47] } ++ decS xs[k].2]) := Lib.hid (by rw [List.take_succ_eq_append_getElem hlt, List.map_append]; rfl)
      have hd1 := fun W (h : TabW W) => dec_any xs[k].1 p0 (by omega) W h
      have hd2 := fun W (h : TabW W) => dec_any xs[k].2 p2 (by omega) W h
      have l1 := decS_len (n := xs[k].1) p0 (by omega)
      have l2 := decS_len (n := xs[k].2) p2 (by omega)
      have hl1 : ((xs.take k).map ttB).length ≤ 20 := by simp; omega
      have HD1 := Lib.hid hd1
      have HD2 := Lib.hid hd2
      clear hd1 hd2 p0 p1 p2 p3
      generalize (xs.take k).map ttB = L1 at *
      generalize decS xs[k].1 = ds1 at *
      generalize decS xs[k].2 = ds2 at *
      generalize xs[k].1 = x1 at *
      generalize xs[k].2 = x2 at *
      have a1 := fun W : World => run_string_add_sum (P := Tryz.prog) W ds1 { data := #[47] } (by rw [show ByteArray.size { data := #[47] } = 1 from rfl]; omega)
      have a2 := fun W : World => run_string_add_sum (P := Tryz.prog) W (ds1 ++ { data := #[47] }) ds2 (by rw [ByteArray.size_append, show ByteArray.size { data := #[47] } = 1 from rfl]; omega)
      have hbA : Hid (∀ o : Obj, Below w.heap.size w (wr.alloc o).drew) := Lib.hid fun o => (HB.out.alloc hsz o).drew
      have hoA : Hid (∀ o : Obj, Own LS 9 (wr.alloc o).drew w.heap.size A1 c1 L1) := Lib.hid fun o => (HO.out.alloc o).drew
      go_wp2_with fail
      go_region_held3 (fun W => W.cell? ⟨wr.heap.size, 0, none⟩ = some (.int .i64 x1) ∧ W.cell? ⟨wr.heap.size, 1, none⟩ = some (.int .i64 x2))
        (first | go_keep | (go_split_ands; refine ⟨?_, ?_⟩ <;> (refine (hbC.cell ?_).trans ?_; (focus (first | omega | (simp <;> omega))); assumption)) | (go_split_ands; refine ⟨?_, ?_⟩ <;> (refine (hg4.cell _ ?_ ?_).trans ?_; (focus (first | omega | (simp <;> omega))); (focus (intro e; have := HO.out.blk_lt _ e; simp at this)); (first | assumption | go_simp))))
        ((first
          | (go_at_call 53; (first | (with_reducible refine (HD1.out _ ?_).mono ?_) | (with_reducible refine (HD2.out _ ?_).mono ?_)); (focus (first | exact tab_below HT.out hbB (Nat.le_refl _) | exact tab_below HT.out (hbA.out _) (Nat.le_refl _))); rintro e w3 ⟨rfl, hbC⟩; have hsC := hbC.size; (try simp at hsC); first | (have hbD := bthen hbB (Nat.le_refl _) hbC; have hoD := hoB.below hbC) | (have hbB := bthen (hbA.out _) (Nat.le_refl _) hbC; have hoB := (hoA.out _).below hbC))
          | (refine stepL_app1 (L := LS) rowSt rfl rfl _ _ rfl rfl (hoD.alloc _) (ds1 ++ { data := #[47] } ++ ds2) rfl ?_ (by unfold maxLen; omega) (by omega) (by simp; have := hbD.size; omega) ?_; (focus (intro j v hv; cases j <;> simp [LS] at hv; subst hv; go_simp)); intro A4 c4 w4 ho4 hg4)))
      go_wp2_with fail
      go_roundw
      case rel => exact ⟨k + 1, A4, c4, by omega, by go_num, by rw [HS.out]; simp, Lib.hid (by rw [HS.out]; exact ho4), Lib.hid (Grew.below (hbD.alloc (by have := hbD.size; omega) _) hg4 (by simp; have := hbD.size; omega) fun g' hg' => (hoD.blk_lt g' hg').1)⟩
      case measure => simp [intOf]; omega
    · obtain rfl : k = xs.length := by omega
      have ho := HO.out
      rw [List.take_of_length_le (Nat.le_refl _)] at ho
      rw [List.take_of_length_le (Nat.le_refl _)]
      have hj := join_any A1 c1 (xs.map ttB) { data := #[32] } w.heap.size wr ho (by rw [List.length_map]; omega) (by
        rw [map_tt]
        have h1 := jn_len [32] (xs.map ttE) 43 (fun l hl => by
          obtain ⟨x, hx, rfl⟩ := List.mem_map.1 hl
          exact ttE_len (HPT.out x hx))
        rw [List.length_map] at h1
        have h2 : xs.length * (43 + [(32 : UInt8)].length) ≤ 20 * 44 := Nat.mul_le_mul hn20 (Nat.le_refl _)
        show (jn [32] (xs.map ttE)).length ≤ _
        omega)
      rw [map_tt] at hj
      have HJ : Hid (bs (jn ({ data := #[32] } : ByteArray).data.toList (xs.map ttE)) = FIN) := Lib.hid (by rw [HR.out]; rfl)
      rw [HJ.out] at hj
      clear ho
      generalize (xs.map ttB) = L1 at *
      go_wp2_with fail
      refine hj.mono ?_
      rintro e w2 ⟨rfl, hb2⟩
      have HB2 := Lib.hid (bthen HB.out (Nat.le_refl _) hb2)
      clear hb2 hj
      go_wp2_with fail
      go_ret
      exact ⟨rfl, HB2.out⟩
set_option maxRecDepth 100000 in
set_option maxHeartbeats 3200000 in
theorem l19Text_any (A : Option Addr) (c : Nat) (xs : List TestedD) (w : World) (hr : Rd LTested w w.heap.size A c xs) (hv : vtB xs = true) :
    Calls Tryz.prog 57 #[.slice A xs.length c] w fun e w' => e = .returned (.string (bs (ttL xs))) ∧ Below w.heap.size w w' := by
  have hlen := hr.len63
  obtain ⟨hn20, hpt⟩ := vt_parts hv
  have HPT := Lib.hid hpt
  have HLN : Hid (∀ k, (jn [32] ((xs.take k).map ttE)).length ≤ 1000) := Lib.hid fun k => by
    have h1 := jn_len [32] ((xs.take k).map ttE) 43 (fun l hl => by
      obtain ⟨x, hx, rfl⟩ := List.mem_map.1 hl
      exact ttE_len (hpt x (List.mem_of_mem_take hx)))
    rw [List.length_map, List.length_take] at h1
    have h2 : min k xs.length * (43 + [(32 : UInt8)].length) ≤ 20 * 44 := Nat.mul_le_mul (by omega) (Nat.le_refl _)
    omega
  obtain ⟨FIN, hF⟩ : ∃ F, F = bs (ttL xs) := ⟨_, rfl⟩
  rw [← hF]
  have HF := Lib.hid hF
  clear hpt hv hF
  go_enter Tryz.func57, Tryz.ntmps57
  go_wp2_with fail
  go_loopw [3, 4] (fun o i wr => ∃ k : Nat, k ≤ xs.length ∧ i = .int .i64 k ∧ o = .string (bs (jn [32] ((xs.take k).map ttE))) ∧ Hid (Below w.heap.size w wr)) (fun _ i _ => xs.length - (intOf i).toNat)
  case atStart => exact ⟨0, by omega, rfl, rfl, Lib.hid (Below.refl _ _)⟩
  case round =>
    obtain ⟨k, hk, rfl, rfl, HB⟩ := hrel
    have hsz := HB.out.size
    by_cases hlt : k < xs.length
    · obtain ⟨ad, rfl, hab, d0, d1⟩ := rdTested (hr.below HB.out) hlt
      have hki : (k : Int) < xs.length := by omega
      obtain ⟨⟨p0, p1⟩, p2, p3⟩ := HPT.out _ (List.getElem_mem hlt)
      have hd1 := fun W => l01Dec_any xs[k].1 p0 (by omega) W
      have hd2 := fun W => l01Dec_any xs[k].2 p2 (by omega) W
      have l1 := decS_len (n := xs[k].1) p0 (by omega)
      have l2 := decS_len (n := xs[k].2) p2 (by omega)
      have hjl := HLN.out k
      have HS := Lib.hid (jn_snoc [32] ((xs.take k).map ttE) (ttE xs[k]))
      have HM : Hid ((xs.take (k + 1)).map ttE = (xs.take k).map ttE ++ [ttE xs[k]]) := Lib.hid (by rw [List.take_succ_eq_append_getElem hlt, List.map_append]; rfl)
      have HE : Hid (bs (ttE xs[k]) = decS xs[k].1 ++ { data := #[47] } ++ decS xs[k].2) := Lib.hid (ttB_bs _).symm
      have HZ : Hid (((xs.take k).map ttE = []) ↔ k = 0) := Lib.hid (by
        rw [List.map_eq_nil_iff, List.take_eq_nil_iff]
        constructor
        · intro h; rcases h with h | h
          · exact h
          · rw [h] at hlt; simp at hlt
        · intro h; exact .inl h)
      have hbz : (bs (jn [32] ((xs.take k).map ttE))).size ≤ 1000 := by rw [bs_size]; exact hjl
      have HD1 := Lib.hid hd1
      have HD2 := Lib.hid hd2
      clear hd1 hd2 p0 p1 p2 p3 hjl
      have HTE : Hid (∀ o : ByteArray, o = (if k = 0 then bs (jn [32] ((xs.take k).map ttE)) else bs (jn [32] ((xs.take k).map ttE)) ++ { data := #[32] }) → o ++ (decS xs[k].1 ++ { data := #[47] } ++ decS xs[k].2) = bs (jn [32] ((xs.take (k + 1)).map ttE))) := Lib.hid fun o ho => by
        rw [ho, HM.out, HS.out, ← HE.out]
        by_cases hz : k = 0
        · rw [if_pos hz, if_pos (HZ.out.2 hz), HZ.out.2 hz, bs_app]
          rfl
        · rw [if_neg hz, if_neg (fun h => hz (HZ.out.1 h)), show ({ data := #[32] } : ByteArray) = bs [32] from rfl, bs_app, bs_app]
      clear HE HS HM HZ
      generalize bs (jn [32] ((xs.take k).map ttE)) = o at *
      obtain ⟨o2, ho2⟩ : ∃ o2, o2 = bs (jn [32] ((xs.take (k + 1)).map ttE)) := ⟨_, rfl⟩
      rw [← ho2] at HTE
      have HO2 := Lib.hid ho2
      clear ho2
      generalize decS xs[k].1 = ds1 at *
      generalize decS xs[k].2 = ds2 at *
      generalize xs[k].1 = x1 at *
      generalize xs[k].2 = x2 at *
      have a1 := fun W : World => run_string_add_sum (P := Tryz.prog) W ds1 { data := #[47] } (by rw [show ByteArray.size { data := #[47] } = 1 from rfl]; omega)
      have a2 := fun W : World => run_string_add_sum (P := Tryz.prog) W (ds1 ++ { data := #[47] }) ds2 (by rw [ByteArray.size_append, show ByteArray.size { data := #[47] } = 1 from rfl]; omega)
      have a3 := fun W : World => run_string_add_sum (P := Tryz.prog) W o { data := #[32] } (by rw [show ByteArray.size { data := #[32] } = 1 from rfl]; omega)
      have a4 := fun W : World => run_string_add_sum (P := Tryz.prog) W o (ds1 ++ { data := #[47] } ++ ds2) (by rw [ByteArray.size_append, ByteArray.size_append, show ByteArray.size { data := #[47] } = 1 from rfl]; omega)
      have a5 := fun W : World => run_string_add_sum (P := Tryz.prog) W (o ++ { data := #[32] }) (ds1 ++ { data := #[47] } ++ ds2) (by rw [ByteArray.size_append, ByteArray.size_append, ByteArray.size_append, show ByteArray.size { data := #[47] } = 1 from rfl, show ByteArray.size { data := #[32] } = 1 from rfl]; omega)
      have hab2 : (ad.add (k * 2)).block < wr.heap.size := by rw [block_of_add]; omega
      have hbA : Hid (Below w.heap.size w wr) := HB
      by_cases hz : k = 0
      · have HTE2 := Lib.hid (HTE.out o (by rw [if_pos hz]))
        have hz2 : (k : Int) ≤ 0 := by omega
        clear hz HTE
        go_wp2_with fail
        go_region_held3 (fun W => W.cell? (ad.add (k * 2)) = some (.int .i64 x1) ∧ W.cell? ⟨(ad.add (k * 2)).block, (ad.add (k * 2)).off + 1, none⟩ = some (.int .i64 x2))
          (first | go_keep | (go_split_ands; refine ⟨?_, ?_⟩ <;> (refine (hbC.cell ?_).trans ?_; (focus (first | omega | (simp <;> omega))); assumption)))
          ((go_at_call 84; (first | (with_reducible refine (HD1.out _).mono ?_) | (with_reducible refine (HD2.out _).mono ?_)); rintro e w3 ⟨rfl, hbC⟩; have hsC := hbC.size; (try simp at hsC); first | (have hbD := bthen hbB (Nat.le_refl _) hbC) | (have hbB := bthen hbA.out (Nat.le_refl _) hbC) | (have hbB := bthen hbA.out.drew (Nat.le_refl _) hbC)))
        go_wp2_with fail
        go_roundw
        case rel => exact ⟨k + 1, by omega, by go_num, by rw [HTE2.out, HO2.out], Lib.hid hbD⟩
        case measure => simp [intOf]; omega
      · have HTE2 := Lib.hid (HTE.out _ (by rw [if_neg hz]))
        have hz2 : (0 : Int) < k := by omega
        have hz3 : 0 < k := by omega
        clear hz HTE
        go_wp2_with fail
        go_region_held3 (fun W => W.cell? (ad.add (k * 2)) = some (.int .i64 x1) ∧ W.cell? ⟨(ad.add (k * 2)).block, (ad.add (k * 2)).off + 1, none⟩ = some (.int .i64 x2))
          (first | go_keep | (go_split_ands; refine ⟨?_, ?_⟩ <;> (refine (hbC.cell ?_).trans ?_; (focus (first | omega | (simp <;> omega))); assumption)))
          ((go_at_call 84; (first | (with_reducible refine (HD1.out _).mono ?_) | (with_reducible refine (HD2.out _).mono ?_)); rintro e w3 ⟨rfl, hbC⟩; have hsC := hbC.size; (try simp at hsC); first | (have hbD := bthen hbB (Nat.le_refl _) hbC) | (have hbB := bthen hbA.out (Nat.le_refl _) hbC) | (have hbB := bthen hbA.out.drew (Nat.le_refl _) hbC)))
        go_wp2_with fail
        go_roundw
        case rel => exact ⟨k + 1, by omega, by go_num, by rw [HTE2.out, HO2.out], Lib.hid hbD⟩
        case measure => simp [intOf]; omega
    · obtain rfl : k = xs.length := by omega
      rw [List.take_of_length_le (Nat.le_refl _)]
      have HR : Hid (bs (jn [32] (xs.map ttE)) = FIN) := Lib.hid (by rw [HF.out]; rfl)
      rw [HR.out]
      go_wp2_with fail
      go_ret
      exact ⟨rfl, HB.out⟩
theorem specTestedText_any (A : Option Addr) (c : Nat) (xs : List TestedD) (w : World) (hr : Rd LTested w w.heap.size A c xs) (_ht : TabW w) :
    Calls Tryz.prog 26 #[.slice A xs.length c] w fun e w' => e = .returned (.string (ttS xs)) ∧ Below w.heap.size w w' := by
  have hlen := hr.len63
  have hc := l19Ok_any A c xs w.heap.size w hr
  obtain ⟨FIN, hF⟩ : ∃ F, F = ttS xs := ⟨_, rfl⟩
  rw [← hF]
  cases hv : vtB xs
  · have HR : Hid (FIN = { data := #[] }) := Lib.hid (by rw [hF]; unfold ttS; rw [if_neg (by simp [hv])])
    rw [hv] at hc
    clear hF hv
    go_enter Tryz.func26, Tryz.ntmps26
    go_wp2_with fail
    refine hc.mono ?_
    rintro e w1 ⟨rfl, rfl⟩
    go_wp2_with fail
    go_ret
    exact ⟨by rw [HR.out]; rfl, Below.refl _ _⟩
  have hR : FIN = bs (ttL xs) := by rw [hF]; unfold ttS; rw [if_pos hv]
  have ht := l19Text_any A c xs w hr hv
  rw [← hR] at ht
  rw [hv] at hc
  clear hF hv hR
  go_enter Tryz.func26, Tryz.ntmps26
  go_wp2_with fail
  refine hc.mono ?_
  rintro e w1 ⟨rfl, rfl⟩
  go_wp2_with fail
  refine ht.mono ?_
  rintro e w2 ⟨rfl, hb2⟩
  go_wp2_with fail
  go_ret
  exact ⟨rfl, hb2⟩
end Go.Proofs.YtehmghlhljocbaaGreatDoor
