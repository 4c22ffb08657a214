/-
  Numbers of a text with a separator: the program's reader.
-/
import Derived.Test.YtjgpppcjhneibaaGreatDoorRdB
namespace Go.Proofs.YtjgpppcjhneibaaGreatDoor
open Go.ChangeShapes Go.WideShapes Go.RowKit

def rdM (b : UInt8) (n : Nat) (p : ByteArray) : Option (List Int) := if (SP b p).length = n then mapO (fun q : ByteArray => rdN q.data.toList) (SP b p) else none
set_option maxRecDepth 100000 in
set_option maxHeartbeats 1600000 in
theorem readNumbers_any (s : ByteArray) (b : UInt8) (n : Nat) (w : World) (hs : s.size ≤ 1048576) (hn : n ≤ 1048578) (hw : LibW w) :
    Calls Tryz.prog 23 #[.string s, .string { data := #[b] }, .int .i64 n] w fun e w' => ∃ A c, e = .returned (.tuple #[.slice A ((rdM b n s).getD []).length c, .bool (rdM b n s).isSome]) ∧ Own LI 2 w' w.heap.size A c ((rdM b n s).getD []) ∧ Below w.heap.size w w' := by
  obtain ⟨FIN, hF⟩ : ∃ F, F = rdM b n s := ⟨_, rfl⟩
  rw [← hF]
  have hc := splitN_any s b (n + 1) w hs (by omega) (by omega)
  have HL := Lib.hid hw
  rw [show ((n + 1 : Nat) : Int) = (n : Int) + 1 by omega] at hc
  by_cases hl : (SN b (n + 1) s).length = n
  rotate_left
  · have HR : Hid (FIN = none) := Lib.hid (by
      rw [hF]
      unfold rdM
      rw [if_neg]
      intro e
      apply hl
      unfold SP at e
      unfold SN
      rw [List.length_map] at e ⊢
      rw [spN_full (by omega)]
      exact e)
    obtain ⟨m, hm⟩ : ∃ m, m = (SN b (n + 1) s).length := ⟨_, rfl⟩
    have z1 : ((m : Int) != (n : Int)) = true := by rw [bne_iff_ne]; omega
    have z2 : (m != n) = true := by rw [bne_iff_ne]; omega
    rw [← hm] at hc
    clear hF hl hw
    go_enter Tryz.func23, Tryz.ntmps23
    go_wp2_with fail
    refine hc.mono ?_
    rintro e w1 ⟨A, c, rfl, _, hb1⟩
    have HB1 := Lib.hid hb1
    clear hb1 hm
    go_wp2_with fail
    go_ret2
    exact ⟨none, 0, by rw [HR.out]; rfl, by rw [HR.out]; exact Own.none_, HB1.out⟩
  have hfull : SN b (n + 1) s = SP b s := by
    unfold SN SP
    by_cases h : (spl b s.data.toList).length ≤ n + 1
    · rw [spN_full h]
    · exfalso
      unfold SN at hl
      rw [List.length_map, spN_many (by omega) (by omega)] at hl
      omega
  have hszs : ∀ p ∈ SP b s, p.size ≤ 1048576 := fun p hp => by have := sp_size hp; omega
  rw [hfull] at hl hc
  have HV : Hid (FIN = mapO (fun q : ByteArray => rdN q.data.toList) (SP b s)) := Lib.hid (by rw [hF]; unfold rdM; rw [if_pos hl])
  have HSZ := Lib.hid hszs
  obtain ⟨L, hL⟩ : ∃ L, L = SP b s := ⟨_, rfl⟩
  rw [← hL] at hl hc HV HSZ
  obtain rfl := hl
  clear hF hw hfull hszs hL
  go_enter Tryz.func23, Tryz.ntmps23
  go_wp2_with fail
  refine hc.mono ?_
  rintro e w1 ⟨A, c, rfl, ho1, hb1⟩
  have HB1 := Lib.hid hb1
  have HO1 := Lib.hid ho1.rd
  have hs1 := hb1.size
  clear hc hb1 ho1
  go_wp2_with fail
  go_loopw [9, 26] (fun o i wr => ∃ (k : Nat) (A1 : Option Addr) (c1 : Nat) (ys : List Int), k ≤ L.length ∧ i = .int .i64 k ∧ o = .slice A1 ys.length c1 ∧ ys.length ≤ k ∧ Hid (mapO (fun q : ByteArray => rdN q.data.toList) (L.take k) = some ys) ∧ Hid (Own LI 2 wr w1.heap.size A1 c1 ys) ∧ Hid (Below w1.heap.size w1 wr)) (fun _ i _ => L.length - (intOf i).toNat)
  case atStart => exact ⟨0, _, _, [], by omega, rfl, rfl, by simp, Lib.hid rfl, Lib.hid (Own.lit0 w1 (Nat.le_refl _) rfl), Lib.hid ((Below.refl _ _).alloc (Nat.le_refl _) _)⟩
  case round =>
    obtain ⟨k, A1, c1, ys, hk, rfl, rfl, hyk, HM, HO, HB⟩ := hrel
    have hsz := HB.out.size
    by_cases hlt : k < L.length
    · obtain ⟨ad, rfl, hab, hcell⟩ := (HO1.out.below HB.out).str hlt
      have hki : (k : Int) < L.length := by omega
      have hd := readDecimal_any L[k] wr (HSZ.out _ (List.getElem_mem hlt)) (lib_below HL.out (bthen HB1.out (Nat.le_refl _) HB.out) (Nat.le_refl _))
      cases hr : rdN L[k].data.toList with
      | none =>
        have HR : Hid (FIN = none) := Lib.hid (by rw [HV.out]; exact mapO_none (List.getElem_mem hlt) hr)
        rw [hr] at hd
        change Calls _ _ _ _ (fun e w' => e = .returned (.tuple #[.int .i64 0, .bool false]) ∧ _) at hd
        clear hr
        generalize L[k] = q at *
        go_wp2_with fail
        refine hd.mono ?_
        rintro e w2 ⟨rfl, hb2⟩
        have HB2 := Lib.hid (bthen HB1.out (Nat.le_refl _) (bthen HB.out (Nat.le_refl _) hb2))
        clear hb2 hd
        go_wp2_with fail
        go_ret2
        exact ⟨none, 0, by rw [HR.out]; rfl, by rw [HR.out]; exact Own.none_, HB2.out⟩
      | some y =>
        have HM2 : Hid (mapO (fun q : ByteArray => rdN q.data.toList) (L.take (k + 1)) = some (ys ++ [y])) := Lib.hid (by rw [List.take_succ_eq_append_getElem hlt]; exact mapO_snoc _ _ _ _ _ HM.out hr)
        rw [hr] at hd
        change Calls _ _ _ _ (fun e w' => e = .returned (.tuple #[.int .i64 y, .bool true]) ∧ _) at hd
        clear hr
        generalize L[k] = q at *
        go_wp2_with fail
        refine hd.mono ?_
        rintro e w2 ⟨rfl, hb2⟩
        have HB2 := Lib.hid (bthen HB.out (Nat.le_refl _) hb2)
        have HO2 := Lib.hid (HO.out.below hb2)
        have hs2 := HB2.out.size
        clear hb2 hd
        go_wp2_with (at_builtin; go_loud (refine wpL_app1 (L := LI) rowI rfl rfl _ _ rfl rfl HO2.out y _ rfl rfl (by simp) (by unfold maxLen; omega) (by omega) (by omega) ?_); intro A4 c4 w4 ho4 hg4)
        go_roundw
        case rel => exact ⟨k + 1, A4, c4, ys ++ [y], by omega, by go_num, by simp, by simp; omega, HM2, Lib.hid ho4, Lib.hid (Grew.below HB2.out hg4 hs2 fun g' hg' => (HO2.out.blk_lt g' hg').1)⟩
        case measure => simp [intOf]; omega
    · obtain rfl : k = L.length := by omega
      have HR : Hid (FIN = some ys) := Lib.hid (by rw [HV.out, ← HM.out, List.take_of_length_le (Nat.le_refl _)])
      go_wp2_with fail
      go_ret2
      exact ⟨A1, c1, by rw [HR.out]; rfl, by rw [HR.out]; exact HO.out.lower hs1, bthen HB1.out (Nat.le_refl _) HB.out⟩
theorem Own.strs {T : TypeId} {w : World} {base c : Nat} {A : Option Addr} {xs : List ByteArray} (h : Own LS T w base A c xs) {k : Nat} (hk : k < xs.length) : ∃ g, A = some ⟨g, 0, none⟩ ∧ base ≤ g ∧ g < w.heap.size ∧ w.cell? ⟨g, k, none⟩ = some (.string xs[k]) := by
  obtain ⟨g, rfl, h1, h2⟩ := h.ptr (by omega)
  obtain ⟨_, e, _, hc⟩ := h.rd.str hk
  cases e
  rw [add_lit] at hc
  exact ⟨g, rfl, h1, h2, hc⟩
theorem mapO_map {α β γ : Type} (f : β → Option γ) (g : α → β) : ∀ l : List α, mapO f (l.map g) = mapO (fun x => f (g x)) l
  | [] => rfl
  | x :: r => by
    rw [List.map_cons, mapO, mapO, mapO_map f g r]
theorem mapO_congr {α β : Type} {f g : α → Option β} : ∀ {l : List α}, (∀ x ∈ l, f x = g x) → mapO f l = mapO g l
  | [], _ => rfl
  | x :: r, h => by
    rw [mapO, mapO, h x List.mem_cons_self, mapO_congr fun y hy => h y (List.mem_cons_of_mem _ hy)]
theorem mapO_bs {γ : Type} (f : List UInt8 → Option γ) (l : List (List UInt8)) : mapO (fun q : ByteArray => f q.data.toList) (l.map bs) = mapO f l := by
  rw [mapO_map]
  exact mapO_congr fun x _ => by rw [bs_data]
theorem rdM_eq (b : UInt8) (n : Nat) (p : ByteArray) : rdM b n p = rdNs b n p.data.toList := by
  unfold rdM rdNs SP
  rw [List.length_map, mapO_bs]
end Go.Proofs.YtjgpppcjhneibaaGreatDoor
