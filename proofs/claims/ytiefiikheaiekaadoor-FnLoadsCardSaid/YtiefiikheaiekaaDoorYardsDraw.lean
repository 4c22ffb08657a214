/-
  The draw of a yard (spec.l20Draw, spec.A2Yard): it is valid; the numbers out of bytes (laws.a2Long, laws.a2At).
-/
import Derived.Test.YtiefiikheaiekaaDoorMovesSome
import Derived.Test.YtiefiikheaiekaaDoorSrc3
import Derived.Test.YtiefiikheaiekaaDoorClone
namespace Go.Proofs.YtiefiikheaiekaaDoor
open Go.ChangeShapes Go.WideShapes Go.RowKit

theorem Fs.ownRY {g : Nat} {w w' : World} (h : Fs g w w') {T1 T2 : TypeId} {base c : Nat} {A : Option Addr} {rs : List (Row Int)} (hr : OwnR LI T1 T2 w base A c rs) (hg : g < base) : OwnR LI T1 T2 w' base A c rs :=
  hr.keepBlk (fun b e => h.block b (hr.blk_lt.1 b e).2 (by have := (hr.blk_lt.1 b e).1; omega)) (fun r hm b e => h.block b (hr.blk_lt.2 r hm b e).2 (by have := (hr.blk_lt.2 r hm b e).1; omega))
theorem Grew.belowY {w w' : World} {A A' : Option Addr} {B : Nat} (h : Grew w w' A A') (hB : B ≤ w.heap.size) (hA : ∀ b, blk A = some b → B ≤ b) : Below B w w' := Grew.below (Below.refl B w) h hB hA
theorem Own.cellsY {α : Type} {L : Lay α} {T : TypeId} {w : World} {base c : Nat} {A : Option Addr} {xs : List α} (h : Own L T w base A c xs) : ∀ ad, A = some ad → ∀ j u, (xs.flatMap L.f)[j]? = some u → w.cell? (ad.add j) = some u := by
  intro ad e
  rcases h.parts with ⟨h1, _⟩ | ⟨g, _, h1, _⟩
  · rw [h1] at e; cases e
  · rw [h1] at e; cases e
    rw [h1] at h
    exact World.ownsRow.cells h (g := g) rfl
theorem Own.nil0Y {α : Type} {L : Lay α} {T : TypeId} {w : World} {base c : Nat} {A : Option Addr} {xs : List α} (h : Own L T w base A c xs) : A = none → c = 0 := by
  rcases h.parts with ⟨_, _, h⟩ | ⟨_, _, rfl, _⟩
  · exact fun _ => h
  · intro e; cases e
/-- a yard under way: packs up to p, k are to come -/
structure Yd (X : List (List Int)) (p k : Nat) : Prop where
  ln : X.flatten.length + k ≤ 6
  bd : ∀ x ∈ X.flatten, 1 ≤ x ∧ x ≤ p
  nd : X.flatten.Nodup
  top : p + 3 * k ≤ 18
theorem Yd.new (n : Nat) {k : Nat} (hk : k ≤ 6) : Yd (List.replicate n []) 0 k := by
  have e : (List.replicate n ([] : List Int)).flatten = [] := by
    rw [List.flatten_eq_nil_iff]
    intro l hl
    exact (List.mem_replicate.1 hl).2
  exact ⟨by rw [e]; simpa using hk, by rw [e]; intro x hx; simp at hx, by rw [e]; exact List.nodup_nil, by omega⟩
theorem Yd.put {X : List (List Int)} {p k i : Nat} (h : Yd X p (k + 1)) (hi : i < X.length) {q : Nat} (h1 : p < q) (h3 : q ≤ p + 3) {a : List Int} (ha : a.Perm (X[i] ++ [(q : Int)])) : Yd (X.set i a) q k := by
  have hp : (X.set i a).flatten.Perm (X.flatten ++ [(q : Int)]) := by
    have h2 := perm_set hi a
    have h4 : ((X.set i a).flatten ++ X[i]).Perm ((X.flatten ++ [(q : Int)]) ++ X[i]) := by
      refine h2.trans ?_
      rw [List.append_assoc]
      exact List.Perm.append_left _ (ha.trans List.perm_append_comm)
    exact (List.perm_append_right_iff _).1 h4
  refine ⟨?_, fun x hx => ?_, ?_, by have := h.top; omega⟩
  · have := hp.length_eq
    rw [List.length_append] at this
    have h5 := h.ln
    have e5 : [(q : Int)].length = 1 := rfl
    omega
  · rcases List.mem_append.1 (hp.mem_iff.1 hx) with h6 | h6
    · have := h.bd x h6
      omega
    · simp at h6
      omega
  · rw [hp.nodup_iff, List.nodup_append]
    refine ⟨h.nd, by simp, fun x hx y hy => ?_⟩
    simp at hy
    subst hy
    have := h.bd x hx
    omega
theorem Yd.valid {X : List (List Int)} {p k : Nat} (h : Yd X p k) (h1 : 1 ≤ X.length) (h2 : X.length ≤ 4) : vyB X = true :=
  dB_yes ⟨⟨h1, h2⟩, by have := h.ln; omega, fun x hx => by have := h.bd x hx; have := h.top; omega, h.nd⟩

def DrewYd (g : Nat) (w : World) (e : Ending) (w' : World) : Prop :=
  ∃ (A1 : Option Addr) (c1 : Nat) (rs : List (Row Int)), e = .returned (.slice A1 rs.length c1) ∧ OwnR LI 23 2 w' w.heap.size A1 c1 rs ∧ vyB (dat rs) = true ∧ Fs g w w'

set_option maxRecDepth 100000 in
set_option maxHeartbeats 6400000 in
theorem l20Draw_any (g : Nat) (A : Option Addr) (c : Nat) (cs : List Int) (m : Nat) (w : World) (h : Sr w g A c cs m) (hm : m ≤ 1000000) :
    Calls Tryd.prog 32 #[.pointer (some ⟨g, 0, none⟩)] w (DrewYd g w) := by
  have hg := h.g1
  have hb0 : Below w.heap.size w (w.alloc (.cells #[] 23)) := (Below.refl _ _).alloc (Nat.le_refl _) _
  have hc := pick_any 4 g A c cs m _ (h.belowB hb0 hg) (by omega) (by omega)
  have HB0 := Lib.hid hb0
  clear h hb0
  go_enter Tryd.func32, Tryd.ntmps32
  go_wp2_with fail
  refine hc.mono ?_
  rintro e w2 ⟨v, rfl, v0, v1, hS, hF⟩
  obtain ⟨N, hN⟩ : ∃ N : Nat, (N : Int) = 1 + v := ⟨(1 + v).toNat, by omega⟩
  have e1 : IntKind.i64.wrap (1 + v) = N := by rw [hN]; exact wrapS (by omega) (by omega)
  have hN1 : 1 ≤ N := by omega
  have hN4 : N ≤ 4 := by omega
  have hs2 := hF.size
  have HO : Hid (OwnR LI 23 2 w2 w.heap.size (some ⟨w.heap.size, 0, none⟩) 0 ([] : List (Row Int))) := Lib.hid (hF.ownRY ⟨Own.lit0 w (Nat.le_refl _) rfl, (fun r hr => by cases hr), List.Pairwise.nil⟩ hg)
  have HS := Lib.hid hS
  have HF := Lib.hid ((Fs.of_below (g := g) HB0.out).trans hF)
  have HZ := Lib.hid (show w.heap.size ≤ w2.heap.size by simp at hs2; omega)
  clear hc hS hF hN v0 v1 hs2 HB0
  go_wp2_with fail
  go_loopw [3, 4] (fun o i wr => ∃ (A1 : Option Addr) (c1 : Nat) (rs : List (Row Int)) (L1 : List (Option Addr × Nat × Nat)), L1.length ≤ N ∧ i = .int .i64 ((N : Int) - L1.length) ∧ o = .slice A1 L1.length c1 ∧ Hid (L1 = rs.map hd) ∧ Hid (dat rs = List.replicate rs.length []) ∧ Hid (OwnR LI 23 2 wr w.heap.size A1 c1 rs) ∧ Hid (Sr wr g A c cs (m + 2)) ∧ Hid (Fs g w wr) ∧ Hid (w.heap.size ≤ wr.heap.size)) (fun _ i _ => (intOf i).toNat)
  case atStart => exact ⟨_, _, [], [], by simp, by first | go_num | (simp [e1]; done) | (rw [e1]; simp; done), rfl, Lib.hid rfl, Lib.hid rfl, HO, HS, HF, HZ⟩
  case round =>
    clear HO HS HF HZ
    obtain ⟨A1, c1, rs, L1, hj, rfl, rfl, HL, HD, HO, HS, HF, HZ⟩ := hrel
    have hz := HZ.out
    by_cases hlt : L1.length < N
    · have hki : (0 : Int) < (N : Int) - L1.length := by omega
      have hb1 : Below wr.heap.size wr (wr.alloc (.cells #[] 2)) := (Below.refl _ _).alloc (Nat.le_refl _) _
      have HO1 := Lib.hid (HO.out.below hb1)
      have HR1 : Hid (Own LI 2 (wr.alloc (.cells #[] 2)) wr.heap.size (some ⟨wr.heap.size, 0, none⟩) 0 ([] : List Int)) := Lib.hid (Own.lit0 wr (Nat.le_refl _) rfl)
      have HB1 := Lib.hid (hb1.mono hz)
      have HlO := Lib.hid HO.out.blk_lt
      have hout : Own LV 23 (wr.alloc (.cells #[] 2)) w.heap.size A1 c1 L1 := by rw [HL.out]; exact HO1.out.out
      clear hb1
      go_wp2_with (at_builtin; go_loud (refine wpL_app1 (L := LV) rowV rfl rfl _ _ rfl rfl hout (some ⟨wr.heap.size, 0, none⟩, 0, 0) _ rfl rfl (by simp) (by unfold maxLen; omega) (by omega) (by simp; omega) ?_); intro A6 c6 w6 ho6 hg6)
      have hsn := OwnR.snoc (r := (some ⟨wr.heap.size, 0, none⟩, 0, ([] : List Int))) HO1.out (by decide) (HR1.out.lower hz) (fun s hs b h1 h2 => by have := HlO.out.2 s hs b h1; have := HR1.out.blk_lt b h2; omega) (by rw [HL.out] at ho6; exact ho6) hg6
      have hbz : Below w.heap.size wr w6 := HB1.out.trans (Grew.belowY hg6 (by simp; omega) (fun b e => (HlO.out.1 b e).1))
      have HS6 := Lib.hid (HS.out.belowB hbz hg)
      have HF6 := Lib.hid (HF.out.then_ hbz (Nat.le_refl _))
      have HO6 := Lib.hid hsn
      have HZ6 := Lib.hid (show w.heap.size ≤ w6.heap.size by have := hbz.size; omega)
      have HD6 : Hid (dat (rs ++ [((some ⟨wr.heap.size, 0, none⟩, 0, ([] : List Int)) : Row Int)]) = List.replicate (rs ++ [((some ⟨wr.heap.size, 0, none⟩, 0, ([] : List Int)) : Row Int)]).length []) := Lib.hid (by
        rw [dat_append, HD.out, List.length_append, List.length_singleton, List.replicate_succ']
        rfl)
      have HL6 : Hid (L1 ++ [(some ⟨wr.heap.size, 0, none⟩, 0, 0)] = (rs ++ [((some ⟨wr.heap.size, 0, none⟩, 0, ([] : List Int)) : Row Int)]).map hd) := Lib.hid (by rw [HL.out, List.map_append]; simp [hd])
      clear hsn hbz ho6 hg6 hout
      go_roundw
      case rel => exact ⟨A6, c6, _, L1 ++ [(some ⟨wr.heap.size, 0, none⟩, 0, 0)], by simp; omega, by go_num, by simp, HL6, HD6, HO6, HS6, HF6, HZ6⟩
      case measure => simp [intOf]; omega
    · have hki : (N : Int) - L1.length ≤ 0 := by omega
      have HN : Hid (rs.length = N) := Lib.hid (by have := congrArg List.length HL.out; rw [List.length_map] at this; omega)
      have HLN : Hid (L1.length = N) := Lib.hid (by omega)
      obtain ⟨wq, rfl⟩ : ∃ q, q = wr := ⟨_, rfl⟩
      have hp := pick_any 7 g A c cs _ wq HS.out (by omega) (by omega)
      clear HS
      go_wp2_with fail
      refine hp.mono ?_
      rintro e w4 ⟨v, rfl, v0, v1, hS, hF⟩
      obtain ⟨K, rfl⟩ : ∃ K : Nat, v = (K : Int) := ⟨v.toNat, by omega⟩
      have hK6 : K ≤ 6 := by omega
      have hs4 := hF.size
      obtain ⟨gA, rfl⟩ : ∃ gA, A1 = some ⟨gA, 0, none⟩ := by
        obtain ⟨gA, e, _⟩ := HO.out.at_ (i := 0) (by have := HN.out; omega)
        exact ⟨gA, e⟩
      have HO4 := Lib.hid (hF.ownRY HO.out hg)
      have HF4 := Lib.hid (HF.out.trans hF)
      have HS4 := Lib.hid (hS.more (show m + 2 + 2 ≤ m + 40 - 6 * K by omega))
      have HY4 : Hid (Yd (dat rs) 0 K) := Lib.hid (by rw [HD.out]; exact Yd.new _ hK6)
      have HZ4 := Lib.hid (show w.heap.size ≤ w4.heap.size by omega)
      clear hp hS hF HO HF HD HZ hz hs4 v0 v1
      go_wp2_with fail
      go_loopw [5, 6] (fun p i wr => ∃ (rs2 : List (Row Int)) (P k : Nat), k ≤ 6 ∧ p = .int .i64 P ∧ i = .int .i64 k ∧ Hid (rs2.length = N) ∧ Hid (Yd (dat rs2) P k) ∧ Hid (OwnR LI 23 2 wr w.heap.size (some ⟨gA, 0, none⟩) c1 rs2) ∧ Hid (Sr wr g A c cs (m + 40 - 6 * k)) ∧ Hid (Fs g w wr) ∧ Hid (w.heap.size ≤ wr.heap.size)) (fun _ i _ => (intOf i).toNat)
      case atStart => exact ⟨rs, 0, K, hK6, rfl, rfl, HN, HY4, HO4, HS4, HF4, HZ4⟩
      case round =>
        clear HY4 HO4 HS4 HF4 HZ4
        obtain ⟨rs2, P, k, hk, rfl, rfl, HN2, HY, HO, HS, HF, HZ⟩ := hrel
        cases k with
        | zero =>
          have HE : Hid (L1.length = rs2.length) := Lib.hid (by rw [HN2.out, HLN.out])
          go_wp2_with fail
          go_ret
          exact ⟨_, _, rs2, by rw [← HE.out]; rfl, HO.out, HY.out.valid (by rw [dat_len, HN2.out]; exact hN1) (by rw [dat_len, HN2.out]; exact hN4), HF.out⟩
        | succ k =>
          have hki : (0 : Int) < ((k + 1 : Nat) : Int) := by omega
          have hz := HZ.out
          have hP : P ≤ 18 := by have := HY.out.top; omega
          have hp3 := pick_any 3 g A c cs _ wr HS.out (by omega) (by omega)
          clear HS
          go_wp2_with fail
          refine hp3.mono ?_
          rintro e w5 ⟨u, rfl, u0, u1, hS5, hF5⟩
          obtain ⟨q, hq⟩ : ∃ q : Nat, (q : Int) = P + (1 + u) := ⟨(P + (1 + u)).toNat, by omega⟩
          have e1 : IntKind.i64.wrap (1 + u) = 1 + u := wrapS (by omega) (by omega)
          have e2 : IntKind.i64.wrap (P + (1 + u)) = q := by rw [hq]; exact wrapS (by omega) (by omega)
          have hq1 : P < q := by omega
          have hq3 : q ≤ P + 3 := by omega
          have hs5 := hF5.size
          have HO5 := Lib.hid (hF5.ownRY HO.out hg)
          have HF5 := Lib.hid (HF.out.trans hF5)
          have hpn := pick_any (L1.length : Int) g A c cs _ w5 hS5 (by omega) (by have := HLN.out; omega)
          clear hp3 hS5 hF5 HO HF hq u0 u1 HZ
          go_wp2_with fail
          refine hpn.mono ?_
          rintro e w6 ⟨i0, rfl, i1, i2, hS6, hF6⟩
          obtain ⟨i, rfl⟩ : ∃ i : Nat, i0 = (i : Int) := ⟨i0.toNat, by omega⟩
          have hiN : i < N := by have := HLN.out; omega
          have hii : (i : Int) < L1.length := by have := HLN.out; omega
          have hii2 : i < L1.length := by omega
          have hs6 := hF6.size
          have HO6 := Lib.hid (hF6.ownRY HO5.out hg)
          have HF6 := Lib.hid (HF5.out.trans hF6)
          have hon := one_any 2 g A c cs _ w6 hS6 (by omega) (by omega)
          clear hpn hS6 hF6 HO5 HF5 i1 i2
          go_wp2_with fail
          refine hon.mono ?_
          rintro e w7 ⟨b, rfl, hS7, hF7⟩
          have hs7 := hF7.size
          have HO7 := Lib.hid (hF7.ownRY HO6.out hg)
          have HF7 := Lib.hid (HF6.out.trans hF7)
          have HS7 := Lib.hid (hS7.more (show m + 40 - 6 * (k + 1) + 2 + 2 + 2 ≤ m + 40 - 6 * k by omega))
          have hz7 : w.heap.size ≤ w7.heap.size := by omega
          have hi2 : i < rs2.length := by rw [HN2.out]; exact hiN
          obtain ⟨g', hg', hgA0, hgA, hcell, hfz, hrow⟩ := HO7.out.at_ hi2
          cases hg'
          have HY1 : Hid (∀ a : List Int, a.Perm (rs2[i].2.2 ++ [(q : Int)]) → Yd ((dat rs2).set i a) q k) := Lib.hid (fun a ha => HY.out.put (i := i) (by rw [dat_len]; exact hi2) hq1 hq3 (by rw [dat_get rs2 i hi2]; exact ha))
          have hyl : rs2[i].2.2.length ≤ 6 := by
            have h1 := HY.out.ln
            have h2 := dat_get rs2 i hi2
            have h3 : rs2[i].2.2 ∈ dat rs2 := by rw [← h2]; exact List.getElem_mem _
            obtain ⟨s, t, e⟩ := List.append_of_mem h3
            rw [e, List.flatten_append, List.flatten_cons, List.length_append, List.length_append] at h1
            omega
          have hgAT : blk rs2[i].1 ≠ some gA := fun e => own_types HO7.out.out hrow (by decide) gA rfl e
          have hnb := hrow.blk_lt
          obtain ⟨ys, hys⟩ : ∃ ys, ys = rs2[i].2.2 := ⟨_, rfl⟩
          obtain ⟨Ay, hAy⟩ : ∃ Ay, Ay = rs2[i].1 := ⟨_, rfl⟩
          obtain ⟨cy, hcy⟩ : ∃ cy, cy = rs2[i].2.1 := ⟨_, rfl⟩
          rw [← hys] at HY1 hyl
          rw [← hys, ← hAy, ← hcy] at hcell hrow
          rw [← hAy] at hgAT hnb
          have HAY := Lib.hid hAy
          have HROW := Lib.hid hrow
          have HNB := Lib.hid hnb
          have HGAT := Lib.hid hgAT
          clear hon hS7 hF7 HO6 HF6 HY hys hAy hcy hrow hnb hgAT hs5 hs6 hs7
          cases b
          · have hl8 := Own.lit (base := w7.heap.size) (L := LI) (T := 2) w7 (Nat.le_refl _) rfl [(q : Int)] #[.int .i64 (q : Int)] 1 rfl (by unfold maxLen; omega) rfl
            have hao : Ay = none → ys.length = 0 ∧ cy = 0 := fun e => ⟨by
              have h2 := Own.rd HROW.out
              rw [e] at h2
              rw [Rd.none_len h2]
              rfl, Own.nil0Y HROW.out e⟩
            have hnw := Own.cellsY (Own.alloc HROW.out (.cells #[.int .i64 (q : Int)] 2))
            go_wp2_with (at_builtin; go_loud (refine wpL_app (L := LI) rowI rfl rfl _ _ rfl rfl hl8 Ay ys.length cy ys rfl rfl hao hnw (by unfold maxLen; simp; omega) (by simp; omega) (by simp) ?_); intro A6 c6 w8 ho8 hg8; have hb8 : Below w7.heap.size w7 w8 := (((Below.refl w7.heap.size w7).alloc (Nat.le_refl _) _).trans (Grew.belowY hg8 (by simp) (fun b e => by injection e with e; dsimp only at e; omega))); have hfz8 := (hb8.frozen (p := ⟨gA, i, none⟩) hgA).trans hfz; have hc8 := (hb8.cell (p := ⟨gA, i, none⟩) hgA).trans hcell)
            have HO9 := Lib.hid (HO7.out.below hb8)
            have hlt8 := ho8.blk_lt
            have h := HO9.out.setRow (by decide) i (A6, c6, [(q : Int)] ++ ys) (ho8.lower hz7) (fun j hj hne b e1 e2 => by
              have := (HO7.out.blk_lt.2 _ (List.getElem_mem hj) b e1).2
              have := (hlt8 b e2).1
              omega)
            have e6 : ([(q : Int)] ++ ys).length = ys.length + 1 := by simp
            simp only [e6] at h
            have HB8 := Lib.hid ((hb8.mono hz7).setCell (p := ⟨gA, i, none⟩) (by exact hgA0) (.slice A6 (ys.length + 1) c6))
            have HO8 := Lib.hid h
            have HS8 := Lib.hid (HS7.out.belowB HB8.out hg)
            have HF8 := Lib.hid (HF7.out.then_ HB8.out (Nat.le_refl _))
            have HZ8 := Lib.hid (show w.heap.size ≤ (w8.setCell ⟨gA, i, none⟩ (.slice A6 (ys.length + 1) c6)).heap.size by have := HB8.out.size; omega)
            have HY8 : Hid (Yd (dat (rs2.set i (A6, c6, [(q : Int)] ++ ys))) q k) := Lib.hid (by rw [dat_set]; exact HY1.out _ List.perm_append_comm)
            have HN8 : Hid ((rs2.set i (A6, c6, [(q : Int)] ++ ys)).length = N) := Lib.hid (by rw [List.length_set]; exact HN2.out)
            clear h e6 hb8 ho8 hg8 hl8 hao hnw hlt8
            go_wp2_with fail
            go_roundw
            case rel => exact ⟨_, q, k, by omega, rfl, by go_num, HN8, HY8, HO8, HS8, HF8, HZ8⟩
            case measure => simp [intOf]
          · go_wp2_with (at_builtin; go_loud (refine wpL_app1 (L := LI) rowI rfl rfl _ _ rfl rfl HROW.out (q : Int) _ rfl rfl (by simp) (by unfold maxLen; omega) (by omega) (by omega) ?_); intro A6 c6 w8 ho8 hg8; have hfz8 := (hg8.frozen ⟨gA, i, none⟩ hgA HGAT.out).trans hfz; have hc8 := (hg8.cell ⟨gA, i, none⟩ hgA HGAT.out).trans hcell)
            have h := HO7.out.appRow (by decide) hi2 (A6, c6, ys ++ [(q : Int)]) ho8 (by rw [← HAY.out]; exact hg8)
            have e6 : (ys ++ [(q : Int)]).length = ys.length + 1 := by simp
            simp only [e6] at h
            have hb8 : Below w.heap.size w7 w8 := Grew.belowY hg8 hz7 (fun b e => (HNB.out b e).1)
            have HB8 := Lib.hid (hb8.setCell (p := ⟨gA, i, none⟩) (by exact hgA0) (.slice A6 (ys.length + 1) c6))
            have HO8 := Lib.hid h
            have HS8 := Lib.hid (HS7.out.belowB HB8.out hg)
            have HF8 := Lib.hid (HF7.out.then_ HB8.out (Nat.le_refl _))
            have HZ8 := Lib.hid (show w.heap.size ≤ (w8.setCell ⟨gA, i, none⟩ (.slice A6 (ys.length + 1) c6)).heap.size by have := HB8.out.size; omega)
            have HY8 : Hid (Yd (dat (rs2.set i (A6, c6, ys ++ [(q : Int)]))) q k) := Lib.hid (by rw [dat_set]; exact HY1.out _ (List.Perm.refl _))
            have HN8 : Hid ((rs2.set i (A6, c6, ys ++ [(q : Int)])).length = N) := Lib.hid (by rw [List.length_set]; exact HN2.out)
            clear h e6 hb8 ho8 hg8
            go_wp2_with fail
            go_roundw
            case rel => exact ⟨_, q, k, by omega, rfl, by go_num, HN8, HY8, HO8, HS8, HF8, HZ8⟩
            case measure => simp [intOf]
set_option maxRecDepth 100000 in
set_option maxHeartbeats 1600000 in
theorem specA2Yard_any (A : Option Addr) (c : Nat) (cs : List Int) (w : World) (hr : Rd LU w w.heap.size A c cs) (hb : ∀ x ∈ cs, 0 ≤ x ∧ x ≤ 255) :
    Calls Tryd.prog 21 #[.slice A cs.length c] w fun e w' => ∃ (A1 : Option Addr) (c1 : Nat) (rs : List (Row Int)), e = .returned (.slice A1 rs.length c1) ∧ OwnR LI 23 2 w' w.heap.size A1 c1 rs ∧ vyB (dat rs) = true ∧ Below w.heap.size w w' := by
  have hc := from_at w.heap.size A c cs w rfl hr (Nat.le_refl _) hb
  obtain ⟨g, hg⟩ : ∃ g, g = w.heap.size := ⟨_, rfl⟩
  rw [← hg] at hc
  have HG := Lib.hid hg
  clear hg hb
  go_enter Tryd.func21, Tryd.ntmps21
  go_wp2_with fail
  refine hc.mono ?_
  rintro e w1 ⟨rfl, hS, hb1⟩
  have hd := l20Draw_any g A c cs 0 w1 hS (by omega)
  have hs1 := hb1.size
  have HB1 := Lib.hid hb1
  have hg1 := hS.g1
  clear hc hS hb1
  go_wp2_with fail
  refine hd.mono ?_
  rintro e w2 ⟨A1, c1, rs, rfl, ho, hv, hF⟩
  have HO := Lib.hid (ho.lower (show g ≤ w1.heap.size by omega))
  have HV := Lib.hid hv
  have HB := Lib.hid (HB1.out.trans (hF.below (B := g) (by omega) (Nat.le_refl _)))
  clear hd ho hv hF
  go_wp2_with fail
  go_ret
  exact ⟨A1, c1, rs, rfl, by rw [← HG.out]; exact HO.out, HV.out, by rw [← HG.out]; exact HB.out⟩
theorem a2Long_any (A : Option Addr) (c n : Nat) (A2 : Option Addr) (c2 n2 : Nat) (w : World) (hn : n ≤ 9223372036854775807) (hn2 : n2 ≤ 9223372036854775807) :
    Calls Tryd.prog 20 #[.slice A n c, .slice A2 n2 c2] w fun e w' => e = .returned (.bool (decide (3000 < n) || decide (3000 < n2))) ∧ w' = w := by
  by_cases h1 : 3000 < n
  · have h2 : (3000 : Int) < n := by omega
    have HE : Hid ((decide (3000 < n) || decide (3000 < n2)) = true) := Lib.hid (by rw [decide_eq_true h1]; rfl)
    go_enter Tryd.func20, Tryd.ntmps20
    go_wp2_with fail
    go_ret
    exact ⟨by rw [HE.out]; rfl, rfl⟩
  · have h2 : (n : Int) ≤ 3000 := by omega
    by_cases h3 : 3000 < n2
    · have h4 : (3000 : Int) < n2 := by omega
      have HE : Hid ((decide (3000 < n) || decide (3000 < n2)) = true) := Lib.hid (by rw [decide_eq_true h3]; simp)
      go_enter Tryd.func20, Tryd.ntmps20
      go_wp2_with fail
      go_ret
      exact ⟨by rw [HE.out]; rfl, rfl⟩
    · have h4 : (n2 : Int) ≤ 3000 := by omega
      have HE : Hid ((decide (3000 < n) || decide (3000 < n2)) = false) := Lib.hid (by rw [decide_eq_false h1, decide_eq_false h3]; rfl)
      go_enter Tryd.func20, Tryd.ntmps20
      go_wp2_with fail
      go_ret
      exact ⟨by rw [HE.out]; first | rfl | (simp; done) | (simp; omega), rfl⟩
end Go.Proofs.YtiefiikheaiekaaDoor
