/-
  Draws of loads with trips: DrawTripFault.
-/
import Derived.Test.YtcookepklcbfeaaTripsDraw
import Derived.Test.YtcookepklcbfeaaTripsLaw
import Derived.Test.YtcookepklcbfeaaSched
namespace Go.Proofs.Ytcookepklcbfeaa
open Go.ChangeShapes Go.WideShapes Go.RowKit

theorem bt_bd {xs : List Int} {most : Int} (h : (btP xs most).2 = 0) : (btP xs most).1.length ≤ 10 ∧ ∀ a ∈ (btP xs most).1, 0 ≤ a ∧ a < 10 := by
  unfold btP at h ⊢
  split at h
  · rename_i hv
    rw [if_pos hv]
    obtain ⟨⟨hm1, hm2⟩, hl, hx⟩ := vlB_parts hv
    obtain ⟨F, _, f1, f2, f3, _⟩ := best_walk hx (by omega)
    refine ⟨by dsimp only; omega, fun a ha => ?_⟩
    have := f3 a ha
    omega
  · cases h
theorem OwnR.app_ {w w' : World} {T1 T2 : TypeId} {base c g : Nat} {rs : List (Row Int)} (h : OwnR LI T1 T2 w base (some ⟨g, 0, none⟩) c rs) (hT : T1 ≠ T2) {i : Nat} (hi : i < rs.length) (r : Row Int) (hr : Own LI T2 w' base r.1 r.2.1 r.2.2) (hg : Grew w w' rs[i].1 r.1) :
    OwnR LI T1 T2 (w'.setCell ⟨g, i, none⟩ (.slice r.1 r.2.2.length r.2.1)) base (some ⟨g, 0, none⟩) c (rs.set i r) := by
  have hout := Grew.own hg h.out (fun g' e1 e2 => own_types h.out (h.inn _ (List.getElem_mem hi)) hT g' e1 e2)
  have hne : ∀ {s : Row Int}, Own LI T2 w' base s.1 s.2.1 s.2.2 → blk s.1 ≠ some g := fun hs e => own_types hout.1 hs hT g rfl e
  have hoth : ∀ j (hj : j < rs.length), j ≠ i → Own LI T2 w' base rs[j].1 rs[j].2.1 rs[j].2.2 ∧ Ap rs[j].1 r.1 := fun j hj e => by
    have := Grew.own hg (h.inn _ (List.getElem_mem hj)) (fun g' e1 e2 => h.apart hj hi e g' e1 e2)
    exact ⟨this.1, this.2⟩
  refine ⟨?_, ?_, pair_set h.ap i r fun j hj e => (hoth j hj e).2⟩
  · rw [List.map_set]
    exact hout.1.setVal i (hd r)
  · intro s hs
    obtain ⟨j, hj, rfl⟩ := List.mem_iff_getElem.1 hs
    simp only [List.length_set] at hj
    rw [List.getElem_set]
    by_cases e : i = j
    · subst e
      rw [if_pos rfl]
      exact hr.setFar (hne hr) _
    · rw [if_neg e]
      have h1 := (hoth j hj (fun h => e h.symm)).1
      exact h1.setFar (hne h1) _
theorem OwnR.al_ {T1 T2 : TypeId} {w : World} {base c : Nat} {A : Option Addr} {rs : List (Row Int)} (h : OwnR LI T1 T2 w base A c rs) (o : Obj) : OwnR LI T1 T2 (w.alloc o) base A c rs := h.below ((Below.refl _ _).alloc (Nat.le_refl _) _)
theorem OwnR.dr_ {T1 T2 : TypeId} {w : World} {base c : Nat} {A : Option Addr} {rs : List (Row Int)} (h : OwnR LI T1 T2 w base A c rs) : OwnR LI T1 T2 w.drew base A c rs := ⟨h.out, h.inn, h.ap⟩
theorem OwnR.tail_ {T1 T2 : TypeId} {w : World} {base c G : Nat} {rs : List (Row Int)} (h : OwnR LI T1 T2 w base (some ⟨G, 0, none⟩) c rs) {X : Addr} (hX : X = if c = 1 then (⟨G, 0, none⟩ : Addr) else (⟨G, 0, none⟩ : Addr).add 1) : RdR LI w w.heap.size (some X) (c - 1) (rs.drop 1) := by
  have hr := h.rd
  have hle := h.out.le
  have hcap := h.out.cap
  refine ⟨⟨by simp at hle ⊢; omega, by omega, fun i hi => ?_⟩, fun r hm => hr.inn r (List.mem_of_mem_drop hm)⟩
  have hi2 : 1 + i < (rs.map hd).length := by simp at hi ⊢; omega
  obtain ⟨ad, e, hb, hc⟩ := hr.out.at_ (1 + i) hi2
  cases e
  have hc1 : ¬ c = 1 := by simp at hi hle; omega
  rw [if_neg hc1] at hX
  subst hX
  refine ⟨_, rfl, by rw [block_of_add]; exact hb, fun j u hu => ?_⟩
  rw [add_of_add]
  have := hc j u (by simpa [Nat.add_comm] using hu)
  rw [show (1 + i) * LV.sz + j = 1 + (i * LV.sz + j) by simp [LV]; omega] at this
  exact this
section
variable {α : Type} {L : Lay α} {P : Program} {w : World}
/-- 'make([]T, n)' inside a region that draws its order -/
theorem stepL_make {ops : Array Oper} {o : Oper} {a : Act} {K : Act → World → Prop} {Q : Exit → Act → World → Prop} {E : Prop} {t e : TypeId} {z : Value} {bytes : Nat} (hrow : TyRow P t e z L.sz bytes) (hgd : o.guard = none) (l c : Operand) (hop : o.op = Op.makeSlice t l c)
    (kl kc : IntKind) (N C : Int) (n : Nat) (hl : a.eval l = .int kl N) (hc : a.eval c = .int kc C) (hN : N = (n : Int)) (hC : C = (n : Int)) (b2 : bytes * n ≤ 281474976710656) (h63 : n ≤ maxLen) (z0 : α) (hz0 : z.cells.toList = L.f z0)
    (h : ∀ w', Own L e w' w.heap.size (some ⟨w.heap.size, 0, none⟩) n (List.replicate n z0) → Below w.heap.size w w' → K (a.put o.dst (.slice (some ⟨w.heap.size, 0, none⟩) n n)) w') :
    if Region.wanted o (yielded ops a.tmps) = true then Oper.wp P o a w K Q else E := by
  have hw : Region.wanted o (yielded ops a.tmps) = true := by simp [Region.wanted, hgd]
  rw [if_pos hw]
  obtain ⟨ht, hinfo⟩ := hrow
  obtain ⟨i, hi, hz1, hz2, hz3⟩ := info_parts hinfo
  subst hz3
  obtain ⟨w', hrun, h1, h2⟩ := run_make_full (P := P) w w.heap.size t e i z L.sz ht hi hz1 hz2 kl kc n b2 h63 (Nat.le_refl _)
  subst hN
  subst hC
  unfold Oper.wp
  simp [execOp, hop, hl, hc, hrun, Result.andThen]
  refine h w' ?_ ((Below.refl _ _).grown h2 (Nat.le_refl _) (fun k hk => by cases hk))
  unfold Own
  rw [List.length_replicate]
  have e : (madeCells z.cells (n * L.sz)).toList = (List.replicate n z0).flatMap L.f := by
    have hzl : z.cells.size = L.sz := by rw [← Array.length_toList, hz0, L.len]
    apply List.ext_getElem?
    intro j
    by_cases hj : j < n * L.sz
    · have hdiv : j / L.sz < n := Nat.div_lt_of_lt_mul (by rw [Nat.mul_comm]; exact hj)
      have hmod : j % L.sz < L.sz := Nat.mod_lt _ L.pos
      have hjj : j = (j / L.sz) * L.sz + j % L.sz := by rw [Nat.mul_comm]; exact (Nat.div_add_mod j L.sz).symm
      have hlen : (j % L.sz) < (L.f z0).length := by rw [L.len]; exact hmod
      have hr := flat_get L (List.replicate n z0) (j / L.sz) (by simpa using hdiv) (j % L.sz) ((L.f z0)[j % L.sz]) (by simp)
      rw [← hjj] at hr
      rw [hr]
      have : (L.f z0)[j % L.sz] = z.cells[j % L.sz]'(by rw [hzl]; exact hmod) := by
        simp only [← hz0, Array.getElem_toList]
      rw [this]
      simp only [madeCells, Array.toList_map, Array.toList_range, List.getElem?_map, List.getElem?_range hj, Option.map_some, hzl]
      rw [getElem!_pos z.cells (j % L.sz) (by rw [hzl]; exact hmod)]
    · rw [List.getElem?_eq_none (by simp [size_madeCells]; omega), List.getElem?_eq_none (by rw [flat_len]; simp; omega)]
  rw [e] at h1
  exact h1
/-- 'append(out, ys...)' inside a region that draws its order -/
theorem stepL_app {ops : Array Oper} {o : Oper} {a : Act} {K : Act → World → Prop} {Q : Exit → Act → World → Prop} {E : Prop} {t e : TypeId} {z : Value} {bytes : Nat} (hrow : TyRow P t e z L.sz bytes) (hz : z.cells.size = L.sz) (hgd : o.guard = none) (s x : Operand)
    (ho : o.op = .call { callee := .builtin .append, args := #[s, x], argTypes := #[t, t] }) {base c : Nat} {A : Option Addr} {xs : List α} (n : Nat) (hn : n = xs.length) (hs : a.eval s = .slice A n c) (hown : Own L e w base A c xs)
    (ao : Option Addr) (m cc : Nat) (news : List α) (hx : a.eval x = .slice ao m cc) (hm : news.length = m) (hao : ao = none → m = 0 ∧ cc = 0) (hnews : ∀ ad, ao = some ad → ∀ j u, (news.flatMap L.f)[j]? = some u → w.cell? (ad.add j) = some u)
    (h63 : xs.length + m ≤ maxLen) (hbytes : (xs.length + m) * bytes ≤ 140737488355328) (hbase : base ≤ w.heap.size)
    (h : ∀ A' c' w', Own L e w' base A' c' (xs ++ news) → Grew w w' A A' → K (a.put o.dst (.slice A' (xs.length + m) c')) w') :
    if Region.wanted o (yielded ops a.tmps) = true then Oper.wp P o a w K Q else E := by
  subst hn
  have hw : Region.wanted o (yielded ops a.tmps) = true := by simp [Region.wanted, hgd]
  rw [if_pos hw]
  obtain ⟨A', c', w', hrun, h1, h2⟩ := run_app (w := w) hrow hz o.type hown ao m cc news hm hao hnews h63 hbytes hbase
  unfold Oper.wp
  simp only [execOp, ho]
  simp [resolve, invoke, builtin, hs, hx, hrun, Result.andThen]
  have := h _ _ _ h1 h2
  rw [hm]
  exact this
end
theorem Own.cells_ {α : Type} {L : Lay α} {T : TypeId} {w : World} {base c : Nat} {A : Option Addr} {xs : List α} (h : Own L T w base A c xs) : ∀ ad, A = some ad → ∀ j u, (xs.flatMap L.f)[j]? = some u → w.cell? (ad.add j) = some u := by
  intro ad e
  rcases h.parts with ⟨h1, _⟩ | ⟨g, _, h1, _⟩
  · rw [h1] at e; cases e
  · rw [h1] at e; cases e
    rw [h1] at h
    exact World.ownsRow.cells h (g := g) rfl
/-- a table that has been built, and what has stayed -/
def TabT (w0 : World) (g : Nat) (A : Option Addr) (c : Nat) (cs : List Int) (m : Nat) (v : Value) (wx : World) : Prop :=
  ∃ (A1 : Option Addr) (c1 : Nat) (rs : List (Row Int)), v = .slice A1 rs.length c1 ∧ rs.length ≤ 11 ∧ RdR LI wx wx.heap.size A1 c1 rs ∧ Hi w0.heap.size A1 rs ∧ Sr wx g A c cs m ∧ Fs g w0 wx
def DrewTF (w : World) (e : Ending) (w' : World) : Prop :=
  ∃ (B : Option Addr) (d : Nat) (xs : List Int) (v : Int) (A1 : Option Addr) (c1 : Nat) (rs : List (Row Int)), e = .returned (.tuple #[.slice B xs.length d, .int .i64 v, .slice A1 rs.length c1]) ∧ Rd LI w' w'.heap.size B d xs ∧ RdR LI w' w'.heap.size A1 c1 rs ∧ Below w.heap.size w w'
set_option maxRecDepth 100000 in
set_option maxHeartbeats 12800000 in
theorem drawFault_any (A : Option Addr) (c : Nat) (cs : List Int) (w : World) (hr : Rd LU w w.heap.size A c cs) (hb : ∀ x ∈ cs, 0 ≤ x ∧ x ≤ 255) :
    Calls Try.prog 15 #[.slice A cs.length c] w (DrewTF w) := by
  obtain ⟨g, hg⟩ : ∃ g, g = w.heap.size := ⟨_, rfl⟩
  have hc := from_at g A c cs w hg hr (Nat.le_refl _) hb
  have HG := Lib.hid hg
  clear hg hr
  go_enter Try.func15, Try.ntmps15
  go_wp2_with fail
  refine hc.mono ?_
  rintro e w1 ⟨rfl, hS, hb1⟩
  have hgw : w.heap.size ≤ g := by rw [HG.out]; exact Nat.le_refl _
  have hg1 := hS.g1
  rw [HG.out] at hb1
  have HB1 := Lib.hid hb1
  have hc2 := l21Draw_any g A c cs 0 w1 hS (by omega)
  clear hc hS hb1
  go_wp2_with fail
  refine hc2.mono ?_
  rintro e w2 ⟨B, d, xs, v, rfl, hl, hx, ho, hS, hF⟩
  have hs2 := hF.size
  have hg2 := hS.g1
  have HO := Lib.hid ho
  have HS := Lib.hid hS
  have HB2 := Lib.hid (HB1.out.trans (hF.below HB1.out.size hgw))
  have hal : Below w2.heap.size w2 (w2.alloc (.cells #[] 24)) := (Below.refl _ w2).alloc (Nat.le_refl _) _
  have hc3 := specBestTrips_any B d xs v _ ((ho.rd.below hal).more hal.size)
  have HE0 : Hid (OwnR LI 24 2 (w2.alloc (.cells #[] 24)) w2.heap.size (some ⟨w2.heap.size, 0, none⟩) 0 ([] : List (Row Int))) := Lib.hid ⟨Own.lit0 w2 (Nat.le_refl _) rfl, (fun r hr => by cases hr), List.Pairwise.nil⟩
  obtain ⟨bt, hbt⟩ : ∃ b, b = btP xs v := ⟨_, rfl⟩
  have hbd : bt.2 = 0 → bt.1.length ≤ 10 ∧ ∀ a ∈ bt.1, 0 ≤ a ∧ a < 10 := fun h => by rw [hbt] at h ⊢; exact bt_bd h
  rw [← hbt] at hc3
  obtain ⟨M, bc⟩ := bt
  dsimp only at hc3 hbd
  have HAL := Lib.hid hal
  have HX := Lib.hid hx
  clear hc2 hS hF ho hx hbt hal
  go_wp2_with fail
  refine hc3.mono ?_
  rintro e w4 ⟨Am, cm, rfl, hom, hb4⟩
  have HE4 := Lib.hid (HE0.out.below hb4)
  have HB4 := Lib.hid (bthen HAL.out (Nat.le_refl _) hb4)
  have hs4 := HB4.out.size
  have HM4 := Lib.hid (hom.lower (show w2.heap.size ≤ (w2.alloc (.cells #[] 24)).heap.size by simp))
  clear hc3 hom hb4 HE0
  go_upto_if 28 with fail
  obtain ⟨b0, hb0⟩ : ∃ b, b = (bc == 0) := ⟨_, rfl⟩
  rw [← hb0]
  go_cut [8] from 29 to 61 (fun s wx => ∃ (A1 : Option Addr) (c1 : Nat) (rs : List (Row Int)), s = .slice A1 rs.length c1 ∧ rs.length ≤ 10 ∧ (∀ r ∈ rs, r.2.2.length ≤ 10) ∧ OwnR LI 24 2 wx w2.heap.size A1 c1 rs ∧ Below w2.heap.size w2 wx)
  case first =>
    as_aux_lemma =>
    cases b0
    · go_wp2_with fail
      go_meet
      case rel => exact ⟨_, 0, [], rfl, by simp, (fun r hr => by cases hr), HE4.out, HB4.out⟩
    obtain rfl : bc = 0 := by simpa using hb0.symm
    obtain ⟨hM10, hMb⟩ := hbd rfl
    have HMB := Lib.hid hMb
    clear hb0 hbd hMb HX HO
    have HAp4 : Hid (∀ r ∈ ([] : List (Row Int)), Ap r.1 Am) := Lib.hid (fun r hr => by cases hr)
    go_wp2_with fail
    go_loopw [8, 11] (fun o i wr => ∃ (k : Nat) (A1 : Option Addr) (c1 : Nat) (L1 : List (Option Addr × Nat × Nat)) (rs : List (Row Int)), k ≤ M.length ∧ i = .int .i64 k ∧ o = .slice A1 L1.length c1 ∧ Hid (L1 = rs.map hd) ∧ Hid (L1.length ≤ 10) ∧ Hid (∀ r ∈ rs, r.2.2.length ≤ k) ∧ Hid (OwnR LI 24 2 wr w2.heap.size A1 c1 rs) ∧ Hid (Own LI 2 wr w2.heap.size Am cm M) ∧ Hid (∀ r ∈ rs, Ap r.1 Am) ∧ Hid (Below w2.heap.size w2 wr)) (fun _ i _ => M.length - (intOf i).toNat)
    case atStart => exact ⟨0, _, 0, [], [], by omega, rfl, rfl, Lib.hid rfl, Lib.hid (by simp), Lib.hid (fun r hr => by cases hr), HE4, HM4, HAp4, HB4⟩
    case round =>
      clear HE4 HM4 HAp4 HB4
      obtain ⟨k, A1, c1, L1, rs, hk, rfl, rfl, HL1, HL10, HRK, HR, HM, HAP, HB⟩ := hrel
      by_cases hlt : k < M.length
      rotate_left
      · have hki : (M.length : Int) ≤ k := by omega
        have hrl : L1.length = rs.length := by rw [HL1.out]; simp
        have hr10 : rs.length ≤ 10 := by rw [← hrl]; exact HL10.out
        go_wp2_with fail
        go_meet
        case rel => exact ⟨A1, c1, rs, by rw [hrl], hr10, (fun r hr => by have := HRK.out r hr; omega), HR.out, HB.out⟩
      have hki : (k : Int) < M.length := by omega
      obtain ⟨wq, hwq⟩ : ∃ q, q = wr := ⟨_, rfl⟩
      subst hwq
      have hxb := HMB.out _ (List.getElem_mem hlt)
      obtain ⟨a, ha⟩ : ∃ a : Nat, M[k] = (a : Int) := ⟨M[k].toNat, by omega⟩
      have HAK := Lib.hid ha
      have ha10 : a < 10 := by omega
      clear hxb ha
      go_wp2_with fail
      go_loopw [8] (fun o wr => ∃ (A1 : Option Addr) (c1 : Nat) (L1 : List (Option Addr × Nat × Nat)) (rs : List (Row Int)), o = .slice A1 L1.length c1 ∧ Hid (L1 = rs.map hd) ∧ Hid (L1.length ≤ 10) ∧ Hid (∀ r ∈ rs, r.2.2.length ≤ k) ∧ Hid (OwnR LI 24 2 wr w2.heap.size A1 c1 rs) ∧ Hid (Own LI 2 wr w2.heap.size Am cm M) ∧ Hid (∀ r ∈ rs, Ap r.1 Am) ∧ Hid (Below w2.heap.size w2 wr)) (fun o _ => 20 - (match o with | .slice _ n _ => n | _ => 0))
      case atStart => exact ⟨A1, c1, L1, rs, rfl, HL1, HL10, HRK, HR, HM, HAP, HB⟩
      case round =>
        clear HL1 HL10 HRK HR HM HAP HB
        obtain ⟨A1, c1, L1, rs, rfl, HL1, HL10, HRK, HR, HM, HAP, HB⟩ := hrel
        have hl10 := HL10.out
        have hsz := HB.out.size
        have hrl : L1.length = rs.length := by rw [HL1.out]; simp
        obtain ⟨gm, rfl, hgm1, hgm2, hcm, _⟩ := HM.out.int hlt
        rw [HAK.out] at hcm
        by_cases hla : L1.length ≤ a
        · have hlai : (L1.length : Int) ≤ a := by omega
          have hout : Own LV 24 (wr.alloc (.cells #[] 2)) w2.heap.size A1 c1 L1 := by rw [HL1.out]; exact (HR.out.al_ _).out
          go_wp2_with (at_builtin; go_loud (refine wpL_app1 (L := LV) rowV rfl rfl _ _ rfl rfl hout (some ⟨wr.heap.size, 0, none⟩, 0, 0) _ rfl rfl (by simp) (by unfold maxLen; omega) (by omega) (by simp; omega) ?_); intro A6 c6 w6 ho6 hg6)
          have hrow : Own LI 2 (wr.alloc (.cells #[] 2)) w2.heap.size (some ⟨wr.heap.size, 0, none⟩) 0 ([] : List Int) := Own.lit0 wr hsz rfl
          have hnb := hout.blk_lt
          have hsn : OwnR LI 24 2 w6 w2.heap.size A6 c6 (rs ++ [((some ⟨wr.heap.size, 0, none⟩, 0, []) : Row Int)]) := OwnR.snoc (r := (some ⟨wr.heap.size, 0, none⟩, 0, [])) (HR.out.al_ _) (by decide) hrow (fun s hs b h1 h2 => by have := (HR.out.blk_lt.2 s hs b h1).2; simp [blk] at h2; omega) (by
            rw [HL1.out] at ho6
            simpa [hd] using ho6) hg6
          have hmo := hg6.own (HM.out.alloc (.cells #[] 2)) (fun b e1 e2 => own_types hout (HM.out.alloc (.cells #[] 2)) (by decide) b e2 e1)
          have HB6 := Lib.hid (Grew.below (HB.out.alloc hsz (.cells #[] 2)) hg6 (by simp; omega) (fun b e => (hnb b e).1))
          have HR6 := Lib.hid hsn
          have HM6 := Lib.hid hmo.1
          have HAP6 : Hid (∀ r ∈ rs ++ [((some ⟨wr.heap.size, 0, none⟩, 0, []) : Row Int)], Ap r.1 (some ⟨gm, 0, none⟩)) := Lib.hid (fun r hr => by
            rcases List.mem_append.1 hr with h | h
            · exact HAP.out r h
            · simp at h
              rw [h]
              intro b h1 h2
              simp [blk] at h1 h2
              omega)
          have HE6 : Hid (L1 ++ [(some ⟨wr.heap.size, 0, none⟩, 0, 0)] = (rs ++ [((some ⟨wr.heap.size, 0, none⟩, 0, []) : Row Int)]).map hd) := Lib.hid (by rw [HL1.out, List.map_append]; simp [hd])
          have HRK6 : Hid (∀ r ∈ rs ++ [((some ⟨wr.heap.size, 0, none⟩, 0, []) : Row Int)], r.2.2.length ≤ k) := Lib.hid (fun r hr => by
            rcases List.mem_append.1 hr with h | h
            · exact HRK.out r h
            · simp at h; rw [h]; simp)
          clear hsn hmo ho6 hg6 hout hrow hcm
          go_roundw
          case rel => exact ⟨A6, c6, L1 ++ [(some ⟨wr.heap.size, 0, none⟩, 0, 0)], _, by simp <;> omega, HE6, Lib.hid (by simp; omega), HRK6, HR6, HM6, HAP6, HB6⟩
          case measure => simp; omega
        · have hlai : (a : Int) < L1.length := by omega
          have hai : a < rs.length := by omega
          obtain ⟨G1, rfl, hG1b, hG1l, hcG, hfG, hrow⟩ := HR.out.at_ hai
          have hlr := HRK.out _ (List.getElem_mem hai)
          have hapm := HAP.out _ (List.getElem_mem hai)
          obtain ⟨Ar, hAr⟩ : ∃ Ar, Ar = rs[a].1 := ⟨_, rfl⟩
          obtain ⟨cr, hcr⟩ : ∃ cr, cr = rs[a].2.1 := ⟨_, rfl⟩
          obtain ⟨xr, hxr⟩ : ∃ xr, xr = rs[a].2.2 := ⟨_, rfl⟩
          rw [← hAr, ← hcr, ← hxr] at hrow
          rw [← hAr, ← hcr, ← hxr] at hcG
          rw [← hxr] at hlr
          rw [← hAr] at hapm
          have HGR : Hid (∀ (W W' : World) (A' : Option Addr), Grew W W' Ar A' → Grew W W' (rs[a]'hai).1 A') := Lib.hid (fun W W' A' h => by rw [← hAr]; exact h)
          have hnb := hrow.blk_lt
          have HRW := Lib.hid hrow
          have hnG : blk Ar ≠ some G1 := fun e => own_types HR.out.out hrow (by decide) G1 rfl e
          have hnm : gm ≠ G1 := fun e => own_types HR.out.out HM.out (by decide) G1 rfl (by rw [e]; rfl)
          have HAPM := Lib.hid hapm
          have hkb : k ≤ 10 := by omega
          have HRL := Lib.hid hrl
          clear hAr hcr hxr hrow hapm hrl
          have hPM : wr.cell? ⟨gm, k, none⟩ = some (.int .i64 (a : Int)) := hcm
          have hPMlt : (⟨gm, k, none⟩ : Addr).block < wr.heap.size := hgm2
          have hPMne : blk Ar ≠ some (⟨gm, k, none⟩ : Addr).block := fun e => HAPM.out gm e rfl
          have hPMg : (⟨gm, k, none⟩ : Addr).block ≠ G1 := hnm
          go_upto_region 11 with fail
          have hD1 : (wr).drew.cell? ⟨gm, k, none⟩ = some (.int .i64 (a : Int)) := hPM
          have hDG : (wr).drew.cell? ⟨G1, a, none⟩ = some (.slice Ar xr.length cr) := hcG
          refine wp_region_noPanic ?_
          refine startS (S := fun W => W.cell? ⟨gm, k, none⟩ = some (.int .i64 (a : Int))) 17 (by kernel_rfl) (by kernel_rfl) hD1 (fun hHeld => ?_)
          refine withS 17 [0, 1, 2, 3, 4, 5, 6, 7, 8, 9, 10, 12, 15] (by as_aux_lemma => kernel_rfl) (by kernel_rfl) (by kernel_rfl) (fun _ _ _ _ _ h => h) ?_
          intro HFR HNS HSZ HQP
          refine takeS (i := 0) (v := ?_) HFR.out HNS.out HSZ.out HQP.out rfl (by kernel_rfl) (by kernel_rfl) (by decide) (by kernel_rfl) (Or.inl ⟨by rfl, ?_⟩) hHeld rfl (by dsimp only [List.set_cons_succ, List.set_cons_zero]) ?_
          rotate_left
          · intro w hSw; clear hSw; go_simp; (try with_reducible rfl)
          refine takeS (i := 1) (v := ?_) HFR.out HNS.out HSZ.out HQP.out rfl (by kernel_rfl) (by kernel_rfl) (by decide) (by kernel_rfl) (Or.inl ⟨by rfl, ?_⟩) hHeld rfl (by dsimp only [List.set_cons_succ, List.set_cons_zero]) ?_
          rotate_left
          · intro w hSw; clear hSw; go_simp; (try with_reducible rfl)
          refine takeS (i := 2) (v := ?_) HFR.out HNS.out HSZ.out HQP.out rfl (by kernel_rfl) (by kernel_rfl) (by decide) (by kernel_rfl) (Or.inl ⟨by rfl, ?_⟩) hHeld rfl (by dsimp only [List.set_cons_succ, List.set_cons_zero]) ?_
          rotate_left
          · intro w hSw; clear hSw; go_simp; (try with_reducible rfl)
          refine takeS (i := 5) (v := ?_) HFR.out HNS.out HSZ.out HQP.out rfl (by kernel_rfl) (by kernel_rfl) (by decide) (by kernel_rfl) (Or.inl ⟨by rfl, ?_⟩) hHeld rfl (by dsimp only [List.set_cons_succ, List.set_cons_zero]) ?_
          rotate_left
          · intro w hSw; clear hSw; go_simp; (try with_reducible rfl)
          refine takeS (i := 6) (v := ?_) HFR.out HNS.out HSZ.out HQP.out rfl (by kernel_rfl) (by kernel_rfl) (by decide) (by kernel_rfl) (Or.inl ⟨by rfl, ?_⟩) hHeld rfl (by dsimp only [List.set_cons_succ, List.set_cons_zero]) ?_
          rotate_left
          · intro w hSw; clear hSw; go_simp; (try with_reducible rfl)
          refine takeS (i := 7) (v := ?_) HFR.out HNS.out HSZ.out HQP.out rfl (by kernel_rfl) (by kernel_rfl) (by decide) (by kernel_rfl) (Or.inl ⟨by rfl, ?_⟩) hHeld rfl (by dsimp only [List.set_cons_succ, List.set_cons_zero]) ?_
          rotate_left
          · intro w hSw; clear hSw; go_simp; (try with_reducible rfl)
          refine takeS (i := 12) (v := ?_) HFR.out HNS.out HSZ.out HQP.out rfl (by kernel_rfl) (by kernel_rfl) (by decide) (by kernel_rfl) (Or.inl ⟨by rfl, ?_⟩) hHeld rfl (by dsimp only [List.set_cons_succ, List.set_cons_zero]) ?_
          rotate_left
          · intro w hSw; clear hSw; go_simp; (try with_reducible rfl)
          refine takeS (i := 3) (v := ?_) HFR.out HNS.out HSZ.out HQP.out rfl (by kernel_rfl) (by kernel_rfl) (by decide) (by kernel_rfl) (Or.inl ⟨by rfl, ?_⟩) hHeld rfl (by dsimp only [List.set_cons_succ, List.set_cons_zero]) ?_
          rotate_left
          · intro w hSw; clear hSw; go_simp; (try with_reducible rfl)
          refine takeS (i := 8) (v := ?_) HFR.out HNS.out HSZ.out HQP.out rfl (by kernel_rfl) (by kernel_rfl) (by decide) (by kernel_rfl) (Or.inl ⟨by rfl, ?_⟩) hHeld rfl (by dsimp only [List.set_cons_succ, List.set_cons_zero]) ?_
          rotate_left
          · intro w hSw; clear hSw; go_simp; (try with_reducible rfl)
          refine takeS (i := 4) (v := ?_) HFR.out HNS.out HSZ.out HQP.out rfl (by kernel_rfl) (by kernel_rfl) (by decide) (by kernel_rfl) (Or.inl ⟨by rfl, ?_⟩) hHeld rfl (by dsimp only [List.set_cons_succ, List.set_cons_zero]) ?_
          rotate_left
          · intro w hSw; go_simp; (try with_reducible rfl)
          refine takeS (i := 9) (v := ?_) HFR.out HNS.out HSZ.out HQP.out rfl (by kernel_rfl) (by kernel_rfl) (by decide) (by kernel_rfl) (Or.inl ⟨by rfl, ?_⟩) hHeld rfl (by dsimp only [List.set_cons_succ, List.set_cons_zero]) ?_
          rotate_left
          · intro w hSw; go_simp; (try with_reducible rfl)
          refine takeS (i := 10) (v := ?_) HFR.out HNS.out HSZ.out HQP.out rfl (by kernel_rfl) (by kernel_rfl) (by decide) (by kernel_rfl) (Or.inl ⟨by rfl, ?_⟩) hHeld rfl (by dsimp only [List.set_cons_succ, List.set_cons_zero]) ?_
          rotate_left
          · intro w hSw; clear hSw; go_simp; (try with_reducible rfl)
          refine callS2 (i := 11) (j := 13) HSZ.out (by kernel_rfl) (by kernel_rfl) rfl rfl (fun K hK => ?_) (fun K hK => ?_)
          rotate_left
          go_simp
          refine hK.out _ _ ((World.cell?_alloc_lt _ _ _ (by exact hPMlt)).trans hHeld) (fun hHeldN => ?_)
          clear hK K hHeld
          try simp only [Act.put, List.setIfInBounds_toArray, List.set_cons_zero, List.set_cons_succ]
          have hHeld := hHeldN
          clear hHeldN
          have hDG2 := (World.cell?_alloc_lt (wr).drew (.cells #[.int .i64 (k : Int)] 2) ⟨G1, a, none⟩ (by exact hG1l)).trans hDG
          refine callS (i := 11) HSZ.out (by kernel_rfl) (by kernel_rfl) rfl (fun K hK => ?_)
          go_simp
          refine hK.out _ _ hHeld (fun hHeldN => ?_)
          clear hK K hHeld hDG2
          try simp only [Act.put, List.setIfInBounds_toArray, List.set_cons_zero, List.set_cons_succ]
          have hHeld := hHeldN
          clear hHeldN
          refine callS (i := 14) HSZ.out (by kernel_rfl) (by kernel_rfl) rfl (fun K hK => ?_)
          refine stepL_app1 (L := LI) rowI rfl rfl _ _ rfl rfl (HRW.out.drew.alloc _) (k : Int) rfl ?_ (by unfold maxLen; omega) (by omega) (by simp; omega) ?_
          · intro j u hu; show (World.alloc _ _).cell? _ = _; rw [World.cell?_alloc_at (hn := rfl)]; simpa [LI] using hu
          intro A7 c7 w7 ho7 hg7
          have hPM7 := (hg7.cell ⟨gm, k, none⟩ (by simp; omega) hPMne).trans hHeld
          have hcG7 := (hg7.cell ⟨G1, a, none⟩ (by simp; omega) hnG).trans (show (World.alloc _ _).cell? _ = some (.slice Ar xr.length cr) by go_simp)
          have hfG7 := (hg7.frozen ⟨G1, a, none⟩ (by simp; omega) hnG).trans (show (World.alloc _ _).frozen? _ = false by go_simp)
          refine hK.out _ _ hPM7 (fun hHeldN => ?_)
          clear hK K hHeld
          try simp only [Act.put, List.setIfInBounds_toArray, List.set_cons_zero, List.set_cons_succ]
          have hHeld := hHeldN
          clear hHeldN
          refine takeS (i := 15) (v := ?_) HFR.out HNS.out HSZ.out HQP.out rfl (by kernel_rfl) (by kernel_rfl) (by decide) (by kernel_rfl) (Or.inl ⟨by rfl, ?_⟩) hHeld rfl (by dsimp only [List.set_cons_succ, List.set_cons_zero]) ?_
          rotate_left
          · intro w hSw; clear hSw; go_simp; (try with_reducible rfl)
          refine callS (i := 16) HSZ.out (by kernel_rfl) (by kernel_rfl) rfl (fun K hK => ?_)
          go_simp
          refine hK.out _ _ ((World.cell?_setCell_far _ _ _ _ (fun e => hPMg e.symm)).trans hHeld) (fun hHeldN => ?_)
          clear hK K hHeld hHeldN
          try simp only [Act.put, List.setIfInBounds_toArray, List.set_cons_zero, List.set_cons_succ]
          refine doneS HSZ.out (by kernel_rfl) (by kernel_rfl) (NoPanic.normal ?_)
          rotate_left
          go_simp
          refine hK.out _ _ hHeld (fun hHeldN => ?_)
          clear hK K hHeld
          try simp only [Act.put, List.setIfInBounds_toArray, List.set_cons_zero, List.set_cons_succ]
          have hHeld := hHeldN
          clear hHeldN
          refine callS (i := 13) HSZ.out (by kernel_rfl) (by kernel_rfl) rfl (fun K hK => ?_)
          go_simp
          refine hK.out _ _ ((World.cell?_alloc_lt _ _ _ (by exact hPMlt)).trans hHeld) (fun hHeldN => ?_)
          clear hK K hHeld
          try simp only [Act.put, List.setIfInBounds_toArray, List.set_cons_zero, List.set_cons_succ]
          have hHeld := hHeldN
          clear hHeldN
          refine callS (i := 14) HSZ.out (by kernel_rfl) (by kernel_rfl) rfl (fun K hK => ?_)
          refine stepL_app1 (L := LI) rowI rfl rfl _ _ rfl rfl (HRW.out.drew.alloc _) (k : Int) rfl ?_ (by unfold maxLen; omega) (by omega) (by simp; omega) ?_
          · intro j u hu; show (World.alloc _ _).cell? _ = _; rw [World.cell?_alloc_at (hn := rfl)]; simpa [LI] using hu
          intro A7 c7 w7 ho7 hg7
          have hPM7 := (hg7.cell ⟨gm, k, none⟩ (by simp; omega) hPMne).trans hHeld
          have hcG7 := (hg7.cell ⟨G1, a, none⟩ (by simp; omega) hnG).trans (show (World.alloc _ _).cell? _ = some (.slice Ar xr.length cr) by go_simp)
          have hfG7 := (hg7.frozen ⟨G1, a, none⟩ (by simp; omega) hnG).trans (show (World.alloc _ _).frozen? _ = false by go_simp)
          refine hK.out _ _ hPM7 (fun hHeldN => ?_)
          clear hK K hHeld
          try simp only [Act.put, List.setIfInBounds_toArray, List.set_cons_zero, List.set_cons_succ]
          have hHeld := hHeldN
          clear hHeldN
          refine takeS (i := 15) (v := ?_) HFR.out HNS.out HSZ.out HQP.out rfl (by kernel_rfl) (by kernel_rfl) (by decide) (by kernel_rfl) (Or.inl ⟨by rfl, ?_⟩) hHeld rfl (by dsimp only [List.set_cons_succ, List.set_cons_zero]) ?_
          rotate_left
          · intro w hSw; clear hSw; go_simp; (try with_reducible rfl)
          refine callS (i := 16) HSZ.out (by kernel_rfl) (by kernel_rfl) rfl (fun K hK => ?_)
          go_simp
          refine hK.out _ _ ((World.cell?_setCell_far _ _ _ _ (fun e => hPMg e.symm)).trans hHeld) (fun hHeldN => ?_)
          clear hK K hHeld hHeldN
          try simp only [Act.put, List.setIfInBounds_toArray, List.set_cons_zero, List.set_cons_succ]
          refine doneS HSZ.out (by kernel_rfl) (by kernel_rfl) (NoPanic.normal ?_)
          all_goals
            have HR7 := Lib.hid ((HR.out.al_ (.cells #[.int .i64 (k : Int)] 2)).dr_.app_ (by decide) hai (A7, c7, xr ++ [(k : Int)]) ho7 (HGR.out _ _ _ hg7))
            have hmo := hg7.own (HM.out.alloc (.cells #[.int .i64 (k : Int)] 2)) (fun b e1 e2 => HAPM.out b e2 e1)
            have e7 : (xr ++ [(k : Int)]).length = xr.length + 1 := by simp
            simp only [e7] at HR7
            have HM7 := Lib.hid (hmo.1.setFar (p := ⟨G1, a, none⟩) (fun e => hnm (by injection e)) (.slice A7 (xr.length + 1) c7))
            have HAP7 : Hid (∀ r ∈ rs.set a ((A7, c7, xr ++ [(k : Int)]) : Row Int), Ap r.1 (some ⟨gm, 0, none⟩)) := Lib.hid (fun r hr => by
              rcases List.mem_or_eq_of_mem_set hr with h | h
              · exact HAP.out r h
              · rw [h]; exact fun b e1 e2 => hmo.2 b e2 e1)
            have HRK7 : Hid (∀ r ∈ rs.set a ((A7, c7, xr ++ [(k : Int)]) : Row Int), r.2.2.length ≤ k + 1) := Lib.hid (fun r hr => by
              rcases List.mem_or_eq_of_mem_set hr with h | h
              · have := HRK.out r h; omega
              · rw [h]; simp; omega)
            have HB7 := Lib.hid ((Grew.below (below_drewN (HB.out.alloc hsz (.cells #[.int .i64 (k : Int)] 2)) 1) hg7 (by show w2.heap.size ≤ (wr.alloc _).heap.size; simp; omega) (fun b e => (hnb b e).1)).setCell (p := ⟨G1, a, none⟩) hG1b (.slice A7 (xr.length + 1) c7))
            have HL7 : Hid ((rs.set a ((A7, c7, xr ++ [(k : Int)]) : Row Int)).map hd = (rs.set a ((A7, c7, xr ++ [(k : Int)]) : Row Int)).map hd) := Lib.hid rfl
            have HN7 : Hid (((rs.set a ((A7, c7, xr ++ [(k : Int)]) : Row Int)).map hd).length = L1.length) := Lib.hid (by simp [HRL.out])
            clear hmo ho7 hg7 hcG7 hfG7 e7
            go_wp2_with fail
            refine ⟨⟨k + 1, _, c1, (rs.set a ((A7, c7, xr ++ [(k : Int)]) : Row Int)).map hd, _, by omega, by go_num, by rw [HN7.out], HL7, Lib.hid (by rw [HN7.out]; omega), HRK7, HR7, HM7, HAP7, HB7⟩, ?_⟩
            simp [intOf]; omega
  case rest =>
  obtain ⟨A1, c1, rs, rfl, hr10, hrk, hR, hBw⟩ := hcut
  have HR := Lib.hid hR
  have HB := Lib.hid hBw
  have HRK := Lib.hid hrk
  have hsc := hBw.size
  have HOc := Lib.hid (HO.out.below hBw)
  have HSc := Lib.hid ((HS.out.below hBw).more (show 0 + 60 ≤ 60 by omega))
  have HFc : Hid (Fs g w2 wc) := Lib.hid (Fs.of_below hBw)
  have HHi : Hid (Hi w2.heap.size A1 rs) := Lib.hid ⟨fun k e => (hR.blk_lt.1 k e).1, fun r hr k e => (hR.blk_lt.2 r hr k e).1⟩
  clear HE4 HB4 HM4 hb0 hbd hR hBw hrk HAL hs4 HB
  obtain ⟨wq, hwq⟩ : ∃ q, q = wc := ⟨_, rfl⟩
  subst hwq
  go_upto_if 64 with fail
  go_cut [8] from 62 to 116 (fun s wx => TabT w2 g A c cs 80 s wx)
  case first =>
    by_cases hz : 0 < rs.length
    rotate_left
    · have hzi : (rs.length : Int) ≤ 0 := by omega
      go_wp2_with fail
      go_meet
      case rel => exact ⟨A1, c1, rs, rfl, by omega, HR.out.rd, HHi.out, HSc.out.more (by omega), HFc.out⟩
    have hzi : (0 : Int) < rs.length := by omega
    have hp := pick_any (rs.length : Int) g A c cs _ wq HSc.out (by omega) (by omega)
    clear HSc
    go_wp2_with fail
    refine hp.mono ?_
    rintro e w5 ⟨v0, rfl, v00, v01, hS, hF⟩
    obtain ⟨a, rfl⟩ : ∃ a : Nat, v0 = (a : Int) := ⟨v0.toNat, by omega⟩
    have hai : a < rs.length := by omega
    have HR5 := Lib.hid (hF.ownR HR.out (by omega))
    have HF5 := Lib.hid (HFc.out.trans hF)
    have hp2 := pick_any 8 g A c cs _ w5 hS (by omega) (by omega)
    clear hp hS hF HR HFc v00 v01
    go_wp2_with fail
    refine hp2.mono ?_
    rintro e w5b ⟨q, rfl, q0, q1, hS, hF⟩
    obtain ⟨wq, hwq⟩ : ∃ q, q = w5b := ⟨_, rfl⟩
    subst hwq
    have HR := Lib.hid (hF.ownR HR5.out (by omega))
    have HFc := Lib.hid (HF5.out.trans hF)
    have HSc := Lib.hid (hS.more (show _ ≤ 70 by omega))
    have hsc := HFc.out.size
    clear hp2 hS hF HR5 HF5
    have haii : (a : Int) < rs.length := by omega
    by_cases z0 : q = 0
    · subst z0
      obtain ⟨G1, rfl, hG1b, hG1l, hcG, hfG, hrow⟩ := HR.out.at_ hai
      have hlr := HRK.out _ (List.getElem_mem hai)
      obtain ⟨Ar, hAr⟩ : ∃ Ar, Ar = rs[a].1 := ⟨_, rfl⟩
      obtain ⟨cr, hcr⟩ : ∃ cr, cr = rs[a].2.1 := ⟨_, rfl⟩
      obtain ⟨xr, hxr⟩ : ∃ xr, xr = rs[a].2.2 := ⟨_, rfl⟩
      rw [← hAr, ← hcr, ← hxr] at hrow
      rw [← hAr, ← hcr, ← hxr] at hcG
      rw [← hxr] at hlr
      have HGR : Hid (∀ (W W' : World) (A' : Option Addr), Grew W W' Ar A' → Grew W W' (rs[a]'hai).1 A') := Lib.hid (fun W W' A' h => by rw [← hAr]; exact h)
      have hnb := hrow.blk_lt
      have HRWd : Hid (Own LI 2 wq.drew w2.heap.size Ar cr xr) := Lib.hid hrow
      have hnG : blk Ar ≠ some G1 := fun e => own_types HR.out.out hrow (by decide) G1 rfl e
      have HSd := Lib.hid HSc.out.dr
      have HRd := Lib.hid HR.out.dr_
      have HFd := Lib.hid HFc.out.drew
      have hDG : wq.drew.cell? ⟨G1, a, none⟩ = some (.slice Ar xr.length cr) := hcG
      have hDG2 := fun (o : Obj) => (World.cell?_alloc_lt wq.drew o ⟨G1, a, none⟩ hG1l).trans hDG
      have hDF : wq.drew.frozen? ⟨G1, a, none⟩ = false := hfG
      clear hAr hcr hxr hrow HSc
      go_upto_region 16 with fail
      refine wp_region_noPanic ?_
      refine startS (S := fun _ => True) 15 (by kernel_rfl) (by kernel_rfl) trivial (fun hHeld => ?_)
      refine withS 15 [0, 1, 2, 3, 4, 6, 7, 8, 13] (by as_aux_lemma => kernel_rfl) (by kernel_rfl) (by kernel_rfl) (fun _ _ _ _ _ h => h) ?_
      intro HFR HNS HSZ HQP
      refine takeS (i := 0) (v := ?_) HFR.out HNS.out HSZ.out HQP.out rfl (by kernel_rfl) (by kernel_rfl) (by decide) (by kernel_rfl) (Or.inl ⟨by rfl, ?_⟩) hHeld rfl (by dsimp only [List.set_cons_succ, List.set_cons_zero]) ?_
      rotate_left
      · intro w hSw; clear hSw; go_simp; (try with_reducible rfl)
      refine takeS (i := 1) (v := ?_) HFR.out HNS.out HSZ.out HQP.out rfl (by kernel_rfl) (by kernel_rfl) (by decide) (by kernel_rfl) (Or.inl ⟨by rfl, ?_⟩) hHeld rfl (by dsimp only [List.set_cons_succ, List.set_cons_zero]) ?_
      rotate_left
      · intro w hSw; clear hSw; go_simp; (try with_reducible rfl)
      refine takeS (i := 2) (v := ?_) HFR.out HNS.out HSZ.out HQP.out rfl (by kernel_rfl) (by kernel_rfl) (by decide) (by kernel_rfl) (Or.inl ⟨by rfl, ?_⟩) hHeld rfl (by dsimp only [List.set_cons_succ, List.set_cons_zero]) ?_
      rotate_left
      · intro w hSw; clear hSw; go_simp; (try with_reducible rfl)
      refine takeS (i := 3) (v := ?_) HFR.out HNS.out HSZ.out HQP.out rfl (by kernel_rfl) (by kernel_rfl) (by decide) (by kernel_rfl) (Or.inl ⟨by rfl, ?_⟩) hHeld rfl (by dsimp only [List.set_cons_succ, List.set_cons_zero]) ?_
      rotate_left
      · intro w hSw; clear hSw; go_simp; (try with_reducible rfl)
      refine takeS (i := 6) (v := ?_) HFR.out HNS.out HSZ.out HQP.out rfl (by kernel_rfl) (by kernel_rfl) (by decide) (by kernel_rfl) (Or.inl ⟨by rfl, ?_⟩) hHeld rfl (by dsimp only [List.set_cons_succ, List.set_cons_zero]) ?_
      rotate_left
      · intro w hSw; clear hSw; go_simp; (try with_reducible rfl)
      refine takeS (i := 7) (v := ?_) HFR.out HNS.out HSZ.out HQP.out rfl (by kernel_rfl) (by kernel_rfl) (by decide) (by kernel_rfl) (Or.inl ⟨by rfl, ?_⟩) hHeld rfl (by dsimp only [List.set_cons_succ, List.set_cons_zero]) ?_
      rotate_left
      · intro w hSw; clear hSw; go_simp; (try with_reducible rfl)
      refine takeS (i := 4) (v := ?_) HFR.out HNS.out HSZ.out HQP.out rfl (by kernel_rfl) (by kernel_rfl) (by decide) (by kernel_rfl) (Or.inl ⟨by rfl, ?_⟩) hHeld rfl (by dsimp only [List.set_cons_succ, List.set_cons_zero]) ?_
      rotate_left
      · intro w hSw; clear hSw; go_simp; (try with_reducible rfl)
      refine takeS (i := 8) (v := ?_) HFR.out HNS.out HSZ.out HQP.out rfl (by kernel_rfl) (by kernel_rfl) (by decide) (by kernel_rfl) (Or.inl ⟨by rfl, ?_⟩) hHeld rfl (by dsimp only [List.set_cons_succ, List.set_cons_zero]) ?_
      rotate_left
      · intro w hSw; clear hSw; go_simp; (try with_reducible rfl)
      focus
        refine callS2 (i := 5) (j := 9) HSZ.out (by kernel_rfl) (by kernel_rfl) rfl rfl (fun K hK => ?_) (fun K hK => ?_)
        rotate_left
        go_simp
        refine hK.out _ _ trivial (fun hHeldN => ?_)
        clear hK K hHeld
        try simp only [Act.put, List.setIfInBounds_toArray, List.set_cons_zero, List.set_cons_succ]
        have hHeld := hHeldN
        clear hHeldN
        focus
          refine callS2 (i := 5) (j := 10) HSZ.out (by kernel_rfl) (by kernel_rfl) rfl rfl (fun K hK => ?_) (fun K hK => ?_)
          rotate_left
          go_simp
          (go_at_call 49; (refine (amongLit_any [-1, 0, (xs.length : Int)] 3 #[.int .i64 (-1), .int .i64 0, .int .i64 (xs.length : Int)] rfl rfl (by omega) (by omega) g A c cs _ wq.drew HSd.out (by omega)).mono ?_); rintro e w6 ⟨v6, rfl, hv6, hS6, hF6⟩; have hs6 := hF6.size; (try simp at hs6); have hcG6 := (hF6.cell ⟨G1, a, none⟩ hG1l (by show G1 ≠ g; omega)).trans hDG; have hcH6 := fun (o : Obj) => (World.cell?_alloc_lt w6 o ⟨G1, a, none⟩ (by show G1 < _; omega)).trans hcG6; have hfG6 := (hF6.frozen ⟨G1, a, none⟩ hG1l (by show G1 ≠ g; omega)).trans hDF; have HX6 := Lib.hid ((hF6.own HRWd.out (fun e => by have := (hnb g e).1; omega)).alloc (.cells #[.int .i64 v6] 2)); have HR6 := Lib.hid ((hF6.ownR HRd.out (by omega)).al_ (.cells #[.int .i64 v6] 2)))
          refine hK.out _ _ trivial (fun hHeldN => ?_)
          clear hK K hHeld
          try simp only [Act.put, List.setIfInBounds_toArray, List.set_cons_zero, List.set_cons_succ]
          have hHeld := hHeldN
          clear hHeldN
          focus
            refine callS2 (i := 5) (j := 11) HSZ.out (by kernel_rfl) (by kernel_rfl) rfl rfl (fun K hK => ?_) (fun K hK => ?_)
            rotate_left
            go_simp
            refine hK.out _ _ trivial (fun hHeldN => ?_)
            clear hK K hHeld
            try simp only [Act.put, List.setIfInBounds_toArray, List.set_cons_zero, List.set_cons_succ]
            have hHeld := hHeldN
            clear hHeldN
            refine callS (i := 5) HSZ.out (by kernel_rfl) (by kernel_rfl) rfl (fun K hK => ?_)
            go_simp
            refine hK.out _ _ trivial (fun hHeldN => ?_)
            clear hK K hHeld
            try simp only [Act.put, List.setIfInBounds_toArray, List.set_cons_zero, List.set_cons_succ]
            have hHeld := hHeldN
            clear hHeldN
            refine callS (i := 12) HSZ.out (by kernel_rfl) (by kernel_rfl) rfl (fun K hK => ?_)
            refine stepL_app1 (L := LI) rowI rfl rfl _ _ rfl rfl HX6.out v6 rfl ?_ (by unfold maxLen; omega) (by omega) (by simp; omega) ?_
            · intro j u hu; show (World.alloc _ _).cell? _ = _; rw [World.cell?_alloc_at (hn := rfl)]; simpa [LI] using hu
            intro A7 c7 w7 ho7 hg7
            have hcG7 := (hg7.cell ⟨G1, a, none⟩ (by simp; omega) hnG).trans (hcH6 _)
            have hfG7 := (hg7.frozen ⟨G1, a, none⟩ (by simp; omega) hnG).trans ((((Below.refl _ w6).alloc (Nat.le_refl _) _).frozen (p := ⟨G1, a, none⟩) (by show G1 < _; omega)).trans hfG6)
            refine hK.out _ _ trivial (fun hHeldN => ?_)
            clear hK K hHeld
            try simp only [Act.put, List.setIfInBounds_toArray, List.set_cons_zero, List.set_cons_succ]
            have hHeld := hHeldN
            clear hHeldN
            refine takeS (i := 13) (v := ?_) HFR.out HNS.out HSZ.out HQP.out rfl (by kernel_rfl) (by kernel_rfl) (by decide) (by kernel_rfl) (Or.inl ⟨by rfl, ?_⟩) hHeld rfl (by dsimp only [List.set_cons_succ, List.set_cons_zero]) ?_
            rotate_left
            · intro w hSw; clear hSw; go_simp; (try with_reducible rfl)
            refine callS (i := 14) HSZ.out (by kernel_rfl) (by kernel_rfl) rfl (fun K hK => ?_)
            go_simp
            refine hK.out _ _ trivial (fun hHeldN => ?_)
            clear hK K hHeld
            try simp only [Act.put, List.setIfInBounds_toArray, List.set_cons_zero, List.set_cons_succ]
            have hHeld := hHeldN
            clear hHeldN
            refine doneS HSZ.out (by kernel_rfl) (by kernel_rfl) (NoPanic.normal ?_)
            rotate_left
            go_simp
            refine hK.out _ _ trivial (fun hHeldN => ?_)
            clear hK K hHeld
            try simp only [Act.put, List.setIfInBounds_toArray, List.set_cons_zero, List.set_cons_succ]
            have hHeld := hHeldN
            clear hHeldN
            refine callS (i := 11) HSZ.out (by kernel_rfl) (by kernel_rfl) rfl (fun K hK => ?_)
            go_simp
            refine hK.out _ _ trivial (fun hHeldN => ?_)
            clear hK K hHeld
            try simp only [Act.put, List.setIfInBounds_toArray, List.set_cons_zero, List.set_cons_succ]
            have hHeld := hHeldN
            clear hHeldN
            refine callS (i := 12) HSZ.out (by kernel_rfl) (by kernel_rfl) rfl (fun K hK => ?_)
            refine stepL_app1 (L := LI) rowI rfl rfl _ _ rfl rfl HX6.out v6 rfl ?_ (by unfold maxLen; omega) (by omega) (by simp; omega) ?_
            · intro j u hu; show (World.alloc _ _).cell? _ = _; rw [World.cell?_alloc_at (hn := rfl)]; simpa [LI] using hu
            intro A7 c7 w7 ho7 hg7
            have hcG7 := (hg7.cell ⟨G1, a, none⟩ (by simp; omega) hnG).trans (hcH6 _)
            have hfG7 := (hg7.frozen ⟨G1, a, none⟩ (by simp; omega) hnG).trans ((((Below.refl _ w6).alloc (Nat.le_refl _) _).frozen (p := ⟨G1, a, none⟩) (by show G1 < _; omega)).trans hfG6)
            refine hK.out _ _ trivial (fun hHeldN => ?_)
            clear hK K hHeld
            try simp only [Act.put, List.setIfInBounds_toArray, List.set_cons_zero, List.set_cons_succ]
            have hHeld := hHeldN
            clear hHeldN
            refine takeS (i := 13) (v := ?_) HFR.out HNS.out HSZ.out HQP.out rfl (by kernel_rfl) (by kernel_rfl) (by decide) (by kernel_rfl) (Or.inl ⟨by rfl, ?_⟩) hHeld rfl (by dsimp only [List.set_cons_succ, List.set_cons_zero]) ?_
            rotate_left
            · intro w hSw; clear hSw; go_simp; (try with_reducible rfl)
            refine callS (i := 14) HSZ.out (by kernel_rfl) (by kernel_rfl) rfl (fun K hK => ?_)
            go_simp
            refine hK.out _ _ trivial (fun hHeldN => ?_)
            clear hK K hHeld
            try simp only [Act.put, List.setIfInBounds_toArray, List.set_cons_zero, List.set_cons_succ]
            have hHeld := hHeldN
            clear hHeldN
            refine doneS HSZ.out (by kernel_rfl) (by kernel_rfl) (NoPanic.normal ?_)
          rotate_left 2
          go_simp
          refine hK.out _ _ trivial (fun hHeldN => ?_)
          clear hK K hHeld
          try simp only [Act.put, List.setIfInBounds_toArray, List.set_cons_zero, List.set_cons_succ]
          have hHeld := hHeldN
          clear hHeldN
          refine callS (i := 10) HSZ.out (by kernel_rfl) (by kernel_rfl) rfl (fun K hK => ?_)
          go_simp
          (go_at_call 49; (refine (amongLit_any [-1, 0, (xs.length : Int)] 3 #[.int .i64 (-1), .int .i64 0, .int .i64 (xs.length : Int)] rfl rfl (by omega) (by omega) g A c cs _ wq.drew HSd.out (by omega)).mono ?_); rintro e w6 ⟨v6, rfl, hv6, hS6, hF6⟩; have hs6 := hF6.size; (try simp at hs6); have hcG6 := (hF6.cell ⟨G1, a, none⟩ hG1l (by show G1 ≠ g; omega)).trans hDG; have hcH6 := fun (o : Obj) => (World.cell?_alloc_lt w6 o ⟨G1, a, none⟩ (by show G1 < _; omega)).trans hcG6; have hfG6 := (hF6.frozen ⟨G1, a, none⟩ hG1l (by show G1 ≠ g; omega)).trans hDF; have HX6 := Lib.hid ((hF6.own HRWd.out (fun e => by have := (hnb g e).1; omega)).alloc (.cells #[.int .i64 v6] 2)); have HR6 := Lib.hid ((hF6.ownR HRd.out (by omega)).al_ (.cells #[.int .i64 v6] 2)))
          refine hK.out _ _ trivial (fun hHeldN => ?_)
          clear hK K hHeld
          try simp only [Act.put, List.setIfInBounds_toArray, List.set_cons_zero, List.set_cons_succ]
          have hHeld := hHeldN
          clear hHeldN
          refine callS (i := 11) HSZ.out (by kernel_rfl) (by kernel_rfl) rfl (fun K hK => ?_)
          go_simp
          refine hK.out _ _ trivial (fun hHeldN => ?_)
          clear hK K hHeld
          try simp only [Act.put, List.setIfInBounds_toArray, List.set_cons_zero, List.set_cons_succ]
          have hHeld := hHeldN
          clear hHeldN
          refine callS (i := 12) HSZ.out (by kernel_rfl) (by kernel_rfl) rfl (fun K hK => ?_)
          refine stepL_app1 (L := LI) rowI rfl rfl _ _ rfl rfl HX6.out v6 rfl ?_ (by unfold maxLen; omega) (by omega) (by simp; omega) ?_
          · intro j u hu; show (World.alloc _ _).cell? _ = _; rw [World.cell?_alloc_at (hn := rfl)]; simpa [LI] using hu
          intro A7 c7 w7 ho7 hg7
          have hcG7 := (hg7.cell ⟨G1, a, none⟩ (by simp; omega) hnG).trans (hcH6 _)
          have hfG7 := (hg7.frozen ⟨G1, a, none⟩ (by simp; omega) hnG).trans ((((Below.refl _ w6).alloc (Nat.le_refl _) _).frozen (p := ⟨G1, a, none⟩) (by show G1 < _; omega)).trans hfG6)
          refine hK.out _ _ trivial (fun hHeldN => ?_)
          clear hK K hHeld
          try simp only [Act.put, List.setIfInBounds_toArray, List.set_cons_zero, List.set_cons_succ]
          have hHeld := hHeldN
          clear hHeldN
          refine takeS (i := 13) (v := ?_) HFR.out HNS.out HSZ.out HQP.out rfl (by kernel_rfl) (by kernel_rfl) (by decide) (by kernel_rfl) (Or.inl ⟨by rfl, ?_⟩) hHeld rfl (by dsimp only [List.set_cons_succ, List.set_cons_zero]) ?_
          rotate_left
          · intro w hSw; clear hSw; go_simp; (try with_reducible rfl)
          refine callS (i := 14) HSZ.out (by kernel_rfl) (by kernel_rfl) rfl (fun K hK => ?_)
          go_simp
          refine hK.out _ _ trivial (fun hHeldN => ?_)
          clear hK K hHeld
          try simp only [Act.put, List.setIfInBounds_toArray, List.set_cons_zero, List.set_cons_succ]
          have hHeld := hHeldN
          clear hHeldN
          refine doneS HSZ.out (by kernel_rfl) (by kernel_rfl) (NoPanic.normal ?_)
        rotate_left 3
        go_simp
        refine hK.out _ _ trivial (fun hHeldN => ?_)
        clear hK K hHeld
        try simp only [Act.put, List.setIfInBounds_toArray, List.set_cons_zero, List.set_cons_succ]
        have hHeld := hHeldN
        clear hHeldN
        refine callS (i := 9) HSZ.out (by kernel_rfl) (by kernel_rfl) rfl (fun K hK => ?_)
        go_simp
        refine hK.out _ _ trivial (fun hHeldN => ?_)
        clear hK K hHeld
        try simp only [Act.put, List.setIfInBounds_toArray, List.set_cons_zero, List.set_cons_succ]
        have hHeld := hHeldN
        clear hHeldN
        refine callS (i := 10) HSZ.out (by kernel_rfl) (by kernel_rfl) rfl (fun K hK => ?_)
        go_simp
        (go_at_call 49; (refine (amongLit_any [-1, 0, (xs.length : Int)] 3 #[.int .i64 (-1), .int .i64 0, .int .i64 (xs.length : Int)] rfl rfl (by omega) (by omega) g A c cs _ wq.drew HSd.out (by omega)).mono ?_); rintro e w6 ⟨v6, rfl, hv6, hS6, hF6⟩; have hs6 := hF6.size; (try simp at hs6); have hcG6 := (hF6.cell ⟨G1, a, none⟩ hG1l (by show G1 ≠ g; omega)).trans hDG; have hcH6 := fun (o : Obj) => (World.cell?_alloc_lt w6 o ⟨G1, a, none⟩ (by show G1 < _; omega)).trans hcG6; have hfG6 := (hF6.frozen ⟨G1, a, none⟩ hG1l (by show G1 ≠ g; omega)).trans hDF; have HX6 := Lib.hid ((hF6.own HRWd.out (fun e => by have := (hnb g e).1; omega)).alloc (.cells #[.int .i64 v6] 2)); have HR6 := Lib.hid ((hF6.ownR HRd.out (by omega)).al_ (.cells #[.int .i64 v6] 2)))
        refine hK.out _ _ trivial (fun hHeldN => ?_)
        clear hK K hHeld
        try simp only [Act.put, List.setIfInBounds_toArray, List.set_cons_zero, List.set_cons_succ]
        have hHeld := hHeldN
        clear hHeldN
        refine callS (i := 11) HSZ.out (by kernel_rfl) (by kernel_rfl) rfl (fun K hK => ?_)
        go_simp
        refine hK.out _ _ trivial (fun hHeldN => ?_)
        clear hK K hHeld
        try simp only [Act.put, List.setIfInBounds_toArray, List.set_cons_zero, List.set_cons_succ]
        have hHeld := hHeldN
        clear hHeldN
        refine callS (i := 12) HSZ.out (by kernel_rfl) (by kernel_rfl) rfl (fun K hK => ?_)
        refine stepL_app1 (L := LI) rowI rfl rfl _ _ rfl rfl HX6.out v6 rfl ?_ (by unfold maxLen; omega) (by omega) (by simp; omega) ?_
        · intro j u hu; show (World.alloc _ _).cell? _ = _; rw [World.cell?_alloc_at (hn := rfl)]; simpa [LI] using hu
        intro A7 c7 w7 ho7 hg7
        have hcG7 := (hg7.cell ⟨G1, a, none⟩ (by simp; omega) hnG).trans (hcH6 _)
        have hfG7 := (hg7.frozen ⟨G1, a, none⟩ (by simp; omega) hnG).trans ((((Below.refl _ w6).alloc (Nat.le_refl _) _).frozen (p := ⟨G1, a, none⟩) (by show G1 < _; omega)).trans hfG6)
        refine hK.out _ _ trivial (fun hHeldN => ?_)
        clear hK K hHeld
        try simp only [Act.put, List.setIfInBounds_toArray, List.set_cons_zero, List.set_cons_succ]
        have hHeld := hHeldN
        clear hHeldN
        refine takeS (i := 13) (v := ?_) HFR.out HNS.out HSZ.out HQP.out rfl (by kernel_rfl) (by kernel_rfl) (by decide) (by kernel_rfl) (Or.inl ⟨by rfl, ?_⟩) hHeld rfl (by dsimp only [List.set_cons_succ, List.set_cons_zero]) ?_
        rotate_left
        · intro w hSw; clear hSw; go_simp; (try with_reducible rfl)
        refine callS (i := 14) HSZ.out (by kernel_rfl) (by kernel_rfl) rfl (fun K hK => ?_)
        go_simp
        refine hK.out _ _ trivial (fun hHeldN => ?_)
        clear hK K hHeld
        try simp only [Act.put, List.setIfInBounds_toArray, List.set_cons_zero, List.set_cons_succ]
        have hHeld := hHeldN
        clear hHeldN
        refine doneS HSZ.out (by kernel_rfl) (by kernel_rfl) (NoPanic.normal ?_)
      all_goals
        have HR7 := Lib.hid (HR6.out.app_ (by decide) hai (A7, c7, xr ++ [v6]) ho7 (HGR.out _ _ _ hg7))
        have e7 : (xr ++ [v6]).length = xr.length + 1 := by simp
        simp only [e7] at HR7
        have hbz : Below w2.heap.size w6 (w7.setCell ⟨G1, a, none⟩ (.slice A7 (xr.length + 1) c7)) := (((Below.refl w2.heap.size w6).alloc (by omega) _).trans (hg7.below' (by simp; omega) (fun b e => (hnb b e).1))).setCell (p := ⟨G1, a, none⟩) hG1b _
        have HF7 := Lib.hid ((HFd.out.trans hF6).then_ hbz (Nat.le_refl _))
        have HS7 := Lib.hid ((hS6.belowB hbz hg2).more (show _ ≤ 80 by omega))
        clear hbz ho7 hg7 e7
        go_wp2_with fail
        go_meet
        case rel => exact ⟨_, c1, rs.set a (A7, c7, xr ++ [v6]), by simp, by simp; omega, HR7.out.rd, ⟨fun k e => (HR7.out.blk_lt.1 k e).1, fun r hr k e => (HR7.out.blk_lt.2 r hr k e).1⟩, HS7.out, HF7.out⟩
    have f0 : (q == 0) = false := by rw [beq_eq_false_iff_ne]; exact z0
    by_cases z1 : q = 1
    · subst z1
      obtain ⟨G1, rfl, hG1b, hG1l, hcG, hfG, hrow⟩ := HR.out.at_ hz
      have hcap := HR.out.out.cap
      have hle := HR.out.out.le
      rw [List.length_map] at hle
      obtain ⟨X, hX⟩ : ∃ X : Addr, X = if c1 = 1 then (⟨G1, 0, none⟩ : Addr) else (⟨G1, 0, none⟩ : Addr).add 1 := ⟨_, rfl⟩
      have HT := Lib.hid (HR.out.tail_ hX)
      have HIR : Hid (∀ r ∈ rs.drop 1, ∀ k, blk r.1 = some k → w2.heap.size ≤ k) := Lib.hid (fun r hr k e => (HR.out.blk_lt.2 r (List.mem_of_mem_drop hr) k e).1)
      have hl1 : (rs.drop 1).length = rs.length - 1 := by simp
      have h1i : (1 : Int) ≤ rs.length := by omega
      have h2i : (rs.length : Int) ≤ c1 := by omega
      have h3i : c1 ≤ 9223372036854775807 := by unfold maxLen at hcap; omega
      clear hrow hcG hfG
      by_cases hc1 : c1 = 1
      · rw [if_pos hc1] at hX
        subst hX
        go_wp2_with fail
        go_meet
        case rel => exact ⟨some ⟨G1, 0, none⟩, c1 - 1, rs.drop 1, by simp [hc1], by omega, HT.out, ⟨fun k e => by simp [blk] at e; omega, HIR.out⟩, HSc.out.more (by omega), HFc.out⟩
      · rw [if_neg hc1, add_lit] at hX
        subst hX
        go_wp2_with fail
        go_meet
        case rel => exact ⟨some ⟨G1, 1, none⟩, c1 - 1, rs.drop 1, by simp, by omega, HT.out, ⟨fun k e => by simp [blk] at e; omega, HIR.out⟩, HSc.out.more (by omega), HFc.out⟩
    have f1 : (q == 1) = false := by rw [beq_eq_false_iff_ne]; exact z1
    by_cases z2 : q = 2
    · subst z2
      have hout : Own LV 24 (wq.alloc (.cells #[] 2)) w2.heap.size A1 c1 (rs.map hd) := (HR.out.al_ _).out
      obtain ⟨L1, hL1⟩ : ∃ L, L = rs.map hd := ⟨_, rfl⟩
      have hrl : rs.length = L1.length := by rw [hL1]; simp
      have HL1 := Lib.hid hL1
      rw [← hL1] at hout
      rw [hrl]
      have hl10 : L1.length ≤ 10 := by omega
      clear hrl hL1 haii hai hzi hz
      go_wp2_with (at_builtin; go_loud (refine wpL_app1 (L := LV) rowV rfl rfl _ _ rfl rfl hout (some ⟨wq.heap.size, 0, none⟩, 0, 0) _ rfl rfl (by simp) (by unfold maxLen; omega) (by omega) (by simp; omega) ?_); intro A6 c6 w6 ho6 hg6)
      have hrow : Own LI 2 (wq.alloc (.cells #[] 2)) w2.heap.size (some ⟨wq.heap.size, 0, none⟩) 0 ([] : List Int) := Own.lit0 wq hsc rfl
      have hnb := hout.blk_lt
      have hsn : OwnR LI 24 2 w6 w2.heap.size A6 c6 (rs ++ [((some ⟨wq.heap.size, 0, none⟩, 0, []) : Row Int)]) := OwnR.snoc (r := (some ⟨wq.heap.size, 0, none⟩, 0, [])) (HR.out.al_ _) (by decide) hrow (fun s hs b h1 h2 => by have := (HR.out.blk_lt.2 s hs b h1).2; simp [blk] at h2; omega) (by
        rw [HL1.out] at ho6
        simpa [hd] using ho6) hg6
      have hbz : Below w2.heap.size wq w6 := Grew.below ((Below.refl w2.heap.size wq).alloc hsc (.cells #[] 2)) hg6 (by simp; omega) (fun b e => (hnb b e).1)
      have HR6 := Lib.hid hsn
      have HF6 := Lib.hid (HFc.out.then_ hbz (Nat.le_refl _))
      have HS6 := Lib.hid ((HSc.out.belowB hbz hg2).more (show _ ≤ 80 by omega))
      have HN6 : Hid (L1.length + 1 = (rs ++ [((some ⟨wq.heap.size, 0, none⟩, 0, []) : Row Int)]).length) := Lib.hid (by rw [HL1.out]; simp)
      clear hsn ho6 hg6 hout hrow hbz
      go_wp2_with fail
      go_meet
      case rel => exact ⟨A6, c6, _, by rw [← HN6.out], by rw [← HN6.out]; omega, HR6.out.rd, ⟨fun k e => (HR6.out.blk_lt.1 k e).1, fun r hr k e => (HR6.out.blk_lt.2 r hr k e).1⟩, HS6.out, HF6.out⟩
    have f2 : (q == 2) = false := by rw [beq_eq_false_iff_ne]; exact z2
    by_cases z3 : q = 3
    rotate_left
    · have f3 : (q == 3) = false := by rw [beq_eq_false_iff_ne]; exact z3
      go_wp2_with fail
      go_meet
      case rel => exact ⟨A1, c1, rs, rfl, by omega, HR.out.rd, ⟨fun k e => (HR.out.blk_lt.1 k e).1, fun r hr k e => (HR.out.blk_lt.2 r hr k e).1⟩, HSc.out.more (by omega), HFc.out⟩
    subst z3
    by_cases hz2 : 1 < rs.length
    rotate_left
    · have hz2i : (rs.length : Int) ≤ 1 := by omega
      go_wp2_with fail
      go_meet
      case rel => exact ⟨A1, c1, rs, rfl, by omega, HR.out.rd, ⟨fun k e => (HR.out.blk_lt.1 k e).1, fun r hr k e => (HR.out.blk_lt.2 r hr k e).1⟩, HSc.out.more (by omega), HFc.out⟩
    have hz2i : (1 : Int) < rs.length := by omega
    obtain ⟨G1, rfl, hG1b, hG1l, hcG, hfG, hrow0⟩ := HR.out.at_ hz
    obtain ⟨G1', hGG, _, _, hcG1, hfG1, hrow1⟩ := HR.out.at_ hz2
    cases hGG
    have hl0 := HRK.out _ (List.getElem_mem hz)
    have hl1 := HRK.out _ (List.getElem_mem hz2)
    obtain ⟨A0r, hA0⟩ : ∃ Ar, Ar = rs[0].1 := ⟨_, rfl⟩
    obtain ⟨c0r, hc0⟩ : ∃ cr, cr = rs[0].2.1 := ⟨_, rfl⟩
    obtain ⟨x0r, hx0⟩ : ∃ xr, xr = rs[0].2.2 := ⟨_, rfl⟩
    rw [← hA0, ← hc0, ← hx0] at hrow0
    rw [← hA0, ← hc0, ← hx0] at hcG
    rw [← hx0] at hl0
    obtain ⟨A1r, hA1⟩ : ∃ Ar, Ar = rs[1].1 := ⟨_, rfl⟩
    obtain ⟨c1r, hc1⟩ : ∃ cr, cr = rs[1].2.1 := ⟨_, rfl⟩
    obtain ⟨x1r, hx1⟩ : ∃ xr, xr = rs[1].2.2 := ⟨_, rfl⟩
    rw [← hA1, ← hc1, ← hx1] at hrow1
    rw [← hA1, ← hc1, ← hx1] at hcG1
    rw [← hx1] at hl1
    have HR0 := Lib.hid hrow0
    have HR1 : Hid (Own LI 2 wq.drew w2.heap.size A1r c1r x1r) := Lib.hid hrow1
    have HN1 : Hid (A1r = none → x1r.length = 0 ∧ c1r = 0) := Lib.hid (fun e => by
      rcases hrow1.parts with ⟨_, h2, h3⟩ | ⟨_, _, h, _⟩
      · exact ⟨by rw [h2]; rfl, h3⟩
      · rw [h] at e; cases e)
    have hDG : wq.drew.cell? ⟨G1, 0, none⟩ = some (.slice A0r x0r.length c0r) := hcG
    have hD1c : wq.drew.cell? ⟨G1, 1, none⟩ = some (.slice A1r x1r.length c1r) := hcG1
    have hDF : wq.drew.frozen? ⟨G1, 0, none⟩ = false := hfG
    clear hA0 hc0 hx0 hA1 hc1 hx1 hrow0 hrow1 hcG hfG hcG1 hfG1
    go_upto_region 23 with fail
    refine wp_region_noPanic ?_
    refine startS (S := fun W => W.cell? ⟨G1, 1, none⟩ = some (.slice A1r x1r.length c1r)) 11 (by kernel_rfl) (by kernel_rfl) hD1c (fun hHeld => ?_)
    refine withS 11 [0, 1, 2, 5, 6, 7, 9] (by as_aux_lemma => kernel_rfl) (by kernel_rfl) (by kernel_rfl) (fun _ _ _ _ _ h => h) ?_
    intro HFR HNS HSZ HQP
    refine takeS (i := 0) (v := ?_) HFR.out HNS.out HSZ.out HQP.out rfl (by kernel_rfl) (by kernel_rfl) (by decide) (by kernel_rfl) (Or.inl ⟨by rfl, ?_⟩) hHeld rfl (by dsimp only [List.set_cons_succ, List.set_cons_zero]) ?_
    rotate_left
    · intro w hSw; clear hSw; go_simp; (try with_reducible rfl)
    refine takeS (i := 1) (v := ?_) HFR.out HNS.out HSZ.out HQP.out rfl (by kernel_rfl) (by kernel_rfl) (by decide) (by kernel_rfl) (Or.inl ⟨by rfl, ?_⟩) hHeld rfl (by dsimp only [List.set_cons_succ, List.set_cons_zero]) ?_
    rotate_left
    · intro w hSw; clear hSw; go_simp; (try with_reducible rfl)
    refine takeS (i := 5) (v := ?_) HFR.out HNS.out HSZ.out HQP.out rfl (by kernel_rfl) (by kernel_rfl) (by decide) (by kernel_rfl) (Or.inl ⟨by rfl, ?_⟩) hHeld rfl (by dsimp only [List.set_cons_succ, List.set_cons_zero]) ?_
    rotate_left
    · intro w hSw; clear hSw; go_simp; (try with_reducible rfl)
    refine takeS (i := 2) (v := ?_) HFR.out HNS.out HSZ.out HQP.out rfl (by kernel_rfl) (by kernel_rfl) (by decide) (by kernel_rfl) (Or.inl ⟨by rfl, ?_⟩) hHeld rfl (by dsimp only [List.set_cons_succ, List.set_cons_zero]) ?_
    rotate_left
    · intro w hSw; clear hSw; go_simp; (try with_reducible rfl)
    refine takeS (i := 6) (v := ?_) HFR.out HNS.out HSZ.out HQP.out rfl (by kernel_rfl) (by kernel_rfl) (by decide) (by kernel_rfl) (Or.inl ⟨by rfl, ?_⟩) hHeld rfl (by dsimp only [List.set_cons_succ, List.set_cons_zero]) ?_
    rotate_left
    · intro w hSw; clear hSw; go_simp; (try with_reducible rfl)
    refine takeS (i := 7) (v := ?_) HFR.out HNS.out HSZ.out HQP.out rfl (by kernel_rfl) (by kernel_rfl) (by decide) (by kernel_rfl) (Or.inl ⟨by rfl, ?_⟩) hHeld rfl (by dsimp only [List.set_cons_succ, List.set_cons_zero]) ?_
    rotate_left
    · intro w hSw; go_simp; (try with_reducible rfl)
    refine callS (i := 3) HSZ.out (by kernel_rfl) (by kernel_rfl) rfl (fun K hK => ?_)
    go_simp
    refine hK.out _ _ hHeld (fun hHeldN => ?_)
    clear hK K hHeld
    try simp only [Act.put, List.setIfInBounds_toArray, List.set_cons_zero, List.set_cons_succ]
    have hHeld := hHeldN
    clear hHeldN
    refine callS (i := 4) HSZ.out (by kernel_rfl) (by kernel_rfl) rfl (fun K hK => ?_)
    go_simp
    (go_at_call 50; (refine (l00Own_any A0r c0r x0r wq.drew.heap.size wq.drew HR0.out.drew.rd (Nat.le_refl _) (by omega) HR0.out.nil0).mono ?_); rintro e w6 ⟨A6, c6, rfl, ho6, hb6⟩; have hs6 := hb6.size; (try simp at hs6); have hm6 := (hb6.cell (p := ⟨G1, 1, none⟩) hG1l).trans hD1c; have hcG6 := (hb6.cell (p := ⟨G1, 0, none⟩) hG1l).trans hDG; have hfG6 := (hb6.frozen (p := ⟨G1, 0, none⟩) hG1l).trans hDF; have HX6 := Lib.hid ho6)
    refine hK.out _ _ hm6 (fun hHeldN => ?_)
    clear hK K hHeld
    try simp only [Act.put, List.setIfInBounds_toArray, List.set_cons_zero, List.set_cons_succ]
    have hHeld := hHeldN
    clear hHeldN
    refine callS (i := 8) HSZ.out (by kernel_rfl) (by kernel_rfl) rfl (fun K hK => ?_)
    refine stepL_app (L := LI) rowI rfl rfl _ _ rfl x0r.length rfl rfl HX6.out A1r x1r.length c1r x1r rfl rfl HN1.out ((HR1.out.below hb6).cells_) (by unfold maxLen; omega) (by omega) (Nat.le_trans (Nat.le_refl _) hs6) ?_
    intro A7 c7 w7 ho7 hg7
    have hn7 : ∀ b, b < wq.heap.size → blk A6 ≠ some b := fun b hb e => by have := (HX6.out.blk_lt b e).1; (try simp at this); omega
    have hcG7 := (hg7.cell ⟨G1, 0, none⟩ (by show G1 < _; omega) (hn7 _ hG1l)).trans hcG6
    have hfG7 := (hg7.frozen ⟨G1, 0, none⟩ (by show G1 < _; omega) (hn7 _ hG1l)).trans hfG6
    have hm7 := (hg7.cell ⟨G1, 1, none⟩ (by show G1 < _; omega) (hn7 _ hG1l)).trans hm6
    refine hK.out _ _ hm7 (fun hHeldN => ?_)
    clear hK K hHeld
    try simp only [Act.put, List.setIfInBounds_toArray, List.set_cons_zero, List.set_cons_succ]
    have hHeld := hHeldN
    clear hHeldN
    refine takeS (i := 9) (v := ?_) HFR.out HNS.out HSZ.out HQP.out rfl (by kernel_rfl) (by kernel_rfl) (by decide) (by kernel_rfl) (Or.inl ⟨by rfl, ?_⟩) hHeld rfl (by dsimp only [List.set_cons_succ, List.set_cons_zero]) ?_
    rotate_left
    · intro w hSw; clear hSw; go_simp; (try with_reducible rfl)
    refine callS (i := 10) HSZ.out (by kernel_rfl) (by kernel_rfl) rfl (fun K hK => ?_)
    go_simp
    refine hK.out _ _ (by refine (World.cell?_setCell_other _ _ _ _ (fun e => by simp at e)).trans hm7) (fun hHeldN => ?_)
    clear hK K hHeld
    try simp only [Act.put, List.setIfInBounds_toArray, List.set_cons_zero, List.set_cons_succ]
    have hHeld := hHeldN
    clear hHeldN
    refine doneS HSZ.out (by kernel_rfl) (by kernel_rfl) (NoPanic.normal ?_)
    have hb7 : Below wq.heap.size wq.drew w7 := Grew.below hb6 hg7 hs6 (fun b e => by have := (HX6.out.blk_lt b e).1; (try simp at this); omega)
    have hs7 := hb7.size
    simp at hs7
    have hA7 : ∀ b, blk A7 = some b → wq.heap.size ≤ b := fun b e => by have := (ho7.blk_lt b e).1; (try simp at this); omega
    have hR7 := HR.out.dr_.below hb7
    have hRt := hR7.setRow (by decide) 0 (A7, c7, x0r ++ x1r) (ho7.lower (show w2.heap.size ≤ wq.drew.heap.size from hsc)) (fun j hj hne b e1 e2 => by have := (HR.out.blk_lt.2 _ (List.getElem_mem hj) b e1).2; have := hA7 b e2; omega)
    have e7 : (x0r ++ x1r).length = x0r.length + x1r.length := by simp
    simp only [e7] at hRt
    obtain ⟨w8, hw8⟩ : ∃ W, W = w7.setCell ⟨G1, 0, none⟩ (.slice A7 (x0r.length + x1r.length) c7) := ⟨_, rfl⟩
    have hb8 : Below w2.heap.size wq w8 := by
      rw [hw8]
      exact (((Below.refl w2.heap.size wq).drew).trans (hb7.mono hsc)).setCell (p := ⟨G1, 0, none⟩) hG1b _
    rw [← hw8] at hRt
    obtain ⟨rs2, hrs2⟩ : ∃ r, r = rs.set 0 ((A7, c7, x0r ++ x1r) : Row Int) := ⟨_, rfl⟩
    rw [← hrs2] at hRt
    have hl2 : rs.length = rs2.length := by rw [hrs2]; simp
    have HRt := Lib.hid hRt.dr_
    have HF8 := Lib.hid (HFc.out.then_ hb8 (Nat.le_refl _))
    have HS8 := Lib.hid ((HSc.out.belowB hb8 hg2).more (show _ ≤ 80 by omega))
    have hcap := hRt.out.cap
    have hle := hRt.out.le
    rw [List.length_map] at hle
    have HZt : Hid (w2.heap.size ≤ w8.drew.heap.size) := Lib.hid (by have := hb8.size; show w2.heap.size ≤ w8.heap.size; omega)
    obtain ⟨X, hX⟩ : ∃ X : Addr, X = if c1 = 2 then (⟨G1, 0, none⟩ : Addr) else (⟨G1, 2, none⟩ : Addr) := ⟨_, rfl⟩
    have HNW : Hid (∀ ad, some X = some ad → ∀ j u, (((rs2.map hd).drop 2).flatMap LV.f)[j]? = some u → w8.drew.cell? (ad.add j) = some u) := Lib.hid (fun ad e j u hu => by
      cases e
      have hj : j < ((rs2.map hd).drop 2).length := by
        have h9 := (List.getElem?_eq_some_iff.1 hu).1
        rw [flat_len] at h9
        simpa [LV] using h9
      have hj2 : 2 + j < (rs2.map hd).length := by simp at hj ⊢; omega
      have hc2 : ¬ c1 = 2 := by simp at hj2; omega
      rw [if_neg hc2] at hX
      subst hX
      have h10 := World.ownsRow.cells hRt.out (g := G1) rfl (2 + j) u (by
        rw [flat_val] at hu ⊢
        simpa [List.getElem?_drop] using hu)
      rw [add_lit] at h10
      show w8.cell? _ = _
      have ea : ((⟨G1, 2, none⟩ : Addr).add j) = ⟨G1, 2 + j, none⟩ := by
        unfold Addr.add
        by_cases h0 : j = 0
        · subst h0; rfl
        · rw [if_neg h0]
      rw [ea]
      exact h10)
    have hzz : 1 < rs2.length := by omega
    have h1i : (1 : Int) ≤ rs2.length := by omega
    have h2i : (2 : Int) ≤ rs2.length := by omega
    have h3i : (rs2.length : Int) ≤ c1 := by omega
    have h5i : (1 : Int) ≤ c1 := by omega
    have h6i : (2 : Int) ≤ c1 := by omega
    have h4i : c1 ≤ 9223372036854775807 := by unfold maxLen at hcap; omega
    have hr2 : rs2.length ≤ 10 := by omega
    have HHt : Hid (∀ r ∈ rs2, ∀ k, blk r.1 = some k → w2.heap.size ≤ k) := Lib.hid (fun r hr k e => (HRt.out.blk_lt.2 r hr k e).1)
    rw [hl2]
    clear hRt hR7 hb7 hb8 hs7 hA7 e7 hrs2 ho7 hg7 hHeld hs6 hb6 hm6 hcG6 hfG6 HX6 hn7 hcG7 hfG7 hm7 HR HFc HSc HR0 HR1 HN1 hDG hD1c hDF HFR HNS HSZ HQP ho6 hl2 hz hzi hz2 hz2i hai haii HRK HHi hr10 hle hcap
    go_upto_region 24 with fail
    rw [← hw8]
    clear hw8
    by_cases hc2 : c1 = 2
    · rw [if_pos hc2] at hX
      subst hX
      subst hc2
      refine wp_region_noPanic ?_
      refine startS (S := fun _ => True) 6 (by kernel_rfl) (by kernel_rfl) trivial (fun hHeld => ?_)
      refine withS 6 [0, 1, 2, 3, 5] (by as_aux_lemma => kernel_rfl) (by kernel_rfl) (by kernel_rfl) (fun _ _ _ _ _ h => h) ?_
      intro HFR HNS HSZ HQP
      refine takeS (i := 0) (v := ?_) HFR.out HNS.out HSZ.out HQP.out rfl (by kernel_rfl) (by kernel_rfl) (by decide) (by kernel_rfl) (Or.inl ⟨by rfl, ?_⟩) hHeld rfl (by dsimp only [List.set_cons_succ, List.set_cons_zero]) ?_
      rotate_left
      · intro w hSw; clear hSw; go_simp; (try with_reducible rfl)
      refine takeS (i := 2) (v := ?_) HFR.out HNS.out HSZ.out HQP.out rfl (by kernel_rfl) (by kernel_rfl) (by decide) (by kernel_rfl) (Or.inl ⟨by rfl, ?_⟩) hHeld rfl (by dsimp only [List.set_cons_succ, List.set_cons_zero]) ?_
      rotate_left
      · intro w hSw; clear hSw; go_simp; (try with_reducible rfl)
      refine takeS (i := 1) (v := ?_) HFR.out HNS.out HSZ.out HQP.out rfl (by kernel_rfl) (by kernel_rfl) (by decide) (by kernel_rfl) (Or.inl ⟨by rfl, ?_⟩) hHeld rfl (by dsimp only [List.set_cons_succ, List.set_cons_zero]) ?_
      rotate_left
      · intro w hSw; clear hSw; go_simp; (try with_reducible rfl)
      refine takeS (i := 3) (v := ?_) HFR.out HNS.out HSZ.out HQP.out rfl (by kernel_rfl) (by kernel_rfl) (by decide) (by kernel_rfl) (Or.inl ⟨by rfl, ?_⟩) hHeld rfl (by dsimp only [List.set_cons_succ, List.set_cons_zero]) ?_
      rotate_left
      · intro w hSw; clear hSw; go_simp; (try with_reducible rfl)
      refine callS (i := 4) HSZ.out (by kernel_rfl) (by kernel_rfl) rfl (fun K hK => ?_)
      refine stepL_app (L := LV) rowV rfl rfl _ _ rfl 1 (by simp; omega) rfl (HRt.out.out.take 1) (some ⟨G1, 0, none⟩) (rs2.length - 2) (2 - 2) ((rs2.map hd).drop 2) rfl (by simp) (fun e => by cases e) HNW.out (by unfold maxLen; simp; omega) (by simp; omega) HZt.out ?_
      intro A9 c9 w9 ho9 hg9
      refine hK.out _ _ trivial (fun hHeldN => ?_)
      clear hK K hHeld
      try simp only [Act.put, List.setIfInBounds_toArray, List.set_cons_zero, List.set_cons_succ]
      have hHeld := hHeldN
      clear hHeldN
      refine takeS (i := 5) (v := ?_) HFR.out HNS.out HSZ.out HQP.out rfl (by kernel_rfl) (by kernel_rfl) (by decide) (by kernel_rfl) (Or.inl ⟨by rfl, ?_⟩) hHeld rfl (by dsimp only [List.set_cons_succ, List.set_cons_zero]) ?_
      rotate_left
      · intro w hSw; clear hSw; go_simp; (try with_reducible rfl)
      refine doneS HSZ.out (by kernel_rfl) (by kernel_rfl) (NoPanic.normal ?_)
      have hls : (rs2.take 1 ++ rs2.drop 2).length = 1 + (rs2.length - 2) := by simp; omega
      have hmp : (rs2.take 1 ++ rs2.drop 2).map hd = (rs2.map hd).take 1 ++ (rs2.map hd).drop 2 := by simp
      have HR9 : Hid (RdR LI w9 w9.heap.size A9 c9 (rs2.take 1 ++ rs2.drop 2)) := Lib.hid ⟨by rw [hmp]; exact ho9.rd, fun r hr => by
        have hr3 : r ∈ rs2 := by
          rcases List.mem_append.1 hr with h | h
          · exact List.mem_of_mem_take h
          · exact List.mem_of_mem_drop h
        exact ((hg9.own (HRt.out.inn r hr3) (fun b e1 e2 => own_types HRt.out.out (HRt.out.inn r hr3) (by decide) b e2 e1)).1).rd⟩
      have HH9 : Hid (Hi w2.heap.size A9 (rs2.take 1 ++ rs2.drop 2)) := Lib.hid ⟨fun b e => (ho9.blk_lt b e).1, fun r hr => by
        rcases List.mem_append.1 hr with h | h
        · exact HHt.out r (List.mem_of_mem_take h)
        · exact HHt.out r (List.mem_of_mem_drop h)⟩
      have hbz : Below w2.heap.size w8 w9 := Grew.below ((Below.refl w2.heap.size w8).drew) hg9 HZt.out (fun b e => by simp [blk] at e; omega)
      have HF9 := Lib.hid (HF8.out.then_ hbz (Nat.le_refl _))
      have HS9 := Lib.hid (HS8.out.belowB hbz hg2)
      clear hbz ho9 hg9 hmp
      go_wp2_with fail
      go_meet
      case rel => exact ⟨A9, c9, rs2.take 1 ++ rs2.drop 2, by rw [hls, show min 1 rs2.length = 1 by omega], by rw [hls]; omega, HR9.out, HH9.out, HS9.out, HF9.out⟩
    · rw [if_neg hc2] at hX
      subst hX
      refine wp_region_noPanic ?_
      refine startS (S := fun _ => True) 6 (by kernel_rfl) (by kernel_rfl) trivial (fun hHeld => ?_)
      refine withS 6 [0, 1, 2, 3, 5] (by as_aux_lemma => kernel_rfl) (by kernel_rfl) (by kernel_rfl) (fun _ _ _ _ _ h => h) ?_
      intro HFR HNS HSZ HQP
      refine takeS (i := 0) (v := ?_) HFR.out HNS.out HSZ.out HQP.out rfl (by kernel_rfl) (by kernel_rfl) (by decide) (by kernel_rfl) (Or.inl ⟨by rfl, ?_⟩) hHeld rfl (by dsimp only [List.set_cons_succ, List.set_cons_zero]) ?_
      rotate_left
      · intro w hSw; clear hSw; go_simp; (try with_reducible rfl)
      refine takeS (i := 2) (v := ?_) HFR.out HNS.out HSZ.out HQP.out rfl (by kernel_rfl) (by kernel_rfl) (by decide) (by kernel_rfl) (Or.inl ⟨by rfl, ?_⟩) hHeld rfl (by dsimp only [List.set_cons_succ, List.set_cons_zero]) ?_
      rotate_left
      · intro w hSw; clear hSw; go_simp; (try with_reducible rfl)
      refine takeS (i := 1) (v := ?_) HFR.out HNS.out HSZ.out HQP.out rfl (by kernel_rfl) (by kernel_rfl) (by decide) (by kernel_rfl) (Or.inl ⟨by rfl, ?_⟩) hHeld rfl (by dsimp only [List.set_cons_succ, List.set_cons_zero]) ?_
      rotate_left
      · intro w hSw; clear hSw; go_simp; (try with_reducible rfl)
      refine takeS (i := 3) (v := ?_) HFR.out HNS.out HSZ.out HQP.out rfl (by kernel_rfl) (by kernel_rfl) (by decide) (by kernel_rfl) (Or.inl ⟨by rfl, ?_⟩) hHeld rfl (by dsimp only [List.set_cons_succ, List.set_cons_zero]) ?_
      rotate_left
      · intro w hSw; clear hSw; go_simp; (try with_reducible rfl)
      refine callS (i := 4) HSZ.out (by kernel_rfl) (by kernel_rfl) rfl (fun K hK => ?_)
      refine stepL_app (L := LV) rowV rfl rfl _ _ rfl 1 (by simp; omega) rfl (HRt.out.out.take 1) (some ⟨G1, 2, none⟩) (rs2.length - 2) (c1 - 2) ((rs2.map hd).drop 2) rfl (by simp) (fun e => by cases e) HNW.out (by unfold maxLen; simp; omega) (by simp; omega) HZt.out ?_
      intro A9 c9 w9 ho9 hg9
      refine hK.out _ _ trivial (fun hHeldN => ?_)
      clear hK K hHeld
      try simp only [Act.put, List.setIfInBounds_toArray, List.set_cons_zero, List.set_cons_succ]
      have hHeld := hHeldN
      clear hHeldN
      refine takeS (i := 5) (v := ?_) HFR.out HNS.out HSZ.out HQP.out rfl (by kernel_rfl) (by kernel_rfl) (by decide) (by kernel_rfl) (Or.inl ⟨by rfl, ?_⟩) hHeld rfl (by dsimp only [List.set_cons_succ, List.set_cons_zero]) ?_
      rotate_left
      · intro w hSw; clear hSw; go_simp; (try with_reducible rfl)
      refine doneS HSZ.out (by kernel_rfl) (by kernel_rfl) (NoPanic.normal ?_)
      have hls : (rs2.take 1 ++ rs2.drop 2).length = 1 + (rs2.length - 2) := by simp; omega
      have hmp : (rs2.take 1 ++ rs2.drop 2).map hd = (rs2.map hd).take 1 ++ (rs2.map hd).drop 2 := by simp
      have HR9 : Hid (RdR LI w9 w9.heap.size A9 c9 (rs2.take 1 ++ rs2.drop 2)) := Lib.hid ⟨by rw [hmp]; exact ho9.rd, fun r hr => by
        have hr3 : r ∈ rs2 := by
          rcases List.mem_append.1 hr with h | h
          · exact List.mem_of_mem_take h
          · exact List.mem_of_mem_drop h
        exact ((hg9.own (HRt.out.inn r hr3) (fun b e1 e2 => own_types HRt.out.out (HRt.out.inn r hr3) (by decide) b e2 e1)).1).rd⟩
      have HH9 : Hid (Hi w2.heap.size A9 (rs2.take 1 ++ rs2.drop 2)) := Lib.hid ⟨fun b e => (ho9.blk_lt b e).1, fun r hr => by
        rcases List.mem_append.1 hr with h | h
        · exact HHt.out r (List.mem_of_mem_take h)
        · exact HHt.out r (List.mem_of_mem_drop h)⟩
      have hbz : Below w2.heap.size w8 w9 := Grew.below ((Below.refl w2.heap.size w8).drew) hg9 HZt.out (fun b e => by simp [blk] at e; omega)
      have HF9 := Lib.hid (HF8.out.then_ hbz (Nat.le_refl _))
      have HS9 := Lib.hid (HS8.out.belowB hbz hg2)
      clear hbz ho9 hg9 hmp
      go_wp2_with fail
      go_meet
      case rel => exact ⟨A9, c9, rs2.take 1 ++ rs2.drop 2, by rw [hls, show min 1 rs2.length = 1 by omega], by rw [hls]; omega, HR9.out, HH9.out, HS9.out, HF9.out⟩
  case rest =>
  obtain ⟨A2, c2, rs2, rfl, hl11, hrd, hhi, hS, hF⟩ := hcut
  have HRD := Lib.hid hrd
  have HHI := Lib.hid hhi
  have HOw := Lib.hid (hF.own HO.out (fun e => by have := (HO.out.blk_lt g e).1; omega))
  have HF2 := Lib.hid hF
  have hgz : g < w2.heap.size := hg2
  have ho := one_any 24 g A c cs _ wc hS (by omega) (by omega)
  clear hrd hhi hS hF HO HSc HFc HR HRK HHi HOc
  go_wp2_with fail
  refine ho.mono ?_
  rintro e w5 ⟨q, rfl, hS, hF⟩
  have HRD5 := Lib.hid (hF.rdR HRD.out HHI.out hgz)
  have HO5 := Lib.hid (hF.own HOw.out (fun e => by have := (HOw.out.blk_lt g e).1; omega))
  have HF5 := Lib.hid (HF2.out.trans hF)
  have HS5 := Lib.hid hS
  clear ho hS hF HRD HOw HF2
  cases q
  · have HB5 := Lib.hid (HB2.out.trans (HF5.out.below HB2.out.size (by omega)))
    go_wp2_with fail
    exact bodyPost_ret (v := .tuple #[.slice B xs.length d, .int .i64 v, .slice A2 rs2.length c2]) (by simp [results, Try.results15, go_sem]) rfl ⟨B, d, xs, v, A2, c2, rs2, rfl, HO5.out.rd, HRD5.out, HB5.out⟩
  · have hp := pick_any 2 g A c cs _ w5.drew HS5.out.dr (by omega) (by omega)
    have hF5s := HF5.out.size
    clear HS5 HRD5
    go_upto_region 26 with fail
    refine wp_region_noPanic ?_
    refine startS (S := fun _ => True) 9 (by kernel_rfl) (by kernel_rfl) trivial (fun hHeld => ?_)
    refine withS 9 [0, 1, 2, 4, 6, 7, 8] (by as_aux_lemma => kernel_rfl) (by kernel_rfl) (by kernel_rfl) (fun _ _ _ _ _ h => h) ?_
    intro HFR HNS HSZ HQP
    refine takeS (i := 0) (v := ?_) HFR.out HNS.out HSZ.out HQP.out rfl (by kernel_rfl) (by kernel_rfl) (by decide) (by kernel_rfl) (Or.inl ⟨by rfl, ?_⟩) hHeld rfl (by dsimp only [List.set_cons_succ, List.set_cons_zero]) ?_
    rotate_left
    · intro w hSw; clear hSw; go_simp; (try with_reducible rfl)
    refine takeS (i := 1) (v := ?_) HFR.out HNS.out HSZ.out HQP.out rfl (by kernel_rfl) (by kernel_rfl) (by decide) (by kernel_rfl) (Or.inl ⟨by rfl, ?_⟩) hHeld rfl (by dsimp only [List.set_cons_succ, List.set_cons_zero]) ?_
    rotate_left
    · intro w hSw; clear hSw; go_simp; (try with_reducible rfl)
    refine takeS (i := 2) (v := ?_) HFR.out HNS.out HSZ.out HQP.out rfl (by kernel_rfl) (by kernel_rfl) (by decide) (by kernel_rfl) (Or.inl ⟨by rfl, ?_⟩) hHeld rfl (by dsimp only [List.set_cons_succ, List.set_cons_zero]) ?_
    rotate_left
    · intro w hSw; clear hSw; go_simp; (try with_reducible rfl)
    refine callS (i := 3) HSZ.out (by kernel_rfl) (by kernel_rfl) rfl (fun K hK => ?_)
    go_simp
    (go_at_call 48; (refine hp.mono ?_); rintro e w6 ⟨y, rfl, y0, y1, hS6, hF6⟩; obtain ⟨N, hN⟩ : ∃ N : Nat, (N : Int) = 100 + y := ⟨(100 + y).toNat, by omega⟩; have eN : IntKind.i64.wrap (100 + y) = (N : Int) := (by rw [hN]; exact wrapS (by omega) (by omega)); have hN2 : N ≤ 101 := by omega)
    refine hK.out _ _ trivial (fun hHeldN => ?_)
    clear hK K hHeld
    try simp only [Act.put, List.setIfInBounds_toArray, List.set_cons_zero, List.set_cons_succ]
    have hHeld := hHeldN
    clear hHeldN
    refine takeS (i := 4) (v := ?_) HFR.out HNS.out HSZ.out HQP.out rfl (by kernel_rfl) (by kernel_rfl) (by decide) (by kernel_rfl) (Or.inl ⟨by rfl, ?_⟩) hHeld rfl (by dsimp only [List.set_cons_succ, List.set_cons_zero]) ?_
    rotate_left
    · intro w hSw; clear hSw; go_simp; (try with_reducible rfl)
    refine takeS (i := 6) (v := ?_) HFR.out HNS.out HSZ.out HQP.out rfl (by kernel_rfl) (by kernel_rfl) (by decide) (by kernel_rfl) (Or.inl ⟨by rfl, ?_⟩) hHeld rfl (by dsimp only [List.set_cons_succ, List.set_cons_zero]) ?_
    rotate_left
    · intro w hSw; clear hSw; go_simp; (try with_reducible rfl)
    refine takeS (i := 7) (v := ?_) HFR.out HNS.out HSZ.out HQP.out rfl (by kernel_rfl) (by kernel_rfl) (by decide) (by kernel_rfl) (Or.inl ⟨by rfl, ?_⟩) hHeld rfl (by dsimp only [List.set_cons_succ, List.set_cons_zero]) ?_
    rotate_left
    · intro w hSw; clear hSw; go_simp; (try with_reducible rfl)
    refine callS (i := 5) HSZ.out (by kernel_rfl) (by kernel_rfl) rfl (fun K hK => ?_)
    refine stepL_make (L := LV) rowV rfl _ _ rfl .i64 .i64 _ _ N rfl rfl hN.symm hN.symm (by omega) (by unfold maxLen; omega) (none, 0, 0) rfl ?_
    intro w8 hown8 hb8
    refine hK.out _ _ trivial (fun hHeldN => ?_)
    clear hK K hHeld
    try simp only [Act.put, List.setIfInBounds_toArray, List.set_cons_zero, List.set_cons_succ]
    have hHeld := hHeldN
    clear hHeldN
    refine takeS (i := 8) (v := ?_) HFR.out HNS.out HSZ.out HQP.out rfl (by kernel_rfl) (by kernel_rfl) (by decide) (by kernel_rfl) (Or.inl ⟨by rfl, ?_⟩) hHeld rfl (by dsimp only [List.set_cons_succ, List.set_cons_zero]) ?_
    rotate_left
    · intro w hSw; clear hSw; go_simp; (try with_reducible rfl)
    refine doneS HSZ.out (by kernel_rfl) (by kernel_rfl) (NoPanic.normal ?_)
    have HO8 := Lib.hid ((hF6.own (show Own LI 2 w5.drew w1.heap.size B d xs from HO5.out) (fun e => by have := (HO5.out.blk_lt g e).1; omega)).rd.below hb8)
    have hs8 := hb8.size
    have HO9 := Lib.hid (HO8.out.more hs8)
    have HB8 := Lib.hid (HB2.out.trans (((HF5.out.drew.trans hF6).then_ hb8 (by have := hF6.size; simp at this; omega)).below HB2.out.size (by omega)))
    have HR8 : Hid (RdR LI w8 w8.heap.size (some ⟨w6.heap.size, 0, none⟩) N (List.replicate N ((none, 0, []) : Row Int))) := Lib.hid ⟨by simpa [hd] using hown8.rd, fun r hr => by rw [List.eq_of_mem_replicate hr]; exact Rd.nil (Nat.zero_le _)⟩
    clear hF6 hS6 hb8 hown8 hN eN
    go_wp2_with fail
    exact bodyPost_ret (v := .tuple #[.slice B xs.length d, .int .i64 v, .slice (some ⟨w6.heap.size, 0, none⟩) N N]) (by simp [results, Try.results15, go_sem]) rfl ⟨B, d, xs, v, some ⟨w6.heap.size, 0, none⟩, N, List.replicate N (none, 0, []), by simp, HO9.out, HR8.out, HB8.out⟩
end Go.Proofs.Ytcookepklcbfeaa
