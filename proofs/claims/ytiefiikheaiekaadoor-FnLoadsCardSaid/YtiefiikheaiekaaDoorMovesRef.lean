/-
  The reference's search: the walk.
-/
import Derived.Test.YtiefiikheaiekaaDoorMovesSome
import Derived.Test.YtiefiikheaiekaaDoorMovesSet
import Derived.Test.YtiefiikheaiekaaDoorYardI
import Derived.Test.YtiefiikheaiekaaDoorSched
namespace Go.Proofs.YtiefiikheaiekaaDoor
open Go.ChangeShapes Go.WideShapes Go.RowKit

theorem Rd.tlA {w : World} {B c : Nat} {ad : Addr} {xs : List Int} (h : Rd LI w B (some ad) c xs) (h0 : 0 < xs.length) {X : Addr} (hX : X = if c = 1 then ad else ad.add 1) : Rd LI w B (some X) (c - 1) (xs.drop 1) := by
  have hle := h.le
  have hcap := h.cap
  refine ⟨by simp; omega, by omega, fun i hi => ?_⟩
  have hi2 : 1 + i < xs.length := by simp at hi ⊢; omega
  obtain ⟨ad', e, hb, hc⟩ := h.at_ (1 + i) hi2
  cases e
  have hc1 : ¬ c = 1 := by omega
  rw [if_neg hc1] at hX
  subst hX
  refine ⟨_, rfl, by rw [block_of_add]; exact hb, fun j u hu => ?_⟩
  rw [add_of_add]
  have := hc j u (by simpa [Nat.add_comm] using hu)
  rw [show (1 + i) * LI.sz + j = 1 + (i * LI.sz + j) by simp [LI]; omega] at this
  exact this
theorem own_nil0 {α : Type} {L : Lay α} {T : TypeId} {w : World} {base c : Nat} {A : Option Addr} {xs : List α} (h : Own L T w base A c xs) (e : A = none) : c = 0 := by
  rcases h.parts with ⟨_, _, h⟩ | ⟨_, _, h, _⟩
  · exact h
  · rw [e] at h
    cases h
theorem find_hit {α : Type} {f : Nat → Option α} {n i : Nat} {a : α} (hno : ∀ j, j < i → f j = none) (h : f i = some a) (hi : i < n) : (List.range n).findSome? f = some a := by
  obtain ⟨j, b, hj, hb, he, _⟩ := find_first f n i hi h
  by_cases e : j = i
  · subst e
    rw [he, ← hb, h]
  · rw [hno j (by omega)] at hb
    cases hb
theorem find_miss {α : Type} {f : Nat → Option α} {n : Nat} (hno : ∀ j, j < n → f j = none) : (List.range n).findSome? f = none :=
  List.findSome?_eq_none_iff.2 fun x hx => hno x (List.mem_range.1 hx)
theorem nextK_hit {X : List (List Int)} {p : Int} {m : Nat} (h : m < X.length) (hno : ∀ y ∈ X.take m, (topL y == p) = false) (hp : topL X[m] = p) : nextK X p = some m := by
  unfold nextK
  rw [List.findIdx?_eq_some_iff_getElem]
  refine ⟨h, by simp [hp], fun j hj => ?_⟩
  rw [hno (X[j]'(by omega)) (by rw [List.mem_take_iff_getElem]; exact ⟨j, by omega, rfl⟩)]
  simp
theorem nextK_miss {X : List (List Int)} {p : Int} (hno : ∀ y ∈ X, (topL y == p) = false) : nextK X p = none := by
  unfold nextK
  rw [List.findIdx?_eq_none_iff]
  exact hno
theorem tlL_vyM {X : List (List Int)} (h : vyB X = true) : tlL X ≤ 1048576 := by
  rw [← tlL_flat]
  have := (dB_true h).2.1
  omega
theorem srch_cons {f : Nat} {X : List (List Int)} {p : Int} {r : List Int} {more : Nat} {last : Int} (h : ¬ more < wayX (p :: r) X) : srch (f + 1) X (p :: r) more last = match nextK X p with
      | some k => (srch f (mvX X k (-1)) r more (-1)).map (((k : Int), -1) :: ·)
      | none => tryAll X more last (fun Y l => srch f Y (p :: r) (more - 1) l) (List.range X.length) := by
  conv => lhs; unfold srch
  rw [if_neg h]
  cases nextK X p <;> rfl
def SrR (f : Nat) (X : List (List Int)) (o : List Int) (more : Nat) (last : Int) (w : World) (e : Ending) (w' : World) : Prop :=
  ∃ (A1 : Option Addr) (c1 : Nat) (L : List (Int × Int)), e = .returned (.tuple #[.slice A1 L.length c1, .bool (srch f X o more last).isSome]) ∧ Own LMove 45 w' w.heap.size A1 c1 L ∧ L.length ≤ f ∧ (∀ M, srch f X o more last = some M → L = M) ∧ Below w.heap.size w w'
def SrAt (f : Nat) : Prop := ∀ (A : Option Addr) (c : Nat) (rs : List (Row Int)) (Ao : Option Addr) (co : Nat) (o : List Int) (more : Nat) (last : Int) (w : World), RdR LI w w.heap.size A c rs → (∀ r ∈ rs, r.1 = none → r.2.1 = 0) → Rd LI w w.heap.size Ao co o → Inv (dat rs) o → more + o.length ≤ f → f ≤ 1000 → I64 last →
  Calls Tryd.prog 51 #[.slice A rs.length c, .slice Ao o.length co, .int .i64 more, .int .i64 last] w (SrR f (dat rs) o more last w)

set_option maxRecDepth 100000 in
set_option maxHeartbeats 3200000 in
theorem search_nil (f : Nat) (A : Option Addr) (c : Nat) (rs : List (Row Int)) (Ao : Option Addr) (co : Nat) (more : Nat) (last : Int) (w : World) :
    Calls Tryd.prog 51 #[.slice A rs.length c, .slice Ao 0 co, .int .i64 more, .int .i64 last] w (SrR f (dat rs) [] more last w) := by
  have HF := Lib.hid (show srch f (dat rs) [] more last = some [] by cases f <;> rfl)
  unfold SrR
  rw [HF.out]
  go_enter Tryd.func51, Tryd.ntmps51
  go_wp2_with fail
  go_ret2
  exact ⟨some ⟨w.heap.size, 0, none⟩, 0, [], rfl, Own.lit0 w (Nat.le_refl _) rfl, Nat.zero_le _, (fun M h => by cases h; rfl), (Below.refl _ w).alloc (Nat.le_refl _) _⟩
set_option maxRecDepth 100000 in
set_option maxHeartbeats 3200000 in
theorem search_cons {f : Nat} (IH : SrAt f) (A : Option Addr) (c : Nat) (rs : List (Row Int)) (Ao : Option Addr) (co : Nat) (o : List Int) (p : Int) (r : List Int) (hop : o = p :: r) (more : Nat) (last : Int) (w : World) (hr : RdR LI w w.heap.size A c rs) (hnil : ∀ r ∈ rs, r.1 = none → r.2.1 = 0) (ho : Rd LI w w.heap.size Ao co o) (hv : Inv (dat rs) o) (hf : more + o.length ≤ f + 1) (hf2 : f + 1 ≤ 1000) (hl : I64 last) :
    Calls Tryd.prog 51 #[.slice A rs.length c, .slice Ao o.length co, .int .i64 more, .int .i64 last] w (SrR (f + 1) (dat rs) o more last w) := by
  have HIH := Lib.hid IH
  have hlen := hr.len63
  have HX := Lib.hid (dat_len rs)
  have hol : 0 < o.length := by rw [hop]; simp
  have hol0 : (0 : Int) < o.length := by omega
  have hol1 : (1 : Int) ≤ o.length := by omega
  obtain ⟨ado, rfl, hadb, hc0⟩ := ho.int (k := 0) hol
  have h00 : o[0] = p := by simp [hop]
  have hado : ado.add 0 = ado := by simp [Addr.add]
  rw [h00, hado] at hc0
  clear h00 hado
  have hole := ho.len63
  obtain ⟨R, hR⟩ : ∃ R, R = srch (f + 1) (dat rs) o more last := ⟨_, rfl⟩
  have HR0 := Lib.hid hR
  obtain ⟨vr4, vr6⟩ := vy_rows hv.vy
  rw [dat_len] at vr4
  have HV := Lib.hid hv
  have hrb : ∀ s ∈ rs, s.2.2.length ≤ 6 := fun s hs => vr6 _ (List.mem_map.2 ⟨s, hs, rfl⟩)
  have HRB := Lib.hid hrb
  have HRR := Lib.hid hr
  have HRO := Lib.hid ho
  have HNIL := Lib.hid hnil
  have HOP := Lib.hid hop
  obtain ⟨hl1, hl2⟩ := hl
  have hwy := fun W h1 h2 => l20Way_any A c rs (some ado) co o w.heap.size W h1 (tlL_vyM hv.vy) h2
  unfold SrR
  rw [← hR]
  clear hR hv hrb hr ho hnil vr6 hop IH
  by_cases hw : more < wayX o (dat rs)
  · have HR : Hid (R = none) := Lib.hid (by rw [HR0.out, HOP.out]; unfold srch; rw [if_pos (by rw [← HOP.out]; exact hw)])
    rw [HR.out]
    generalize wayX o (dat rs) = way at *
    have hwi : (more : Int) < way := by omega
    clear hw
    go_enter Tryd.func51, Tryd.ntmps51
    go_wp2_with fail
    refine (hwy _ HRR.out HRO.out).mono ?_
    rintro e w1 ⟨rfl, rfl⟩
    go_wp2_with fail
    go_ret2
    exact ⟨none, 0, [], rfl, Own.none_, Nat.zero_le _, (fun M h => by cases h), Below.refl _ _⟩
  · have HR1 : Hid (R = match nextK (dat rs) p with
      | some k => (srch f (mvX (dat rs) k (-1)) r more (-1)).map (((k : Int), -1) :: ·)
      | none => tryAll (dat rs) more last (fun Y l => srch f Y (p :: r) (more - 1) l) (List.range (dat rs).length)) := Lib.hid (by rw [HR0.out, HOP.out]; exact srch_cons (by rw [← HOP.out]; exact hw))
    generalize wayX o (dat rs) = way at *
    have hwi : (way : Int) ≤ more := by omega
    have hwd : decide (more < way) = false := decide_eq_false (by omega)
    clear hw HR0
    go_enter Tryd.func51, Tryd.ntmps51
    go_wp2_with fail
    refine (hwy _ HRR.out HRO.out).mono ?_
    rintro e w1 ⟨rfl, rfl⟩
    clear hwy
    go_wp2_with fail
    go_loopw [10] (fun i wr => ∃ m : Nat, m ≤ rs.length ∧ i = .int .i64 m ∧ Hid (∀ y ∈ (dat rs).take m, (topL y == p) = false) ∧ Dr w wr) (fun i _ => rs.length - (intOf i).toNat)
    case atStart => exact ⟨0, by omega, rfl, Lib.hid (by simp), Dr.refl _⟩
    case round =>
      obtain ⟨m, hm, rfl, Hno, hdr⟩ := hrel
      have hbw := hdr.below (B := w.heap.size)
      have hszw : w.heap.size ≤ wr.heap.size := hbw.size
      have HDR := Lib.hid hdr
      have HRW := Lib.hid (HRR.out.below hbw)
      have HOW := Lib.hid (HRO.out.below hbw)
      have hc0w := (hbw.cell hadb).trans hc0
      clear hdr hbw hc0
      by_cases hlt : m < rs.length
      · have hmi : (m : Int) < rs.length := by omega
        obtain ⟨ad, rfl, hab, hcell, hrow⟩ := HRW.out.at_ hlt
        have hmd : m < (dat rs).length := by rw [HX.out]; exact hlt
        have HGM := Lib.hid (dat_get rs m hlt)
        have htp := fun n => l20TopY_any rs[m].1 rs[m].2.1 rs[m].2.2 w.heap.size (wr.drewN n) (hrow.drewN n)
        obtain ⟨tz, htz⟩ : ∃ tz, tz = topL rs[m].2.2 := ⟨_, rfl⟩
        have HTZ : Hid (topL (dat rs)[m] = tz) := Lib.hid (by rw [HGM.out, htz])
        rw [← htz] at htp
        generalize rs[m].2.2 = zs at *
        generalize rs[m].1 = Az at *
        generalize rs[m].2.1 = cz at *
        clear htz hrow
        by_cases hto : tz = p
        · have y1 : (tz == p) = true := by rw [beq_iff_eq]; exact hto
          have HK : Hid (nextK (dat rs) p = some m) := Lib.hid (nextK_hit hmd Hno.out (by rw [HTZ.out]; exact hto))
          have HVL : Hid (Inv (mvX (dat rs) m (-1)) r) := Lib.hid (by have h := HV.out; rw [HOP.out] at h; exact (h.load HK.out).1)
          have HNX := Lib.hid (by have h := HV.out; rw [HOP.out] at h; exact h.next HK.out)
          have HR2 := Lib.hid (by have h := HR1.out; rw [HK.out] at h; exact h)
          clear hto
          go_wp2_with fail
          go_quiet ((go_at_call 43; exact quiet_left (htp _)))
          obtain ⟨wd, hwd⟩ : ∃ wd, wd = wr.drewN nq := ⟨_, rfl⟩
          rw [← hwd]
          have hdw : Dr w wd := by rw [hwd]; exact HDR.out.step _
          have hbd := hdw.below (B := w.heap.size)
          have hszd : w.heap.size ≤ wd.heap.size := hbd.size
          have HBD := Lib.hid hbd
          clear hwd hdw hbd hcell hc0w htp y1
          go_upto_region 10 with fail
          have hm0 : (wd.alloc (.cells #[.int .i64 m, .int .i64 (-1)] 45)).cell? ⟨wd.heap.size, 0, none⟩ = some (.int .i64 m) := by go_simp
          have hm1 : (wd.alloc (.cells #[.int .i64 m, .int .i64 (-1)] 45)).cell? ⟨wd.heap.size, 1, none⟩ = some (.int .i64 (-1)) := by go_simp
          obtain ⟨w1, hw1⟩ : ∃ w1, w1 = wd.alloc (.cells #[.int .i64 m, .int .i64 (-1)] 45) := ⟨_, rfl⟩
          have hb1 : Below w.heap.size w w1 := by rw [hw1]; exact HBD.out.alloc hszd _
          have hs1 : wd.heap.size < w1.heap.size := by rw [hw1]; simp
          rw [← hw1] at hm0 hm1 ⊢
          have HR3 := Lib.hid ((HRR.out.below hb1).more hb1.size)
          have HO3 := Lib.hid ((HRO.out.below hb1).more hb1.size)
          have HB1 := Lib.hid hb1
          have hmv := fun W (h : RdR LI W W.heap.size (some ad) c rs) => l20Move_any (some ad) c rs m (-1) W h HNIL.out (by omega) (fun s hs => by have := HRB.out s hs; omega) (mvOk_off (X := dat rs) (f := m) HNX.out.1 HNX.out.2.2)
          have hdl : (o.drop 1).length = o.length - 1 := by simp
          have hdr1 : o.drop 1 = r := by rw [HOP.out]; rfl
          have hIH : ∀ (X : Addr) (A3 : Option Addr) (c3 : Nat) (os : List (Row Int)) (W : World), (X = if co = 1 then ado else ado.add 1) → RdR LI W W.heap.size A3 c3 os → (∀ r ∈ os, r.1 = none → r.2.1 = 0) → dat os = mvX (dat rs) m (-1) → Rd LI W W.heap.size (some ado) co o →
              Calls Tryd.prog 51 #[.slice A3 os.length c3, .slice (some X) (o.length - 1) (co - 1), .int .i64 more, .int .i64 (-1)] W (SrR f (mvX (dat rs) m (-1)) r more (-1) W) := fun X A3 c3 os W hX h1 h2 h3 h4 => by
            have h := HIH.out A3 c3 os (some X) (co - 1) (o.drop 1) more (-1) W h1 h2 (h4.tlA hol hX) (by rw [h3, hdr1]; exact HVL.out) (by rw [hdl]; omega) (by omega) (by unfold I64; omega)
            rw [hdl, hdr1, h3] at h
            exact h
          clear hw1 hb1 hdl hdr1
          by_cases hc1 : co = 1
          · subst hc1
            have hq := fun A3 c3 os W => hIH ado A3 c3 os W (by rw [if_pos rfl])
            rw [Nat.sub_self] at hq
            clear hIH
            go_region_law (first
              | (go_simp; go_at_call 44; (with_reducible refine (hmv _ HR3.out.drew).mono ?_); rintro e w3 ⟨A3, c3, os, rfl, ho3, hd3, hb3⟩; have hs3 := hb3.size; have HR4 := Lib.hid ho3.rd; have HN4 := Lib.hid (nil_of ho3); have HO4 := Lib.hid ((HO3.out.drew.below hb3).more hb3.size); have HD4 := Lib.hid hd3)
              | (go_simp; go_at_call 51; (with_reducible refine (hq A3 c3 os _ HR4.out HN4.out HD4.out HO4.out).mono ?_); rintro e w4 ⟨A4, c4, L4, rfl, ho4, hl4, hm4, hb4⟩; have hs4 := hb4.size))
            all_goals
              have hm0' : w4.cell? ⟨wd.heap.size, 0, none⟩ = some (.int .i64 m) := (hb4.cell (p := ⟨wd.heap.size, 0, none⟩) (by show wd.heap.size < _; simp at hs3; omega)).trans ((hb3.cell (p := ⟨wd.heap.size, 0, none⟩) (by show wd.heap.size < w1.heap.size; omega)).trans hm0)
              have hm1' : w4.cell? ⟨wd.heap.size, 1, none⟩ = some (.int .i64 (-1)) := (hb4.cell (p := ⟨wd.heap.size, 1, none⟩) (by show wd.heap.size < _; simp at hs3; omega)).trans ((hb3.cell (p := ⟨wd.heap.size, 1, none⟩) (by show wd.heap.size < w1.heap.size; omega)).trans hm1)
              have HB4 := Lib.hid (bthen (bthen HB1.out.drew (Nat.le_refl _) hb3) (Nat.le_refl _) hb4)
              have HFL := Lib.hid ((ho4.rd.alloc (Nat.le_refl _) (.cells #[.int .i64 m, .int .i64 (-1)] 45)).flat)
              have HNO := Lib.hid (fun (e : A4 = none) => show L4.length = 0 ∧ c4 = 0 from ⟨by subst e; rw [ho4.rd.none_len]; rfl, own_nil0 ho4 e⟩)
              have HM4 := Lib.hid hm4
              have hg4 : wd.heap.size < w4.heap.size := by simp at hs3; omega
              obtain ⟨S, hS⟩ : ∃ S, S = srch f (mvX (dat rs) m (-1)) r more (-1) := ⟨_, rfl⟩
              rw [← hS] at HR2 HM4
              rw [← hS]
              have HRS : Hid (R.isSome = S.isSome) := Lib.hid (by rw [HR2.out, Option.isSome_map])
              clear hm4 hb3 hb4 ho3 hd3 hm0 hm1 hS HR1 hmv hq
              go_wp2_with (at_builtin; go_loud (refine wpL_app (L := LMove) rowMv rfl rfl _ _ rfl rfl (Own.lit (L := LMove) (T := 45) (base := w4.heap.size) (g := w4.heap.size) w4 (Nat.le_refl _) rfl [((m : Int), -1)] #[.int .i64 m, .int .i64 (-1)] 1 rfl (by unfold maxLen; omega) rfl) A4 L4.length c4 L4 rfl rfl HNO.out HFL.out (by unfold maxLen; simp; omega) (by simp; omega) (by simp) ?_); intro A5 c5 w5 ho5 hg5)
              go_ret2
              exact ⟨A5, c5, ((m : Int), -1) :: L4, by rw [HRS.out]; rfl, ho5.lower (by have := HB4.out.size; omega), by simp only [List.length_cons]; omega, (fun M hM => by rw [HR2.out, Option.map_eq_some_iff] at hM; obtain ⟨M2, h1, rfl⟩ := hM; rw [HM4.out M2 h1]), Grew.below (HB4.out.alloc HB4.out.size _) hg5 (by have := HB4.out.size; simp; omega) (fun b hb => by simp [blk] at hb; have := HB4.out.size; omega)⟩
          · have hq := fun A3 c3 os W => hIH ⟨ado.block, ado.off + 1, none⟩ A3 c3 os W (by rw [if_neg hc1]; simp [Addr.add])
            clear hIH
            go_region_law (first
              | (go_simp; go_at_call 44; (with_reducible refine (hmv _ HR3.out.drew).mono ?_); rintro e w3 ⟨A3, c3, os, rfl, ho3, hd3, hb3⟩; have hs3 := hb3.size; have HR4 := Lib.hid ho3.rd; have HN4 := Lib.hid (nil_of ho3); have HO4 := Lib.hid ((HO3.out.drew.below hb3).more hb3.size); have HD4 := Lib.hid hd3)
              | (go_simp; go_at_call 51; (with_reducible refine (hq A3 c3 os _ HR4.out HN4.out HD4.out HO4.out).mono ?_); rintro e w4 ⟨A4, c4, L4, rfl, ho4, hl4, hm4, hb4⟩; have hs4 := hb4.size))
            all_goals
              have hm0' : w4.cell? ⟨wd.heap.size, 0, none⟩ = some (.int .i64 m) := (hb4.cell (p := ⟨wd.heap.size, 0, none⟩) (by show wd.heap.size < _; simp at hs3; omega)).trans ((hb3.cell (p := ⟨wd.heap.size, 0, none⟩) (by show wd.heap.size < w1.heap.size; omega)).trans hm0)
              have hm1' : w4.cell? ⟨wd.heap.size, 1, none⟩ = some (.int .i64 (-1)) := (hb4.cell (p := ⟨wd.heap.size, 1, none⟩) (by show wd.heap.size < _; simp at hs3; omega)).trans ((hb3.cell (p := ⟨wd.heap.size, 1, none⟩) (by show wd.heap.size < w1.heap.size; omega)).trans hm1)
              have HB4 := Lib.hid (bthen (bthen HB1.out.drew (Nat.le_refl _) hb3) (Nat.le_refl _) hb4)
              have HFL := Lib.hid ((ho4.rd.alloc (Nat.le_refl _) (.cells #[.int .i64 m, .int .i64 (-1)] 45)).flat)
              have HNO := Lib.hid (fun (e : A4 = none) => show L4.length = 0 ∧ c4 = 0 from ⟨by subst e; rw [ho4.rd.none_len]; rfl, own_nil0 ho4 e⟩)
              have HM4 := Lib.hid hm4
              have hg4 : wd.heap.size < w4.heap.size := by simp at hs3; omega
              obtain ⟨S, hS⟩ : ∃ S, S = srch f (mvX (dat rs) m (-1)) r more (-1) := ⟨_, rfl⟩
              rw [← hS] at HR2 HM4
              rw [← hS]
              have HRS : Hid (R.isSome = S.isSome) := Lib.hid (by rw [HR2.out, Option.isSome_map])
              clear hm4 hb3 hb4 ho3 hd3 hm0 hm1 hS HR1 hmv hq
              go_wp2_with (at_builtin; go_loud (refine wpL_app (L := LMove) rowMv rfl rfl _ _ rfl rfl (Own.lit (L := LMove) (T := 45) (base := w4.heap.size) (g := w4.heap.size) w4 (Nat.le_refl _) rfl [((m : Int), -1)] #[.int .i64 m, .int .i64 (-1)] 1 rfl (by unfold maxLen; omega) rfl) A4 L4.length c4 L4 rfl rfl HNO.out HFL.out (by unfold maxLen; simp; omega) (by simp; omega) (by simp) ?_); intro A5 c5 w5 ho5 hg5)
              go_ret2
              exact ⟨A5, c5, ((m : Int), -1) :: L4, by rw [HRS.out]; rfl, ho5.lower (by have := HB4.out.size; omega), by simp only [List.length_cons]; omega, (fun M hM => by rw [HR2.out, Option.map_eq_some_iff] at hM; obtain ⟨M2, h1, rfl⟩ := hM; rw [HM4.out M2 h1]), Grew.below (HB4.out.alloc HB4.out.size _) hg5 (by have := HB4.out.size; simp; omega) (fun b hb => by simp [blk] at hb; have := HB4.out.size; omega)⟩
        · have y1 : (tz == p) = false := by rw [beq_eq_false_iff_ne]; exact hto
          go_wp2_with fail
          go_quiet ((go_at_call 43; exact quiet_left (htp _)))
          go_wp2_with fail
          go_roundw
          case rel =>
            refine ⟨m + 1, by omega, by go_num, Lib.hid ?_, HDR.out.step _⟩
            rw [List.take_succ_eq_append_getElem hmd]
            intro y hy
            rcases List.mem_append.1 hy with h | h
            · exact Hno.out y h
            · simp at h; rw [h, HTZ.out]; exact y1
          case measure => simp [intOf]; omega
      · have HK : Hid (nextK (dat rs) p = none) := Lib.hid (nextK_miss (by have := Hno.out; rw [List.take_of_length_le (by rw [HX.out]; omega)] at this; exact this))
        have HRZ : Hid (R = tryAll (dat rs) more last (fun Y l => srch f Y o (more - 1) l) (List.range rs.length)) := Lib.hid (by have h := HR1.out; rw [HK.out, HX.out, ← HOP.out] at h; exact h)
        have HB0 := Lib.hid (HDR.out.below (B := w.heap.size))
        clear HR1 HRW HOW hc0w
        go_wp2_with fail
        go_loopw [14] (fun i wz => ∃ a : Nat, a ≤ rs.length ∧ i = .int .i64 a ∧ Hid (∀ j, j < a → tryRow (dat rs) more last (fun Y l => srch f Y o (more - 1) l) j (List.range rs.length) = none) ∧ Hid (Below w.heap.size w wz)) (fun i _ => rs.length - (intOf i).toNat)
        case atStart => exact ⟨0, by omega, rfl, Lib.hid (fun j hj => by omega), HB0⟩
        case round =>
          obtain ⟨a, ha, rfl, Hna, HBz⟩ := hrel
          by_cases hal : a < rs.length
          · have hali : (a : Int) < rs.length := by omega
            obtain ⟨wo, rfl⟩ : ∃ wo : World, wo = wr := ⟨_, rfl⟩
            go_wp2_with fail
            go_loopw [15] (fun i wz => ∃ k : Nat, k ≤ rs.length ∧ i = .int .i64 k ∧ Hid (∀ j, j < k → tryAt (dat rs) more last (fun Y l => srch f Y o (more - 1) l) a j = none) ∧ Hid (Below w.heap.size w wz)) (fun i _ => rs.length - (intOf i).toNat)
            case atStart => exact ⟨0, by omega, rfl, Lib.hid (fun j hj => by omega), HBz⟩
            case round =>
              obtain ⟨k, hk, rfl, Hnk, HBk⟩ := hrel
              by_cases hkl : k < rs.length
              · have hkli : (k : Int) < rs.length := by omega
                have hszk : w.heap.size ≤ wr.heap.size := HBk.out.size
                have hb1 : Below w.heap.size w (wr.alloc (.cells #[.int .i64 a, .int .i64 k] 45)) := HBk.out.alloc hszk _
                have HR3 := Lib.hid ((HRR.out.below hb1).more hb1.size)
                have hmay := l20May_any A c rs a k (wr.alloc (.cells #[.int .i64 a, .int .i64 k] 45)).heap.size (wr.alloc (.cells #[.int .i64 a, .int .i64 k] 45)) HR3.out (Nat.le_refl _) (by omega)
                have HB1 := Lib.hid hb1
                clear hb1
                have CONT : tryAt (dat rs) more last (fun Y l => srch f Y o (more - 1) l) a k = none → Hid (∀ j, j < k + 1 → tryAt (dat rs) more last (fun Y l => srch f Y o (more - 1) l) a j = none) := fun h => Lib.hid (fun j hj => by
                  by_cases e : j = k
                  · subst e; exact h
                  · exact Hnk.out j (by omega))
                have HCONT := Lib.hid CONT
                clear CONT
                cases hok : mvOk (dat rs) a k
                · rw [hok] at hmay
                  have HN := HCONT.out (by unfold tryAt; rw [if_neg (by rw [hok]; simp)])
                  clear hok
                  go_wp2_with fail
                  refine hmay.mono ?_
                  rintro e w2 ⟨rfl, hb2⟩
                  have HB2 := Lib.hid (bthen HB1.out (Nat.le_refl _) hb2)
                  clear hmay hb2
                  go_wp2_with fail
                  go_roundw
                  case rel =>
                    exact ⟨k + 1, by omega, by go_num, HN, HB2⟩
                  case measure => simp [intOf]; omega
                · rw [hok] at hmay
                  have HOK := Lib.hid hok
                  clear hok
                  by_cases hm0 : more = 0
                  · have HN := HCONT.out (by unfold tryAt; rw [if_neg (by intro h; exact h.2.1 hm0)])
                    have z1 : ((more : Int) == 0) = true := by rw [beq_iff_eq]; omega
                    clear hm0
                    go_wp2_with fail
                    refine hmay.mono ?_
                    rintro e w2 ⟨rfl, hb2⟩
                    have HB2 := Lib.hid (bthen HB1.out (Nat.le_refl _) hb2)
                    clear hmay hb2
                    go_wp2_with fail
                    go_roundw
                    case rel => exact ⟨k + 1, by omega, by go_num, HN, HB2⟩
                    case measure => simp [intOf]; omega
                  · have z1 : ((more : Int) == 0) = false := by rw [beq_eq_false_iff_ne]; omega
                    by_cases hla : (a : Int) = last
                    · have HN := HCONT.out (by unfold tryAt; rw [if_neg (by intro h; exact h.2.2 hla)])
                      have z2 : ((a : Int) == last) = true := by rw [beq_iff_eq]; exact hla
                      clear hla
                      go_wp2_with fail
                      refine hmay.mono ?_
                      rintro e w2 ⟨rfl, hb2⟩
                      have HB2 := Lib.hid (bthen HB1.out (Nat.le_refl _) hb2)
                      clear hmay hb2
                      go_wp2_with fail
                      go_roundw
                      case rel => exact ⟨k + 1, by omega, by go_num, HN, HB2⟩
                      case measure => simp [intOf]; omega
                    · have z2 : ((a : Int) == last) = false := by rw [beq_eq_false_iff_ne]; exact hla
                      have HTA : Hid (tryAt (dat rs) more last (fun Y l => srch f Y o (more - 1) l) a k = (srch f (mvX (dat rs) a k) o (more - 1) k).map (((a : Int), (k : Int)) :: ·)) := Lib.hid (by unfold tryAt; rw [if_pos ⟨HOK.out, hm0, hla⟩])
                      have hm1i : (1 : Int) ≤ more := by omega
                      have hwm : IntKind.i64.wrap ((more : Int) - 1) = (more : Int) - 1 := wrapS (by omega) (by omega)
                      clear hla hm0
                      go_wp2_with fail
                      refine hmay.mono ?_
                      rintro e w2 ⟨rfl, hb2⟩
                      have HB2 := Lib.hid (bthen HB1.out (Nat.le_refl _) hb2)
                      have c0 : w2.cell? ⟨wr.heap.size, 0, none⟩ = some (.int .i64 a) := (hb2.cell (p := ⟨wr.heap.size, 0, none⟩) (by simp)).trans (by go_simp)
                      have c1 : w2.cell? ⟨wr.heap.size, 1, none⟩ = some (.int .i64 k) := (hb2.cell (p := ⟨wr.heap.size, 1, none⟩) (by simp)).trans (by go_simp)
                      have hs2 := hb2.size
                      simp at hs2
                      have HR4 := Lib.hid ((HRR.out.below HB2.out).more HB2.out.size)
                      have HO4 := Lib.hid ((HRO.out.below HB2.out).more HB2.out.size)
                      have hmv := l20Move_any A c rs a k w2 HR4.out HNIL.out (by omega) (fun s hs => by have := HRB.out s hs; omega) HOK.out
                      clear hmay hb2
                      go_wp2_with fail
                      refine hmv.mono ?_
                      rintro e w3 ⟨A3, c3, os, rfl, ho3, hd3, hb3⟩
                      have hs3 := hb3.size
                      have d0 := (hb3.cell (p := ⟨wr.heap.size, 0, none⟩) (by show wr.heap.size < _; omega)).trans c0
                      have d1 := (hb3.cell (p := ⟨wr.heap.size, 1, none⟩) (by show wr.heap.size < _; omega)).trans c1
                      have hq := HIH.out A3 c3 os (some ado) co o (more - 1) k w3 ho3.rd (nil_of ho3) ((HO4.out.below hb3).more hb3.size) (by rw [hd3]; exact HV.out.move (by rw [HX.out]; exact hal) (by rw [HX.out]; exact hkl) HOK.out) (by omega) (by omega) (by unfold I64; omega)
                      rw [show ((more - 1 : Nat) : Int) = (more : Int) - 1 by omega, hd3] at hq
                      have HB3 := Lib.hid (bthen HB2.out (Nat.le_refl _) hb3)
                      clear hmv hb3 ho3 hd3 c0 c1
                      go_wp2_with fail
                      refine hq.mono ?_
                      rintro e w4 ⟨A4, c4, L4, rfl, ho4, hl4, hm4, hb4⟩
                      have hs4 := hb4.size
                      have HB4 := Lib.hid (bthen HB3.out (Nat.le_refl _) hb4)
                      have e0 := (hb4.cell (p := ⟨wr.heap.size, 0, none⟩) (by show wr.heap.size < _; omega)).trans d0
                      have e1 := (hb4.cell (p := ⟨wr.heap.size, 1, none⟩) (by show wr.heap.size < _; omega)).trans d1
                      clear hq hb4 d0 d1
                      cases hS : srch f (mvX (dat rs) a k) o (more - 1) k with
                      | none =>
                        have HN := HCONT.out (by rw [HTA.out, hS]; rfl)
                        clear hm4 hS ho4
                        go_wp2_with fail
                        go_roundw
                        case rel => exact ⟨k + 1, by omega, by go_num, HN, HB4⟩
                        case measure => simp [intOf]; omega
                      | some M4 =>
                        obtain rfl := hm4 M4 hS
                        have HRT : Hid (tryRow (dat rs) more last (fun Y l => srch f Y o (more - 1) l) a (List.range rs.length) = some (((a : Int), (k : Int)) :: L4)) := Lib.hid (find_hit Hnk.out (by rw [HTA.out, hS]; rfl) hkl)
                        have HRF : Hid (R = some (((a : Int), (k : Int)) :: L4)) := Lib.hid (by rw [HRZ.out]; unfold tryAll; rw [HX.out]; exact find_hit (f := fun i => tryRow (dat rs) more last (fun Y l => srch f Y o (more - 1) l) i (List.range rs.length)) Hna.out HRT.out hal)
                        have HFL := Lib.hid ((ho4.rd.alloc (Nat.le_refl _) (.cells #[.int .i64 a, .int .i64 k] 45)).flat)
                        have HNO := Lib.hid (fun (e : A4 = none) => show L4.length = 0 ∧ c4 = 0 from ⟨by subst e; rw [ho4.rd.none_len]; rfl, own_nil0 ho4 e⟩)
                        clear hm4 hS ho4
                        go_wp2_with (at_builtin; go_loud (refine wpL_app (L := LMove) rowMv rfl rfl _ _ rfl rfl (Own.lit (L := LMove) (T := 45) (base := w4.heap.size) (g := w4.heap.size) w4 (Nat.le_refl _) rfl [((a : Int), (k : Int))] #[.int .i64 a, .int .i64 k] 1 rfl (by unfold maxLen; omega) rfl) A4 L4.length c4 L4 rfl rfl HNO.out HFL.out (by unfold maxLen; simp; omega) (by simp; omega) (by simp) ?_); intro A5 c5 w5 ho5 hg5)
                        go_ret2
                        exact ⟨A5, c5, ((a : Int), (k : Int)) :: L4, by rw [HRF.out]; rfl, ho5.lower (by have := HB4.out.size; omega), by simp only [List.length_cons]; omega, (fun M hM => by rw [HRF.out] at hM; exact Option.some.inj hM), Grew.below (HB4.out.alloc HB4.out.size _) hg5 (by have := HB4.out.size; simp; omega) (fun b hb => by simp [blk] at hb; have := HB4.out.size; omega)⟩
              · have HRT : Hid (tryRow (dat rs) more last (fun Y l => srch f Y o (more - 1) l) a (List.range rs.length) = none) := Lib.hid (find_miss (fun j hj => Hnk.out j (by omega)))
                go_wp2_with fail
                go_roundw
                case rel =>
                  refine ⟨a + 1, by omega, by go_num, Lib.hid (fun j hj => ?_), HBk⟩
                  by_cases e : j = a
                  · subst e; exact HRT.out
                  · exact Hna.out j (by omega)
                case measure => simp [intOf]; omega
          · have HRF : Hid (R = none) := Lib.hid (by rw [HRZ.out]; unfold tryAll; rw [HX.out]; exact find_miss (f := fun i => tryRow (dat rs) more last (fun Y l => srch f Y o (more - 1) l) i (List.range rs.length)) (fun j hj => Hna.out j (by omega)))
            go_wp2_with fail
            go_ret2
            exact ⟨none, 0, [], by rw [HRF.out]; rfl, Own.none_, Nat.zero_le _, (fun M h => by rw [HRF.out] at h; cases h), HBz.out⟩
theorem l20Search_any : ∀ f : Nat, SrAt f
  | 0 => fun A c rs Ao co o more last w hr hn ho hv hf hf2 hl => by
    obtain rfl : o = [] := List.length_eq_zero_iff.1 (by omega)
    exact search_nil 0 A c rs Ao co more last w
  | f + 1 => fun A c rs Ao co o more last w hr hn ho hv hf hf2 hl => by
    cases ho2 : o with
    | nil => exact search_nil (f + 1) A c rs Ao co more last w
    | cons p r =>
      rw [← ho2]
      exact search_cons (l20Search_any f) A c rs Ao co o p r ho2 more last w hr hn ho hv hf hf2 hl
end Go.Proofs.YtiefiikheaiekaaDoor
