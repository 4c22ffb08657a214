/-
  ShortestRound of the reference: the search over all rounds.
-/
import Derived.Test.YtcookepklcbfeaaRound
import Derived.Test.YtcookepklcbfeaaTripFault
import Derived.RegionTactic
namespace Go.Proofs.Ytcookepklcbfeaa
open Go.ChangeShapes Go.WideShapes Go.RowKit

structure RS (w : World) (base g : Nat) (Aw : Option Addr) (cw : Nat) (rs : List (Row Int)) (Al : Option Addr) (cl : Nat) (xs : List Int) (least : Int) (Au : Option Addr) (cu : Nat) (U : List Bool) : Prop where
  c0 : w.cell? ⟨g, 0, none⟩ = some (.slice Aw rs.length cw)
  c1 : w.cell? ⟨g, 1, none⟩ = some (.slice Al xs.length cl)
  c2 : w.cell? ⟨g, 2, none⟩ = some (.int .i64 least)
  f2 : w.frozen? ⟨g, 2, none⟩ = false
  rm : RdR LI w base Aw cw rs
  rl : Rd LI w base Al cl xs
  ou : Own LB 4 w base Au cu U
  gu : blk Au ≠ some g
  g0 : base ≤ g
  g1 : g < w.heap.size
section
variable {w w' : World} {base g cw cl cu : Nat} {Aw Al Au : Option Addr} {rs : List (Row Int)} {xs : List Int} {U : List Bool} {least : Int}
theorem RS.drewN (h : RS w base g Aw cw rs Al cl xs least Au cu U) (n : Nat) : RS (w.drewN n) base g Aw cw rs Al cl xs least Au cu U :=
  ⟨h.c0, h.c1, h.c2, h.f2, ⟨h.rm.out.drewN n, fun r hr => (h.rm.inn r hr).drewN n⟩, h.rl.drewN n, h.ou.drewN n, h.gu, h.g0, h.g1⟩
theorem cell_setW {w : World} {g i j : Nat} (v : Value) (hij : j ≠ i) : (w.setCell ⟨g, i, none⟩ v).cell? ⟨g, j, none⟩ = w.cell? ⟨g, j, none⟩ := World.cell?_setCell_other w _ _ v (fun e => hij (by injection e with _ h _; exact h.symm))
theorem cell_setV {w : World} {g g' i j : Nat} (v : Value) (hij : g ≠ g') : (w.setCell ⟨g', i, none⟩ v).cell? ⟨g, j, none⟩ = w.cell? ⟨g, j, none⟩ := World.cell?_setCell_other w _ _ v (fun e => hij (by injection e with h _ _; exact h.symm))
theorem RS.setLeast (h : RS w base g Aw cw rs Al cl xs least Au cu U) (v : Int) : RS (w.setCell ⟨g, 2, none⟩ (.int .i64 v)) base g Aw cw rs Al cl xs v Au cu U := by
  refine ⟨by rw [cell_setW _ (by omega)]; exact h.c0, by rw [cell_setW _ (by omega)]; exact h.c1, ?_, by simpa using h.f2, h.rm.below ((Below.refl base w).setCell h.g0 _), h.rl.setCell h.g0 _, h.ou.setFar h.gu _, h.gu, h.g0, by have := h.g1; simpa using this⟩
  have := h.c2
  exact World.cell?_setCell_same' _ _ _ (by rw [this]; rfl)
theorem RS.setU {gu : Nat} (h : RS w base g Aw cw rs Al cl xs least (some ⟨gu, 0, none⟩) cu U) (k : Nat) (v : Bool) : RS (w.setCell ⟨gu, k, none⟩ (.bool v)) base g Aw cw rs Al cl xs least (some ⟨gu, 0, none⟩) cu (U.set k v) := by
  have hne : g ≠ gu := fun e => h.gu (by rw [e]; rfl)
  have hb := (h.ou.blk_lt gu rfl).1
  exact ⟨by rw [cell_setV _ hne]; exact h.c0, by rw [cell_setV _ hne]; exact h.c1, by rw [cell_setV _ hne]; exact h.c2, by simpa using h.f2, h.rm.below ((Below.refl base w).setCell hb _), h.rl.setCell hb _, h.ou.setBool k v, h.gu, h.g0, by have := h.g1; simpa using this⟩
end
theorem WkR.hi {X : List (List Int)} (hv : VR X) {sum a : Int} {l : List Int} {least v : Int} (h : WkR (DD X) sum a l least v) : v ≤ least ∨ v ≤ sum + 256000 * (l.length + 1) := by
  rcases h.how with e | ⟨L, t, e⟩
  · exact .inl (by omega)
  · have := t.le (fun a b => (DD_bd hv a b).2)
    exact .inr (by omega)
theorem WkI.hi {X : List (List Int)} (hv : VR X) {sum a : Int} {xs : List Int} {us : List Bool} {k : Nat} {least v : Int} (h : WkI (DD X) sum a xs us k least v) : v ≤ least ∨ v ≤ sum + 256000 * ((unL xs us).length + 1) := by
  rcases h.how with e | ⟨L, t, e⟩
  · exact .inl (by omega)
  · have := t.le (fun a b => (DD_bd hv a b).2)
    exact .inr (by omega)
theorem unL_set_len {xs : List Int} {us : List Bool} {i : Nat} (hi : i < xs.length) (h : us[i]? = some false) : (unL xs us).length = (unL xs (us.set i true)).length + 1 := by
  have := (unL_set hi h).length_eq
  simpa using this

set_option maxRecDepth 100000 in
set_option maxHeartbeats 6400000 in
theorem rwalk_any (X : List (List Int)) (hv : VR X) (base g : Nat) (Aw : Option Addr) (cw : Nat) (rs : List (Row Int)) (Al : Option Addr) (cl : Nat) (xs : List Int) (hd : dat rs = mat X.length (Dw X)) (hp : ∀ p ∈ xs, 0 ≤ p ∧ p < X.length) (hx8 : xs.length ≤ 8) (m : Nat) :
    ∀ (w : World) (i n : Nat) (sum least : Int) (Au : Option Addr) (cu : Nat) (U : List Bool), U.length = xs.length → (unL xs U).length = m → n + m = xs.length → i < X.length → 0 ≤ sum → sum ≤ 256000 * n → -1 ≤ least → least ≤ 256000 * 20 → RS w base g Aw cw rs Al cl xs least Au cu U →
      Calls Try.prog 67 #[.pointer (some ⟨g, 0, none⟩), .int .i64 i, .int .i64 sum, .slice Au U.length cu, .int .i64 n] w fun e w' => e = .returned (.tuple #[]) ∧ ∃ v, WkR (DD X) sum i (unL xs U) least v ∧ RS w' base g Aw cw rs Al cl xs v Au cu U ∧ Below base w w' := by
  have hX0 := hv.1.1
  have hX8 := hv.1.2
  have HV := Lib.hid hv
  have HP := Lib.hid hp
  have HD := Lib.hid hd
  have hrs : rs.length = X.length := by rw [← dat_len, hd, mat_len]
  have hr1 : X.length ≤ rs.length := by omega
  have hr2 : rs.length ≤ 8 := by omega
  clear hv hp hd hrs
  induction m with
  | zero =>
    intro w i n sum least Au cu U hU hm hnm hi hs0 hs1 hl0 hl1 hT
    have hun : unL xs U = [] := List.length_eq_zero_iff.1 hm
    have HUN := Lib.hid hun
    have k0 := hT.c0
    have k1 := hT.c1
    have k2 := hT.c2
    have hf2 := hT.f2
    have hg1 := hT.g1
    by_cases hpr : 0 ≤ least ∧ least ≤ sum
    · have HW := Lib.hid (WkR.prune (D := DD X) (a := (i : Int)) (l := unL xs U) hpr.1 hpr.2)
      obtain ⟨p1, p2⟩ := hpr
      have HT := Lib.hid hT
      clear hT hun
      go_enter Try.func67, Try.ntmps67
      go_wp2_with fail
      refine bodyPost_ret (v := .tuple #[]) (by simp [results, Try.results67, go_sem]) rfl ⟨rfl, least, HW.out, HT.out, Below.refl _ _⟩
    · obtain ⟨ad, Ak, ck, rfl, hab, hc1, hkb, hc2⟩ := hT.rm.matAt HD.out hi hX0
      have hc2' : w.cell? Ak = some (.int .i64 (Dw X i 0)) := by
        have : Ak.add 0 = Ak := by unfold Addr.add; simp
        rw [this] at hc2; exact hc2
      have HDD : Hid (DD X i 0 = Dw X i 0) := Lib.hid (by
        have := DD_in X hi hX0
        rwa [show ((0 : Nat) : Int) = 0 from rfl] at this)
      obtain ⟨d0, d1⟩ := Dw_bd HV.out hi hX0
      have hii : (i : Int) < rs.length := by omega
      have hil : i < rs.length := by omega
      have hXp : (0 : Int) < X.length := by omega
      have hz : ((n : Int) == (xs.length : Int)) = true := by rw [beq_iff_eq]; omega
      have hzn : (n == xs.length) = true := by rw [beq_iff_eq]; omega
      have HT := Lib.hid hT
      have hcase : least < 0 ∨ (0 ≤ least ∧ sum < least) := by omega
      clear hc2 hT hun hpr
      generalize Dw X i 0 = d at *
      have hwr : IntKind.i64.wrap (sum + d) = sum + d := wrapS (by omega) (by omega)
      by_cases hd0 : 0 ≤ d
      · have e1 : decide (0 ≤ d) = true := by simpa using hd0
        rcases hcase with hc | ⟨hc, hcs⟩
        · have e2 : decide (least < 0) = true := by simpa using hc
          have HW : Hid (WkR (DD X) sum i (unL xs U) least (sum + d)) := Lib.hid (by rw [HUN.out, ← HDD.out]; exact WkR.fin hl0 hs0 (by rw [HDD.out]; exact hd0) (.inl hc))
          have HT2 := Lib.hid (fun j : Nat => (HT.out.drewN j).setLeast (sum + d))
          go_enter Try.func67, Try.ntmps67
          go_wp2_with fail
          go_quiet (fail)
          go_wp2_with fail
          refine bodyPost_ret (v := .tuple #[]) (by simp [results, Try.results67, go_sem]) rfl ⟨rfl, sum + d, HW.out, HT2.out _, (below_drewN (Below.refl _ _) _).setCell HT.out.g0 _⟩
        · have e2 : decide (least < 0) = false := by simp; omega
          by_cases hlt : sum + d < least
          · have e3 : decide (sum + d < least) = true := by simpa using hlt
            have HW : Hid (WkR (DD X) sum i (unL xs U) least (sum + d)) := Lib.hid (by rw [HUN.out, ← HDD.out]; exact WkR.fin hl0 hs0 (by rw [HDD.out]; exact hd0) (.inr (by rw [HDD.out]; exact hlt)))
            have HT2 := Lib.hid (fun j : Nat => (HT.out.drewN j).setLeast (sum + d))
            go_enter Try.func67, Try.ntmps67
            go_wp2_with fail
            go_quiet (fail)
            go_wp2_with fail
            refine bodyPost_ret (v := .tuple #[]) (by simp [results, Try.results67, go_sem]) rfl ⟨rfl, sum + d, HW.out, HT2.out _, (below_drewN (Below.refl _ _) _).setCell HT.out.g0 _⟩
          · have e3 : decide (sum + d < least) = false := by simpa using hlt
            have HW : Hid (WkR (DD X) sum i (unL xs U) least least) := Lib.hid (by rw [HUN.out]; exact WkR.finNo hl0 (.inr ⟨hc, by rw [HDD.out]; omega⟩))
            go_enter Try.func67, Try.ntmps67
            go_wp2_with fail
            go_quiet (fail)
            go_wp2_with fail
            refine bodyPost_ret (v := .tuple #[]) (by simp [results, Try.results67, go_sem]) rfl ⟨rfl, least, HW.out, HT.out.drewN _, below_drewN (Below.refl _ _) _⟩
      · have e1 : decide (0 ≤ d) = false := by simpa using hd0
        have hd1 : d < 0 := by omega
        have HW : Hid (WkR (DD X) sum i (unL xs U) least least) := Lib.hid (by rw [HUN.out]; exact WkR.finNo hl0 (.inl (by rw [HDD.out]; exact hd0)))
        rcases hcase with hc | ⟨hc, hcs⟩
        all_goals
          go_enter Try.func67, Try.ntmps67
          go_wp2_with fail
          go_quiet (fail)
          go_wp2_with fail
          refine bodyPost_ret (v := .tuple #[]) (by simp [results, Try.results67, go_sem]) rfl ⟨rfl, least, HW.out, HT.out.drewN _, below_drewN (Below.refl _ _) _⟩
  | succ m ih =>
    intro w i n sum least Au cu U hU hm hnm hi hs0 hs1 hl0 hl1 hT
    have k0 := hT.c0
    have k1 := hT.c1
    have k2 := hT.c2
    have hg1 := hT.g1
    by_cases hpr : 0 ≤ least ∧ least ≤ sum
    · have HW := Lib.hid (WkR.prune (D := DD X) (a := (i : Int)) (l := unL xs U) hpr.1 hpr.2)
      obtain ⟨p1, p2⟩ := hpr
      have HT := Lib.hid hT
      clear hT
      go_enter Try.func67, Try.ntmps67
      go_wp2_with fail
      refine bodyPost_ret (v := .tuple #[]) (by simp [results, Try.results67, go_sem]) rfl ⟨rfl, least, HW.out, HT.out, Below.refl _ _⟩
    · have hcase : least < 0 ∨ (0 ≤ least ∧ sum < least) := by omega
      have hz : ((n : Int) == (xs.length : Int)) = false := by rw [beq_eq_false_iff_ne]; omega
      have hzn : (n == xs.length) = false := by rw [beq_eq_false_iff_ne]; omega
      have hUp : 0 < U.length := by omega
      obtain ⟨gu, rfl, _, _⟩ := hT.ou.ptr hUp
      have HT := Lib.hid hT
      have HU := Lib.hid hU
      have HM := Lib.hid hm
      have HIH := Lib.hid ih
      have hn8 : n < xs.length := by omega
      have hneu : unL xs U ≠ [] := by intro e; rw [e] at hm; simp at hm
      have HNE := Lib.hid hneu
      have hu1 : U.length ≤ xs.length := by omega
      have hu2 : xs.length ≤ U.length := by omega
      clear hT hpr hU hm ih hneu
      rcases hcase with hc | ⟨hc, hc2⟩
      all_goals
        go_enter Try.func67, Try.ntmps67
        go_wp2_with fail
        go_loopw [10] (fun j wr => ∃ (k : Nat) (cur : Int), k ≤ xs.length ∧ j = .int .i64 k ∧ Hid (WkI (DD X) sum i xs U k least cur) ∧ Hid (RS wr base g Aw cw rs Al cl xs cur (some ⟨gu, 0, none⟩) cu U) ∧ Hid (Below base w wr)) (fun j _ => xs.length - (intOf j).toNat)
        case atStart => exact ⟨0, least, by omega, rfl, Lib.hid (WkI.start hl0), HT, Lib.hid (Below.refl _ _)⟩
        case round =>
          clear k0 k1 k2 hg1
          obtain ⟨k, cur, hk, rfl, HI, HT1, HB⟩ := hrel
          have k0 := HT1.out.c0
          have k1 := HT1.out.c1
          have hg1 := HT1.out.g1
          have hlo := HI.out.lo
          have hhi : cur ≤ 256000 * 20 := by
            rcases HI.out.hi HV.out with h | h
            · omega
            · rw [HM.out] at h; omega
          by_cases hlt : k < xs.length
          · have hki : (k : Int) < xs.length := by omega
            obtain ⟨al, rfl, hal, hck⟩ := HT1.out.rl.int hlt
            obtain ⟨q, hq⟩ : ∃ q : Nat, xs[k] = (q : Int) := ⟨xs[k].toNat, by have := HP.out _ (List.getElem_mem hlt); omega⟩
            have hqX : q < X.length := by have := HP.out _ (List.getElem_mem hlt); omega
            have hqXi : (q : Int) < X.length := by omega
            rw [hq] at hck
            have HQ := Lib.hid hq
            have hkU : k < U.length := by omega
            have hkUi : (k : Int) < U.length := by omega
            obtain ⟨gu', hg', hgu1, hgu2, hcu, hfu⟩ := HT1.out.ou.bool hkU
            cases hg'
            obtain ⟨aw, Ak, ck, rfl, hab, hc1, hkb, hc2m⟩ := HT1.out.rm.matAt HD.out hi hqX
            have hii : (i : Int) < rs.length := by omega
            have hil : i < rs.length := by omega
            have HDD := Lib.hid (DD_in X hi hqX)
            obtain ⟨d0, d1⟩ := Dw_bd HV.out hi hqX
            have hgg : g ≠ gu := fun e => HT1.out.gu (by rw [e]; rfl)
            have hn1 : (aw.add i).block ≠ gu := by rw [block_of_add]; omega
            have hn2 : (Ak.add q).block ≠ gu := by rw [block_of_add]; omega
            have hn3 : (al.add k).block ≠ gu := by rw [block_of_add]; omega
            generalize Dw X i q = d at *
            clear hq
            have hUk : U[k]? = some U[k] := List.getElem?_eq_getElem hkU
            have HUK := Lib.hid hUk
            clear hUk
            cases hub : U[k]
            · rw [hub] at hcu HUK
              by_cases hdn : d < 0
              · have HI2 := Lib.hid (HI.out.skip hlt (fun _ => by rw [HQ.out, HDD.out]; omega))
                go_wp2_with fail
                go_roundw
                case rel => exact ⟨k + 1, cur, by omega, by go_num, HI2, HT1, HB⟩
                case measure => simp [intOf]; omega
              · have hd2 : 0 ≤ d := by omega
                have hwr : IntKind.i64.wrap (sum + d) = sum + d := wrapS (by omega) (by omega)
                have HT2 := Lib.hid (HT1.out.setU k true)
                have HUL : Hid ((unL xs (U.set k true)).length = m) := Lib.hid (by have := unL_set_len hlt HUK.out; have := HM.out; omega)
                have hcall := HIH.out (wr.setCell ⟨gu, k, none⟩ (.bool true)) q (n + 1) (sum + d) cur (some ⟨gu, 0, none⟩) cu (U.set k true) (by rw [List.length_set]; exact HU.out) HUL.out (by omega) hqX (by omega) (by omega) hlo hhi HT2.out
                rw [List.length_set] at hcall
                have HB2 := Lib.hid (HB.out.setCell (p := ⟨gu, k, none⟩) (by exact hgu1) (.bool true))
                have hc1' := (World.cell?_setCell_other wr ⟨gu, k, none⟩ (aw.add i) (.bool true) (fun e => hn1 (by first | rw [e] | rw [← e]))).trans hc1
                have hc2' := (World.cell?_setCell_other wr ⟨gu, k, none⟩ (Ak.add q) (.bool true) (fun e => hn2 (by first | rw [e] | rw [← e]))).trans hc2m
                have hnn : ((n + 1 : Nat) : Int) = (n : Int) + 1 := by omega
                rw [hnn] at hcall
                clear hnn hub
                go_wp2_with fail
                refine hcall.mono ?_
                rintro e w2 ⟨rfl, v2, hW2, hT2, hb2⟩
                have HW2 := Lib.hid hW2
                have HT3 := Lib.hid hT2
                have HB3 := Lib.hid (HB2.out.trans hb2)
                obtain ⟨gu', hg', _, hgu3, hcu3, hfu3⟩ := hT2.ou.bool (k := k) (by simpa using hkU)
                cases hg'
                have HT4 : Hid (RS (w2.setCell ⟨gu, k, none⟩ (.bool false)) base g (some aw) cw rs (some al) cl xs v2 (some ⟨gu, 0, none⟩) cu U) := Lib.hid (by
                  have h := HT3.out.setU k false
                  rw [List.set_set] at h
                  have e : U.set k false = U := by
                    have h0 := HUK.out
                    rw [List.getElem?_eq_getElem hkU] at h0
                    have h1 : U.set k (U[k]'hkU) = U := by simp
                    rw [Option.some.inj h0] at h1
                    exact h1
                  rwa [e] at h)
                clear hcall hW2 hT2 hb2 hcu
                go_wp2_with fail
                go_roundw
                case rel => exact ⟨k + 1, v2, by omega, by go_num, Lib.hid (HI.out.step hlt HUK.out (by rw [HQ.out, HDD.out]; exact hd2) (by rw [HQ.out, HDD.out]; exact HW2.out)), HT4, Lib.hid (HB3.out.setCell (p := ⟨gu, k, none⟩) (by exact hgu1) _)⟩
                case measure => simp [intOf]; omega
            · rw [hub] at hcu HUK
              have HI2 := Lib.hid (HI.out.skip hlt (fun h => by rw [HUK.out] at h; cases h))
              clear hub
              go_wp2_with fail
              go_roundw
              case rel => exact ⟨k + 1, cur, by omega, by go_num, HI2, HT1, HB⟩
              case measure => simp [intOf]; omega
          · obtain rfl : k = xs.length := by omega
            have HW := Lib.hid (HI.out.done HNE.out)
            go_wp2_with fail
            refine bodyPost_end (v := .tuple #[]) (by simp [results, Try.results67, go_sem]) rfl ⟨rfl, cur, HW.out, HT1.out, HB.out⟩

set_option maxRecDepth 100000 in
set_option maxHeartbeats 3200000 in
theorem specShortestRound_any (A : Option Addr) (c : Nat) (qs : List (Row Int)) (Al : Option Addr) (cl : Nat) (xs : List Int) (w : World) (hr : RdR LI w w.heap.size A c qs) (hrl : Rd LI w w.heap.size Al cl xs) :
    Calls Try.prog 31 #[.slice A qs.length c, .slice Al xs.length cl] w fun e w' => e = .returned (.tuple #[.int .i64 (srP (dat qs) xs).1, .int .i64 (srP (dat qs) xs).2]) ∧ Below w.heap.size w w' := by
  have hlen := hr.len63
  have hcv := l21Roads_any A c qs w hr
  cases hv : vrB (dat qs)
  · have HP : Hid (srP (dat qs) xs = (0, 1)) := Lib.hid (by unfold srP; rw [if_neg (by simp [hv])])
    rw [hv] at hcv
    simp only [HP.out]
    go_enter Try.func31, Try.ntmps31
    go_wp2_with fail
    refine hcv.mono ?_
    rintro e w1 ⟨rfl, hb1⟩
    go_wp2_with fail
    go_ret2
    exact ⟨rfl, hb1⟩
  have HV := Lib.hid (dB_true hv)
  have Hv := Lib.hid hv
  rw [hv] at hcv
  clear hv
  have hl8 : qs.length ≤ 8 := by have := HV.out.1.2; rw [dat_len] at this; exact this
  have hX : (dat qs).length = qs.length := dat_len qs
  have hris := fun W (h : Rd LI W w.heap.size Al cl xs) => l00Rises_any Al cl xs 0 ((qs.length : Int) - 1) _ W h
  cases hri : risB 0 ((qs.length : Int) - 1) xs
  · have HP : Hid (srP (dat qs) xs = (0, 2)) := Lib.hid (by unfold srP; rw [if_pos Hv.out, hX, hri]; rfl)
    simp only [HP.out]
    rw [hri] at hris
    clear hri HP hX
    go_enter Try.func31, Try.ntmps31
    go_wp2_with fail
    refine hcv.mono ?_
    rintro e w1 ⟨rfl, hb1⟩
    go_wp2_with fail
    refine (hris _ (by first | exact hrl.below hb1 | exact hrl.below hb1.below)).mono ?_
    rintro e w2 ⟨rfl, hb2⟩
    have HB : Hid (Below w.heap.size w w2) := Lib.hid (by first | exact hb1.trans hb2.below | exact hb1.below.trans hb2.below)
    clear hb1 hb2
    go_wp2_with fail
    go_ret2
    exact ⟨rfl, HB.out⟩
  have HP : Hid (srP (dat qs) xs = if mnV (DD (dat qs)) 0 xs < 0 then (0, 3) else (mnV (DD (dat qs)) 0 xs, 0)) := Lib.hid (by unfold srP; rw [if_pos Hv.out, hX, hri]; rfl)
  have hR := dB_true hri
  have hxl : xs.length ≤ 8 := by have := hR.len; omega
  have HPX : Hid (∀ p ∈ xs, 0 ≤ p ∧ p < (dat qs).length) := Lib.hid (fun p hp => by
    obtain ⟨i, hi, rfl⟩ := List.getElem_of_mem hp
    have := (hR i hi).1
    omega)
  rw [hri] at hris
  have HX := Lib.hid hX
  clear hri hR hX
  obtain ⟨FIN, hFIN⟩ : ∃ F, F = srP (dat qs) xs := ⟨_, rfl⟩
  rw [← hFIN]
  have HFN : Hid (FIN = if mnV (DD (dat qs)) 0 xs < 0 then (0, 3) else (mnV (DD (dat qs)) 0 xs, 0)) := Lib.hid (by rw [hFIN]; exact HP.out)
  clear hFIN
  go_enter Try.func31, Try.ntmps31
  go_wp2_with fail
  refine hcv.mono ?_
  rintro e w1 ⟨rfl, hb1⟩
  go_wp2_with fail
  refine (hris _ (by first | exact hrl.below hb1 | exact hrl.below hb1.below)).mono ?_
  rintro e w2 ⟨rfl, hb2⟩
  have hb12 : Below w.heap.size w w2 := by first | exact hb1.trans hb2.below | exact hb1.below.trans hb2.below
  have hw := l21Ways_any A c qs w.heap.size w2 (hr.below hb12) hb12.size HV.out
  clear hb1 hb2 hris hcv
  go_wp2_with fail
  refine hw.mono ?_
  rintro e w3 ⟨A3, c3, rs3, rfl, hO3, hd3, hb3⟩
  have HB3 := Lib.hid (bthen hb12 (Nat.le_refl _) hb3)
  have HD3 : Hid (dat rs3 = mat (dat qs).length (Dw (dat qs))) := Lib.hid (by rw [HX.out]; exact hd3)
  have HO3 := Lib.hid hO3.rd
  have hz3 := HB3.out.size
  clear hw hb12 hb3 hd3 hO3
  go_wp2_with (at_make; refine wpL_make (L := LB) rowB rfl _ _ rfl .i64 .i64 _ _ xs.length rfl rfl rfl rfl (by omega) (by unfold maxLen; omega) false rfl ?_; intro w4 hu4 hb4)
  have hc : ∀ (j : Nat) (v : Value), (w3.alloc (.cells #[.slice A3 rs3.length c3, .slice Al xs.length cl, .int .i64 (-1)] 74)).cell? ⟨w3.heap.size, j, none⟩ = some v → w4.cell? ⟨w3.heap.size, j, none⟩ = some v := fun j v h => (hb4.cell (p := ⟨w3.heap.size, j, none⟩) (by simp)).trans h
  have hT : RS w4 w3.heap.size w3.heap.size A3 c3 rs3 Al cl xs (-1) (some ⟨w3.heap.size + 1, 0, none⟩) xs.length (List.replicate xs.length false) := by
    have hbw : Below w3.heap.size w3 w4 := ((Below.refl _ w3).alloc (Nat.le_refl _) _).trans (hb4.mono (by simp))
    refine ⟨hc 0 _ (by go_simp), hc 1 _ (by go_simp), hc 2 _ (by go_simp), ?_, HO3.out.below hbw, ((hrl.below HB3.out).more hz3).below hbw, ?_, by simp [blk], Nat.le_refl _, by have := hb4.size; simp at this; omega⟩
    · rw [hb4.frozen (p := ⟨w3.heap.size, 2, none⟩) (by simp)]
      go_simp
    · have h := hu4
      simp only [World.size_alloc] at h
      exact h.lower (by omega)
  have hwk := rwalk_any (dat qs) HV.out w3.heap.size w3.heap.size A3 c3 rs3 Al cl xs HD3.out HPX.out hxl xs.length w4 0 0 0 (-1) _ xs.length (List.replicate xs.length false) (by simp) (by rw [unL_all]) (by omega) HV.out.1.1 (by omega) (by omega) (by omega) (by omega) hT
  rw [List.length_replicate, unL_all] at hwk
  have HBw : Hid (Below w3.heap.size w3 w4) := Lib.hid (((Below.refl _ w3).alloc (Nat.le_refl _) _).trans (hb4.mono (by simp)))
  clear hT hc hu4 hb4
  refine hwk.mono ?_
  rintro e w5 ⟨rfl, v, hW, hT5, hb5⟩
  have HBF := Lib.hid (HB3.out.trans ((HBw.out.trans hb5).mono hz3))
  have HMV := Lib.hid (mnV_eq hW.min)
  have k2 := hT5.c2
  have hlo := hW.lo
  clear hwk hW hT5 hb5
  have HMV2 : Hid (mnV (DD (dat qs)) 0 xs = v) := Lib.hid HMV.out
  clear HMV
  by_cases hv0 : v < 0
  · have HF2 : Hid (FIN = (0, 3)) := Lib.hid (by rw [HFN.out, HMV2.out, if_pos hv0])
    go_wp2_with fail
    go_ret2
    exact ⟨by rw [HF2.out]; rfl, HBF.out⟩
  · have HF2 : Hid (FIN = (v, 0)) := Lib.hid (by rw [HFN.out, HMV2.out, if_neg hv0])
    have hv1 : 0 ≤ v := by omega
    go_wp2_with fail
    go_ret2
    exact ⟨by rw [HF2.out]; rfl, HBF.out⟩
end Go.Proofs.Ytcookepklcbfeaa
