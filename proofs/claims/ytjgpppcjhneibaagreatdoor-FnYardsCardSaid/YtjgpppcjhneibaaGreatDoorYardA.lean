/-
  Yards: SameYard.
-/
import Derived.Test.YtjgpppcjhneibaaGreatDoorNumSS
import Derived.Test.YtjgpppcjhneibaaGreatDoorSteps
import Derived.Deep.QuietTactic
import Derived.BigQuiet
namespace Go.Proofs.YtjgpppcjhneibaaGreatDoor
open Go.ChangeShapes Go.WideShapes Go.RowKit

theorem eqBB_len {xs ys : List (List Int)} (h : xs.length ≠ ys.length) : eqBB xs ys = false := by
  simp only [eqBB, decide_eq_false_iff_not]
  intro e; rw [e] at h; exact h rfl
theorem eqBB_hit {xs ys : List (List Int)} {k : Nat} (h : k < xs.length) (h2 : k < ys.length) (he : eqB xs[k] ys[k] = false) : eqBB xs ys = false := by
  simp only [eqBB, decide_eq_false_iff_not]
  intro e
  subst e
  rw [eqB_self] at he
  cases he
theorem eqBB_all {xs ys : List (List Int)} (hl : xs.length = ys.length) (h : ∀ k (h1 : k < xs.length) (h2 : k < ys.length), eqB xs[k] ys[k] = true) : eqBB xs ys = true := by
  simp only [eqBB, decide_eq_true_eq]
  exact List.ext_getElem hl fun i h1 h2 => by simpa [eqB] using h i h1 h2

set_option maxHeartbeats 1600000 in
theorem specSameYard_dr (A A2 : Option Addr) (c c2 : Nat) (rs ss : List (Row Int)) (B : Nat) (w : World) (hr : RdR LI w B A c rs) (hr2 : RdR LI w B A2 c2 ss) :
    Calls Tryz.prog 14 #[.slice A rs.length c, .slice A2 ss.length c2] w fun e w' => e = .returned (.bool (eqBB (dat rs) (dat ss))) ∧ Dr w w' := by
  have hlen := hr.len63
  have hlen2 := hr2.len63
  by_cases hl : rs.length = ss.length
  · have hn : ((rs.length : Int) != (ss.length : Int)) = false := by rw [bne_eq_false_iff_eq]; omega
    have Hl := Lib.hid hl
    clear hl
    go_enter Tryz.func14, Tryz.ntmps14
    go_wp2_with fail
    go_loopw [5] (fun i wr => ∃ k : Nat, k ≤ rs.length ∧ i = .int .i64 k ∧ dat (rs.take k) = dat (ss.take k) ∧ Dr w wr) (fun i _ => rs.length - (intOf i).toNat)
    case atStart => exact ⟨0, by omega, rfl, by simp, Dr.refl _⟩
    case round =>
      obtain ⟨k, hk, rfl, heq, hdr⟩ := hrel
      have Heq := Lib.hid heq
      clear heq
      by_cases hlt : k < rs.length
      · have hlt2 : k < ss.length := by have := Hl.out; omega
        obtain ⟨ad, rfl, hab, hcell, hrk⟩ := (hr.below hdr.below).at_ hlt
        obtain ⟨ad2, rfl, hab2, hcell2, hrk2⟩ := (hr2.below hdr.below).at_ hlt2
        have hk0 : (k : Int) < rs.length := by omega
        have hk2 : (k : Int) < ss.length := by omega
        have hcall := fun n => l00Same_quiet rs[k].1 ss[k].1 rs[k].2.1 ss[k].2.1 rs[k].2.2 ss[k].2.2 B (wr.drewN n) (hrk.drewN n) (hrk2.drewN n)
        by_cases hx : rs[k].2.2 = ss[k].2.2
        · rw [show eqB rs[k].2.2 ss[k].2.2 = true by simp [eqB, hx]] at hcall
          have Hx := Lib.hid hx
          clear hx
          go_wp2_with fail
          go_quiet ((go_at_call 33; exact quiet_dr (hcall _)))
          go_wp2_with fail
          go_roundw
          case rel =>
            refine ⟨k + 1, by omega, by go_num, ?_, hdr.step _⟩
            rw [List.take_succ_eq_append_getElem hlt, List.take_succ_eq_append_getElem hlt2, dat_append, dat_append, Heq.out]
            simp [dat, Hx.out]
          case measure => simp [intOf]; omega
        · rw [show eqB rs[k].2.2 ss[k].2.2 = false by simp [eqB, hx]] at hcall
          have Hx := Lib.hid hx
          clear hx
          go_wp2_with fail
          go_quiet ((go_at_call 33; exact quiet_dr (hcall _)))
          go_wp2_with fail
          go_ret
          refine ⟨ret_bool (Eq.symm ?_), hdr.step _⟩
          simp only [eqBB, decide_eq_false_iff_not]
          intro e
          have e2 := congrArg (fun l => l[k]?) e
          simp [dat, hlt, hlt2] at e2
          exact Hx.out e2
      · go_wp2_with fail
        go_ret
        refine ⟨ret_bool (Eq.symm ?_), hdr⟩
        have := Heq.out
        rw [List.take_of_length_le (by omega), List.take_of_length_le (by have := Hl.out; omega)] at this
        simp [eqBB, this]
  · have hn : ((rs.length : Int) != (ss.length : Int)) = true := by rw [bne_iff_ne]; omega
    go_enter Tryz.func14, Tryz.ntmps14
    go_wp2_with fail
    go_ret
    refine ⟨ret_bool (Eq.symm ?_), Dr.refl _⟩
    simp only [eqBB, decide_eq_false_iff_not]
    intro e
    apply hl
    rw [← dat_len rs, ← dat_len ss, e]
theorem specSameYard_any (A : Option Addr) (c : Nat) (rs : List (Row Int)) (A2 : Option Addr) (c2 : Nat) (ss : List (Row Int)) (w : World) (hr : RdR LI w w.heap.size A c rs) (hr2 : RdR LI w w.heap.size A2 c2 ss) :
    Calls Tryz.prog 14 #[.slice A rs.length c, .slice A2 ss.length c2] w fun e w' => e = .returned (.bool (eqBB (dat rs) (dat ss))) ∧ Below w.heap.size w w' :=
  (specSameYard_dr A A2 c c2 rs ss _ w hr hr2).mono fun _ _ ⟨h, hd⟩ => ⟨h, hd.below⟩
end Go.Proofs.YtjgpppcjhneibaaGreatDoor
