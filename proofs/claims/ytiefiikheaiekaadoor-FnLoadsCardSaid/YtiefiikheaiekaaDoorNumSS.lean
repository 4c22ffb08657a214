/-
  Slices of slices of int64: toInt64SS, eqInt64SS, markInt64SS, heldInt64SS, szInt64S, szInt64SS.
-/
import Derived.Test.YtiefiikheaiekaaDoorNum
namespace Go.Proofs.YtiefiikheaiekaaDoor
open Go.ChangeShapes Go.WideShapes Go.RowKit

theorem rowV : TyRow Tryd.prog 22 23 (.slice none 0 0) LV.sz 24 := ⟨Tryd.underlying22, by kernel_rfl⟩

def eqBB (xs ys : List (List Int)) : Bool := decide (xs = ys)
theorem eqBB_self (xs : List (List Int)) : eqBB xs xs = true := by simp [eqBB]
theorem eqInt64SS_any (A A2 : Option Addr) (c c2 : Nat) (rs ss : List (Row Int)) (B : Nat) (w : World) (hr : RdR LI w B A c rs) (hr2 : RdR LI w B A2 c2 ss) :
    Calls Tryd.prog 11 #[.slice A rs.length c, .slice A2 ss.length c2] w fun e w' => e = .returned (.bool (eqBB (dat rs) (dat ss))) ∧ Dr w w' := by
  have hlen := hr.len63
  have hlen2 := hr2.len63
  by_cases hl : rs.length = ss.length
  · have hn : ((rs.length : Int) != (ss.length : Int)) = false := by rw [bne_eq_false_iff_eq]; omega
    have Hl := Lib.hid hl
    clear hl
    go_enter Tryd.func11, Tryd.ntmps11
    go_wp2_with fail
    go_loopw [5] (fun i wr => ∃ k : Nat, k ≤ rs.length ∧ i = .int .i64 k ∧ dat (rs.take k) = dat (ss.take k) ∧ Dr w wr) (fun i _ => rs.length - (intOf i).toNat)
    case atStart => exact ⟨0, by omega, rfl, by simp, Dr.refl _⟩
    case round =>
      obtain ⟨k, hk, rfl, heq, hdr⟩ := hrel
      have Heq := Lib.hid heq
      clear heq
      by_cases hlt : k < rs.length
      · have hlt2 : k < ss.length := by have := Hl.out; omega
        obtain ⟨ad, rfl, hab, hcell, hrk⟩ := (hr.below hdr.below).at_ hlt
        obtain ⟨ad2, rfl, hab2, hcell2, hrk2⟩ := (hr2.below hdr.below).at_ hlt2
        have hk0 : (k : Int) < rs.length := by omega
        have hk2 : (k : Int) < ss.length := by omega
        have hcall := fun n => eqInt64S_quiet rs[k].1 ss[k].1 rs[k].2.1 ss[k].2.1 rs[k].2.2 ss[k].2.2 B (wr.drewN n) (hrk.drewN n) (hrk2.drewN n)
        by_cases hx : rs[k].2.2 = ss[k].2.2
        · rw [show eqB rs[k].2.2 ss[k].2.2 = true by simp [eqB, hx]] at hcall
          have Hx := Lib.hid hx
          clear hx
          go_wp2_with fail
          go_quiet ((go_at_call 12; exact quiet_dr (hcall _)))
          go_wp2_with fail
          go_roundw
          case rel =>
            refine ⟨k + 1, by omega, by go_num, ?_, hdr.step _⟩
            rw [List.take_succ_eq_append_getElem hlt, List.take_succ_eq_append_getElem hlt2, dat_append, dat_append, Heq.out]
            simp [dat, Hx.out]
          case measure => simp [intOf]; omega
        · rw [show eqB rs[k].2.2 ss[k].2.2 = false by simp [eqB, hx]] at hcall
          have Hx := Lib.hid hx
          clear hx
          go_wp2_with fail
          go_quiet ((go_at_call 12; exact quiet_dr (hcall _)))
          go_wp2_with fail
          go_ret
          refine ⟨ret_bool (Eq.symm ?_), hdr.step _⟩
          simp only [eqBB, decide_eq_false_iff_not]
          intro e
          have e2 := congrArg (fun l => l[k]?) e
          simp [dat, hlt, hlt2] at e2
          exact Hx.out e2
      · go_wp2_with fail
        go_ret
        refine ⟨ret_bool (Eq.symm ?_), hdr⟩
        have := Heq.out
        rw [List.take_of_length_le (by omega), List.take_of_length_le (by have := Hl.out; omega)] at this
        simp [eqBB, this]
  · have hn : ((rs.length : Int) != (ss.length : Int)) = true := by rw [bne_iff_ne]; omega
    go_enter Tryd.func11, Tryd.ntmps11
    go_wp2_with fail
    go_ret
    refine ⟨ret_bool (Eq.symm ?_), Dr.refl _⟩
    simp only [eqBB, decide_eq_false_iff_not]
    intro e
    apply hl
    rw [← dat_len rs, ← dat_len ss, e]

theorem eqInt64SS_same (A : Option Addr) (c : Nat) (rs : List (Row Int)) (A2 : Option Addr) (c2 : Nat) (ss : List (Row Int)) (w : World) (hr : RdR LI w w.heap.size A c rs) (hr2 : RdR LI w w.heap.size A2 c2 ss) (he : dat rs = dat ss) :
    Calls Tryd.prog 11 #[.slice A rs.length c, .slice A2 ss.length c2] w fun e w' => e = .returned (.bool true) ∧ Below w.heap.size w w' := by
  have := eqInt64SS_any A A2 c c2 rs ss _ w hr hr2
  rw [he, eqBB_self] at this
  exact this.mono fun _ _ h => ⟨h.1, h.2.below⟩
/-- copies of all rows -/
theorem toInt64SS_any (A : Option Addr) (c : Nat) (rs : List (Row Int)) (w : World) (hr : RdR LI w w.heap.size A c rs) (hn : rs.length ≤ 1048576) (hin : ∀ r ∈ rs, r.2.2.length ≤ 1048576) :
    Calls Tryd.prog 8 #[.slice A rs.length c] w fun e w' => ∃ A' c' rs', e = .returned (.slice A' rs'.length c') ∧ OwnR LI 23 2 w' w.heap.size A' c' rs' ∧ dat rs' = dat rs ∧ Below w.heap.size w w' := by
  have hlen := hr.len63
  go_enter Tryd.func8, Tryd.ntmps8
  go_wp2_with (at_make; refine wpL_make (L := LV) rowV rfl _ _ rfl .i64 .i64 _ _ rs.length rfl rfl rfl rfl (by omega) (by unfold maxLen; omega) (none, 0, 0) rfl ?_; intro w1 hown hb)
  go_loopw [4] (fun i wr => ∃ (k : Nat) (ss : List (Row Int)), k ≤ rs.length ∧ i = .int .i64 k ∧ ss.length = k ∧ dat ss = dat (rs.take k) ∧
      OwnR LI 23 2 wr w.heap.size (some ⟨w.heap.size, 0, none⟩) rs.length (ss ++ List.replicate (rs.length - k) (none, 0, [])) ∧ Below w.heap.size w wr) (fun i _ => rs.length - (intOf i).toNat)
  case atStart =>
    refine ⟨0, [], by omega, rfl, rfl, rfl, ⟨?_, ?_, ?_⟩, hb⟩
    · simpa [hd] using hown
    · intro r hr'
      simp at hr'
      rw [hr'.2]
      exact Own.none_
    · rw [List.pairwise_iff_getElem]
      intro i j hi hj _
      simp [Ap, blk]
  case round =>
    obtain ⟨k, ss, hk, rfl, hsl, hdat, hown, hbel⟩ := hrel
    have HD := Lib.hid (And.intro hsl hdat)
    clear hdat hsl
    by_cases hlt : k < rs.length
    · obtain ⟨ad, rfl, hab, hcell, hrk⟩ := (hr.below hbel).at_ hlt
      have hl0 : k < (ss ++ List.replicate (rs.length - k) ((none, 0, []) : Row Int)).length := by have := HD.out.1; simp; omega
      go_wp2_with fail
      have hin' := hin _ (List.getElem_mem hlt)
      refine (toInt64S_any rs[k].1 rs[k].2.1 rs[k].2.2 _ (hrk.more hbel.size) (by omega)).mono ?_
      rintro e w2 ⟨A2, c2, rfl, hown2, hb2⟩
      have hown' := hown.below hb2
      obtain ⟨g, hg, hbg, hgl, hcg, hfg, -⟩ := hown'.at_ hl0
      cases hg
      go_wp2_with fail
      go_roundw
      case rel =>
        refine ⟨k + 1, ss ++ [(A2, c2, rs[k].2.2)], by omega, by go_num, by have := HD.out.1; simp; omega, ?_, ?_, (bthen hbel (Nat.le_refl _) hb2).setCell (Nat.le_refl _) _⟩
        · rw [List.take_succ_eq_append_getElem hlt, dat_append, dat_append, HD.out.2]
          rfl
        · have hst := hown'.setRow (by decide) k (A2, c2, rs[k].2.2) (hown2.lower hbel.size) ?_
          · have e : (ss ++ List.replicate (rs.length - k) (none, 0, [])).set k (A2, c2, rs[k].2.2) = ss ++ [(A2, c2, rs[k].2.2)] ++ List.replicate (rs.length - (k + 1)) (none, 0, []) := by
              rw [List.set_append_right _ _ (by have := HD.out.1; omega), HD.out.1, Nat.sub_self, show rs.length - k = (rs.length - (k + 1)) + 1 by omega, List.replicate_succ, List.set_cons_zero]
              simp only [List.append_assoc, List.cons_append, List.nil_append]
            rw [e] at hst
            exact hst
          · intro j hj hne
            refine Ap.of_lt (b := wr.heap.size) (fun g' hg' => ?_) fun g' hg' => (hown2.blk_lt g' hg').1
            exact (hown.blk_lt.2 _ (List.getElem_mem (by simpa using hj)) g' hg').2
      case measure => simp [intOf]; omega
    · have hkk : k = rs.length := by omega
      go_wp2_with fail
      go_ret
      have e : ss ++ List.replicate (rs.length - k) ((none, 0, []) : Row Int) = ss := by rw [show rs.length - k = 0 by omega]; simp
      rw [e] at hown
      refine ⟨_, _, ss, ?_, hown, ?_, hbel⟩
      · rw [HD.out.1, hkk]; rfl
      · rw [HD.out.2, List.take_of_length_le (by omega)]

theorem szInt64S_any (A : Option Addr) (c : Nat) (n : Nat) (left : Int) (w : World) (h0 : 0 ≤ left) (h1 : left ≤ 1048576) (hn : n ≤ 9223372036854775807) :
    Calls Tryd.prog 27 #[.slice A n c, .int .i64 left] w fun e w' => e = .returned (.int .i64 (if (n : Int) ≤ left then left - n else -1)) ∧ w = w' := by
  by_cases h : (n : Int) ≤ left
  · rw [if_pos h]
    go_enter Tryd.func27, Tryd.ntmps27
    go_wp2_with fail
    go_ret
    exact ⟨rfl, rfl⟩
  · rw [if_neg h]
    go_enter Tryd.func27, Tryd.ntmps27
    go_wp2_with fail
    go_ret
    exact ⟨rfl, rfl⟩
/-- what is left of a size -/
def szR (left : Int) : List (Row Int) → Int
  | [] => left
  | r :: rs => if (r.2.2.length : Int) ≤ left then szR (left - r.2.2.length) rs else -1
theorem szR_yes {left : Int} {rs : List (Row Int)} (h : 0 ≤ szR left rs) : ∀ r ∈ rs, (r.2.2.length : Int) ≤ left := by
  induction rs generalizing left with
  | nil => intro r hr; cases hr
  | cons r rs ih =>
    simp only [szR] at h
    split at h
    · intro s hs
      rcases List.mem_cons.1 hs with rfl | hs
      · assumption
      · have := ih h s hs; omega
    · omega
theorem szR_step (left : Int) (rs : List (Row Int)) {k : Nat} (h : k < rs.length) : szR left (rs.drop k) = if (rs[k].2.2.length : Int) ≤ left then szR (left - rs[k].2.2.length) (rs.drop (k + 1)) else -1 := by
  rw [List.drop_eq_getElem_cons h]
  rfl
def szRR (left : Int) (rs : List (Row Int)) : Int := if (rs.length : Int) ≤ left then szR (left - rs.length) rs else -1
theorem szRR_yes {left : Int} {rs : List (Row Int)} (h0 : 0 ≤ left) (h : 0 ≤ szRR left rs) : (rs.length : Int) ≤ left ∧ ∀ r ∈ rs, (r.2.2.length : Int) ≤ left := by
  unfold szRR at h
  split at h
  · exact ⟨by assumption, fun r hr => by have := szR_yes h r hr; omega⟩
  · omega
theorem szR_le {left : Int} {rs : List (Row Int)} (h : 0 ≤ left) : szR left rs ≤ left := by
  induction rs generalizing left with
  | nil => simp [szR]
  | cons r rs ih =>
    simp only [szR]
    split
    · have := ih (left := left - r.2.2.length) (by omega); omega
    · omega
theorem szRR_le {left : Int} {rs : List (Row Int)} (h0 : 0 ≤ left) (_h : 0 ≤ szRR left rs) : szRR left rs ≤ left := by
  unfold szRR
  split
  · have := szR_le (rs := rs) (left := left - rs.length) (by omega); omega
  · omega
theorem szInt64SS_any (A : Option Addr) (c : Nat) (rs : List (Row Int)) (left : Int) (B : Nat) (w : World) (hr : RdR LI w B A c rs) (h0 : 0 ≤ left) (h1 : left ≤ 1048576) :
    Calls Tryd.prog 6 #[.slice A rs.length c, .int .i64 left] w fun e w' => e = .returned (.int .i64 (szRR left rs)) ∧ w = w' := by
  have hlen := hr.len63
  by_cases h : (rs.length : Int) ≤ left
  · have HS : Hid (szRR left rs = szR (left - rs.length) rs) := Lib.hid (by unfold szRR; rw [if_pos h])
    go_enter Tryd.func6, Tryd.ntmps6
    go_wp2_with fail
    go_loop [1, 5] (fun l i => ∃ (k : Nat) (m : Int), k ≤ rs.length ∧ i = .int .i64 k ∧ l = .int .i64 m ∧ 0 ≤ m ∧ m ≤ left ∧ szRR left rs = szR m (rs.drop k)) (fun _ i => rs.length - (intOf i).toNat)
    case atStart => exact ⟨0, left - rs.length, by omega, rfl, rfl, by omega, by omega, by rw [HS.out]; rfl⟩
    case round =>
      obtain ⟨k, m, hk, rfl, rfl, hm0, hm1, heq⟩ := hrel
      have Heq := Lib.hid heq
      clear heq
      by_cases hlt : k < rs.length
      · obtain ⟨ad, rfl, hab, hcell, hrk⟩ := hr.at_ hlt
        have hn := hrk.len63
        have hcall := szInt64S_any rs[k].1 rs[k].2.1 rs[k].2.2.length m w hm0 (by omega) hn
        have HT := Lib.hid (szR_step m rs hlt)
        by_cases hle : (rs[k].2.2.length : Int) ≤ m
        · rw [if_pos hle] at hcall
          go_wp2_with fail
          refine hcall.mono ?_
          rintro e w2 ⟨rfl, rfl⟩
          go_wp2_with fail
          go_round
          case rel => exact ⟨k + 1, m - rs[k].2.2.length, by omega, by go_num, rfl, by omega, by omega, by rw [Heq.out, HT.out, if_pos hle]⟩
          case measure => simp [intOf]; omega
        · rw [if_neg hle] at hcall
          go_wp2_with fail
          refine hcall.mono ?_
          rintro e w2 ⟨rfl, rfl⟩
          go_wp2_with fail
          go_ret
          exact ⟨ret_int (by rw [Heq.out, HT.out, if_neg (by omega)]), rfl⟩
      · go_wp2_with fail
        go_ret
        exact ⟨ret_int (by rw [Heq.out, List.drop_of_length_le (by omega)]; rfl), rfl⟩
  · have HS : Hid (szRR left rs = -1) := Lib.hid (by unfold szRR; rw [if_neg h])
    rw [HS.out]
    go_enter Tryd.func6, Tryd.ntmps6
    go_wp2_with fail
    go_ret
    exact ⟨rfl, rfl⟩

/-- how many numbers in all -/
def tl : List (Row Int) → Nat
  | [] => 0
  | r :: rs => r.2.2.length + tl rs
def tlL : List (List Int) → Nat
  | [] => 0
  | r :: rs => r.length + tlL rs
theorem tl_dat (rs : List (Row Int)) : tl rs = tlL (dat rs) := by
  induction rs with
  | nil => rfl
  | cons r rs ih => simp only [tl, dat, List.map_cons, tlL] at *; rw [ih]; first | done | omega
theorem tl_append (rs ss : List (Row Int)) : tl (rs ++ ss) = tl rs + tl ss := by
  induction rs with
  | nil => simp [tl]
  | cons r rs ih => simp only [List.cons_append, tl, ih]; omega
theorem tl_succ (rs : List (Row Int)) {k : Nat} (h : k < rs.length) : tl (rs.take (k + 1)) = tl (rs.take k) + rs[k].2.2.length := by
  rw [List.take_succ_eq_append_getElem h, tl_append]; simp [tl]
theorem tl_take_le (rs : List (Row Int)) (k : Nat) : tl (rs.take k) ≤ tl rs := by
  have : tl rs = tl (rs.take k) + tl (rs.drop k) := by rw [← tl_append, List.take_append_drop]
  omega
/-- the rows marked from k on -/
def upR : Int → List (Row Int) → List (Row Int)
  | _, [] => []
  | k, r :: rs => (r.1, r.2.1, upFrom k r.2.2.length) :: upR (k + r.2.2.length) rs
theorem upR_len (k : Int) (rs : List (Row Int)) : (upR k rs).length = rs.length := by induction rs generalizing k <;> simp_all [upR]
theorem upR_append (k : Int) (rs ss : List (Row Int)) : upR k (rs ++ ss) = upR k rs ++ upR (k + tl rs) ss := by
  induction rs generalizing k with
  | nil => simp [upR, tl]
  | cons r rs ih =>
    simp only [List.cons_append, upR, ih, tl]
    rw [show k + (r.2.2.length : Int) + (tl rs : Int) = k + ((r.2.2.length + tl rs : Nat) : Int) by omega]
theorem upR_succ (k : Int) (rs : List (Row Int)) {m : Nat} (h : m < rs.length) : upR k (rs.take (m + 1)) = upR k (rs.take m) ++ [(rs[m].1, rs[m].2.1, upFrom (k + tl (rs.take m)) rs[m].2.2.length)] := by
  rw [List.take_succ_eq_append_getElem h, upR_append]; simp [upR]
theorem upR_get (k : Int) (rs : List (Row Int)) {m : Nat} (h : m < rs.length) : (upR k rs)[m]'(by rw [upR_len]; exact h) = (rs[m].1, rs[m].2.1, upFrom (k + tl (rs.take m)) rs[m].2.2.length) := by
  have h1 := upR_succ k rs h
  have h2 : upR k rs = upR k (rs.take (m + 1)) ++ upR (k + tl (rs.take (m + 1))) (rs.drop (m + 1)) := by rw [← upR_append, List.take_append_drop]
  rw [← Option.some_inj, ← List.getElem?_eq_getElem, h2, h1, List.append_assoc, List.getElem?_append_right (by rw [upR_len]; simp; omega)]
  simp [upR_len, Nat.min_eq_left (Nat.le_of_lt h)]
theorem upR_tl (k : Int) (rs : List (Row Int)) : tl (upR k rs) = tl rs := by
  induction rs generalizing k with
  | nil => rfl
  | cons r rs ih => simp [upR, tl, ih, upFrom_len]
theorem upR_blk (k : Int) (rs : List (Row Int)) (P : Option Addr → Prop) : (∀ r ∈ upR k rs, P r.1) ↔ ∀ r ∈ rs, P r.1 := by
  induction rs generalizing k with
  | nil => simp [upR]
  | cons r rs ih => simp only [upR, List.forall_mem_cons, ih]

/-- blocks of rows -/
theorem upR_lt {b s : Nat} {k : Int} {rs : List (Row Int)} (h : ∀ r ∈ rs, ∀ g, blk r.1 = some g → b ≤ g ∧ g < s) : ∀ r ∈ upR k rs, ∀ g, blk r.1 = some g → b ≤ g ∧ g < s := (upR_blk k rs (fun A => ∀ g, blk A = some g → b ≤ g ∧ g < s)).2 h
theorem tl_bd {rs : List (Row Int)} {n m : Nat} (h : ∀ r ∈ rs, r.2.2.length ≤ n) (hm : rs.length ≤ m) : tl rs ≤ m * n := by
  have : tl rs ≤ rs.length * n := by
    clear hm
    induction rs with
    | nil => simp [tl]
    | cons a l ih =>
      have h1 := h a (List.mem_cons_self ..)
      have h2 := ih fun r hr => h r (List.mem_cons_of_mem _ hr)
      simp only [tl, List.length_cons, Nat.add_mul]
      omega
  exact Nat.le_trans this (Nat.mul_le_mul_right _ hm)
def InRows (rs : List (Row Int)) (b : Nat) : Prop := ∃ r ∈ rs, blk r.1 = some b

theorem markInt64SS_any (A : Option Addr) (c : Nat) (rs : List (Row Int)) (k : Int) (base : Nat) (w : World) (hown : OwnR LI 23 2 w base A c rs) (hk0 : 0 ≤ k) (hk1 : k + tl rs ≤ 4611686018427387904) :
    Calls Tryd.prog 16 #[.slice A rs.length c, .int .i64 k] w fun e w' => e = .returned (.int .i64 (k + tl rs)) ∧ OwnR LI 23 2 w' base A c (upR k rs) ∧ Kept (InRows rs) w w' := by
  have hlen := hown.len63
  go_enter Tryd.func16, Tryd.ntmps16
  go_wp2_with fail
  go_loopw [1, 5] (fun j i wr => ∃ m : Nat, m ≤ rs.length ∧ i = .int .i64 m ∧ j = .int .i64 (k + tl (rs.take m)) ∧ OwnR LI 23 2 wr base A c (upR k (rs.take m) ++ rs.drop m) ∧ Kept (InRows rs) w wr) (fun _ i _ => rs.length - (intOf i).toNat)
  case atStart => exact ⟨0, by omega, rfl, by simp [tl], by simpa [upR] using hown, Kept.refl _ _⟩
  case round =>
    obtain ⟨m, hm, rfl, rfl, hown', HF⟩ := hrel
    have htm := tl_take_le rs m
    by_cases hlt : m < rs.length
    · have hl0 : m < (upR k (rs.take m) ++ rs.drop m).length := by simp [upR_len]; omega
      have hget : (upR k (rs.take m) ++ rs.drop m)[m] = rs[m] := by
        rw [List.getElem_append_right (by rw [upR_len]; simp; omega)]
        simp [upR_len, Nat.min_eq_left (Nat.le_of_lt hlt)]
      obtain ⟨g, rfl, hbg, hgl, hcg, hfg, hrow⟩ := hown'.at_ hl0
      have hrow' : Own LI 2 wr base rs[m].1 rs[m].2.1 rs[m].2.2 := by rw [hget] at hrow; exact hrow
      have hcg' : wr.cell? ⟨g, m, none⟩ = some (.slice rs[m].1 rs[m].2.2.length rs[m].2.1) := by rw [hget] at hcg; exact hcg
      have ht1 := tl_take_le rs (m + 1)
      have HT := Lib.hid (tl_succ rs hlt)
      have HG := Lib.hid hget
      clear hcg hget hrow
      go_wp2_with fail
      refine (markInt64S_any rs[m].1 rs[m].2.1 rs[m].2.2 _ base _ hrow' (by omega) (by have := HT.out; omega)).mono ?_
      rintro e w2 ⟨rfl, hown2, hk2⟩
      go_wp2_with fail
      go_roundw
      case rel =>
        have hst := hown'.inRow (by decide) hl0 (upFrom (k + tl (rs.take m)) rs[m].2.2.length) (by rw [upFrom_len, HG.out]) (by rw [HG.out]; exact hown2) (by rw [HG.out]; exact hk2)
        rw [HG.out] at hst
        refine ⟨m + 1, by omega, by go_num, by rw [HT.out]; go_num, ?_, HF.trans (hk2.mono fun b hb => ⟨rs[m], List.getElem_mem _, hb⟩)⟩
        rw [upR_succ k rs hlt, ← (show (upR k (rs.take m) ++ rs.drop m).set m (rs[m].1, rs[m].2.1, upFrom (k + tl (rs.take m)) rs[m].2.2.length) = upR k (rs.take m) ++ [(rs[m].1, rs[m].2.1, upFrom (k + tl (rs.take m)) rs[m].2.2.length)] ++ rs.drop (m + 1) from ?_)]
        · exact hst
        · have hle : (upR k (rs.take m)).length = m := by rw [upR_len]; simp; omega
          rw [List.set_append_right _ _ (by omega), hle, Nat.sub_self, List.drop_eq_getElem_cons hlt, List.set_cons_zero]
          simp only [List.append_assoc, List.cons_append, List.nil_append]
      case measure => simp [intOf]; omega
    · have hmm : m = rs.length := by omega
      subst hmm
      have HK : Hid (rs.take rs.length = rs) := Lib.hid (List.take_of_length_le (Nat.le_refl _))
      rw [HK.out] at hown' ⊢
      go_wp2_with fail
      go_ret
      exact ⟨rfl, by simpa using hown', HF⟩

end Go.Proofs.YtiefiikheaiekaaDoor
