/-
  slices.Grow at nil, slices.Concat, slices.DeleteFunc over []int64.
-/
import Derived.Test.YtcookepklcbfeaaNum
import Derived.Test.YtcookepklcbfeaaSteps
import Derived.Test.YtcookepklcbfeaaClone
import Derived.Lib.AppendZeros
import Derived.Lib.SliceRun
import Derived.Laws.IdiomCopy
namespace Go.Proofs.Ytcookepklcbfeaa
open Go.ChangeShapes Go.WideShapes Go.RowKit

theorem grow_own {T : TypeId} {z : Value} (hz : z.cells.size = 1) (w : World) (n : Nat) (hn : n ≤ maxLen) :
    Own LI T (w.drew.alloc (.cells (Builtin.zeroCells z.cells n ++ Builtin.zeroCells z.cells (grownCap w n 0 T - n)) T)) w.heap.size (some ⟨w.heap.size, 0, none⟩) (grownCap w n 0 T) ([] : List Int) := by
  have hge := grownCap_ge w n 0 T
  refine ⟨by simp, .inr ⟨w.heap.size, grownCap w n 0 T, _, rfl, Nat.le_refl _, heap_alloc_new w.drew _, Nat.zero_le _, grownCap_le_maxLen w n 0 T hn, ?_, rfl⟩⟩
  simp [size_zeroCells, hz, LI]
  omega
theorem below_setCells {B g : Nat} {w0 : World} (hg : B ≤ g) (vs : List Value) : ∀ (i : Nat) (w : World), Below B w0 w → Below B w0 (w.setCells g i vs) := by
  induction vs with
  | nil => intro i w h; exact h
  | cons v vs ih => intro i w h; exact ih (i + 1) _ (h.setCell hg v)
set_option maxHeartbeats 800000 in
theorem grow_any (n : Nat) (w : World) (hn : n * 8 ≤ 140737488355328) :
    Calls Try.prog 74 #[.slice none 0 0, .int .i64 n] w fun e w' => ∃ A c, e = .returned (.slice A 0 c) ∧ Own LI 2 w' w.heap.size A c ([] : List Int) ∧ Below w.heap.size w w' := by
  by_cases h0 : n = 0
  · subst h0
    go_enter Try.func74, Try.ntmps74
    go_wp2_with fail
    go_ret
    exact ⟨none, 0, rfl, Own.none_, Below.refl _ _⟩
  · obtain ⟨i, hi, hz0, hz1, hz2⟩ := info_parts (rowI).2
    have hnp : 0 < n := by omega
    have hnpi : (0 : Int) < n := by omega
    have hrz := fun ty => Lib.run_append_nil_zeros (P := Try.prog) w 24 3 ty 2 i (.int .i64 0) .i64 .i64 Try.underlying24 Try.underlying3 hi hz0 n hnp (by rw [hz1]; decide) (by omega) (by rw [hz2]; omega)
    have HO := Lib.hid (grow_own (T := 2) (z := .int .i64 0) rfl w n (by unfold maxLen; omega))
    have hge := grownCap_ge w n 0 2
    have hlem := grownCap_le_maxLen w n 0 2 (by unfold maxLen; omega)
    unfold maxLen at hlem
    have HB : Hid (Below w.heap.size w (w.drew.alloc (.cells (Builtin.zeroCells (Value.int .i64 0).cells n ++ Builtin.zeroCells (Value.int .i64 0).cells (grownCap w n 0 2 - n)) 2))) := Lib.hid ((below_drewN (Below.refl _ w) 1).alloc (by exact Nat.le_refl _) _)
    clear hi hz0 hz1 hz2 h0
    generalize grownCap w n 0 2 = G at *
    go_enter Try.func74, Try.ntmps74
    go_wp2_with (at_builtin; refine Lib.wpList_append_run _ rfl _ _ _ _ rfl _ _ rfl rfl _ _ (hrz _) ?_)
    go_ret
    exact ⟨_, G, rfl, HO.out, HB.out⟩
/-- the first k rows, one behind the other -/
def flK (rs : List (Row Int)) (k : Nat) : List Int := ((dat rs).take k).flatten
theorem flK_succ (rs : List (Row Int)) {k : Nat} (h : k < rs.length) : flK rs (k + 1) = flK rs k ++ rs[k].2.2 := by
  unfold flK
  rw [List.take_succ_eq_append_getElem (by rw [dat_len]; exact h), List.flatten_append, dat_get rs k h]
  simp
theorem flK_len (rs : List (Row Int)) {k j : Nat} (h : k ≤ j) : (flK rs k).length ≤ (flK rs j).length := by
  induction j with
  | zero => obtain rfl : k = 0 := by omega
            exact Nat.le_refl _
  | succ j ih =>
    by_cases e : k = j + 1
    · subst e; exact Nat.le_refl _
    · by_cases hj : j < rs.length
      · rw [flK_succ rs hj, List.length_append]
        have := ih (by omega)
        omega
      · have : flK rs (j + 1) = flK rs j := by unfold flK; rw [List.take_of_length_le (by rw [dat_len]; omega), List.take_of_length_le (by rw [dat_len]; omega)]
        rw [this]
        exact ih (by omega)
theorem flK_all (rs : List (Row Int)) : flK rs rs.length = (dat rs).flatten := by unfold flK; rw [List.take_of_length_le (by rw [dat_len]; exact Nat.le_refl _)]
set_option maxRecDepth 100000 in
set_option maxHeartbeats 1600000 in
theorem concat_any (A : Option Addr) (c : Nat) (rs : List (Row Int)) (B : Nat) (w : World) (hr : RdR LI w B A c rs) (hB : B ≤ w.heap.size) (hn : (dat rs).flatten.length * 8 ≤ 140737488355328) :
    Calls Try.prog 73 #[.slice A rs.length c] w fun e w' => ∃ A' c', e = .returned (.slice A' (dat rs).flatten.length c') ∧ Own LI 2 w' w.heap.size A' c' (dat rs).flatten ∧ Below w.heap.size w w' := by
  have hlen := hr.len63
  rw [← flK_all] at hn ⊢
  go_enter Try.func73, Try.ntmps73
  go_wp2_with fail
  go_loop [3, 11] (fun s i => ∃ (k m : Nat), k ≤ rs.length ∧ i = .int .i64 k ∧ s = .int .i64 m ∧ m = (flK rs k).length) (fun _ i => rs.length - (intOf i).toNat)
  case atStart => exact ⟨0, 0, by omega, rfl, rfl, by simp [flK]⟩
  case round =>
    obtain ⟨k, m, hk, rfl, rfl, hm⟩ := hrel
    have hmb := flK_len rs hk
    rw [← hm] at hmb
    have HM := Lib.hid hm
    clear hm
    by_cases hlt : k < rs.length
    · obtain ⟨ad, rfl, _, hc, _⟩ := hr.at_ hlt
      have hmb2 := flK_len rs (show k + 1 ≤ rs.length by omega)
      have HS := Lib.hid (flK_succ rs hlt)
      rw [HS.out, List.length_append, ← HM.out] at hmb2
      generalize rs[k].2.2 = ys at *
      generalize rs[k].1 = Ay at *
      generalize rs[k].2.1 = cy at *
      go_wp2_with fail
      go_round
      case rel => exact ⟨k + 1, m + ys.length, by omega, by go_num, by go_num, by rw [HS.out, List.length_append, HM.out]⟩
      case measure => simp [intOf]; omega
    · obtain rfl : k = rs.length := by omega
      have hn2 : m * 8 ≤ 140737488355328 := by rw [HM.out]; exact hn
      go_wp2_with fail
      refine (grow_any m w hn2).mono ?_
      rintro e w1 ⟨A1, c1, rfl, ho1, hb1⟩
      have HO1 := Lib.hid ho1
      have HB1 := Lib.hid hb1
      clear ho1 hb1 hmb
      go_wp2_with fail
      go_loopw [6, 27] (fun v i wr => ∃ (k : Nat) (A1 : Option Addr) (c1 : Nat) (L : List Int), k ≤ rs.length ∧ i = .int .i64 k ∧ v = .slice A1 L.length c1 ∧ Hid (L = flK rs k) ∧ Hid (Own LI 2 wr w.heap.size A1 c1 L) ∧ Hid (Below w.heap.size w wr)) (fun _ i _ => rs.length - (intOf i).toNat)
      case atStart => exact ⟨0, A1, c1, [], by omega, rfl, rfl, Lib.hid (by simp [flK]), HO1, HB1⟩
      case round =>
        clear HO1 HB1
        obtain ⟨k, A1, c1, L, hk, rfl, rfl, HL, HO, HBw⟩ := hrel
        by_cases hlt : k < rs.length
        · obtain ⟨ad, hA, hab, hc, hrk⟩ := (hr.below (HBw.out.mono hB)).at_ hlt
          subst hA
          have hmb := flK_len rs (show k + 1 ≤ rs.length by omega)
          have HS := Lib.hid (flK_succ rs hlt)
          rw [HS.out, List.length_append, ← HL.out] at hmb
          have hfl := Lib.hid hrk.flat
          have hnl := Lib.hid hrk
          have hsz := HBw.out.size
          have HlO := Lib.hid HO.out.blk_lt
          clear hrk
          generalize rs[k].2.2 = ys at *
          generalize rs[k].2.1 = cy at *
          generalize rs[k].1 = Ay at *
          have hn3 : (L.length + ys.length) * 8 ≤ 140737488355328 := by omega
          have hn4 : L.length + ys.length ≤ maxLen := by unfold maxLen; omega
          cases Ay with
          | none =>
            have hy : ys = [] := hnl.out.none_len
            have HY := Lib.hid hy
            clear hnl hfl
            subst hy
            go_wp2_with (at_builtin; go_loud (refine wpL_app0 (L := LI) rowI rfl _ _ rfl rfl HO.out cy rfl ?_))
            go_roundw
            case rel => exact ⟨k + 1, A1, c1, L, by omega, by go_num, rfl, Lib.hid (by rw [HS.out, HL.out, List.append_nil]), HO, HBw⟩
            case measure => simp [intOf]; omega
          | some ay =>
            clear hnl
            go_wp2_with (at_builtin; go_loud (refine wpL_app (L := LI) rowI rfl rfl _ _ rfl rfl HO.out (some ay) ys.length cy ys rfl rfl (fun h => by cases h) (fun ad' e => by cases e; exact hfl.out ay rfl) hn4 hn3 (by exact hsz) ?_); intro A4 c4 w4 ho4 hg4)
            go_roundw
            case rel => exact ⟨k + 1, A4, c4, L ++ ys, by omega, by go_num, by simp, Lib.hid (by rw [HS.out, HL.out]), Lib.hid ho4, Lib.hid (Grew.below HBw.out hg4 hsz fun g hg => (HlO.out g hg).1)⟩
            case measure => simp [intOf]; omega
        · obtain rfl : k = rs.length := by omega
          go_wp2_with fail
          go_ret
          exact ⟨A1, c1, by rw [← HL.out]; rfl, by rw [← HL.out]; exact HO.out, HBw.out⟩
/-- a function value that asks p and leaves the world alone -/
def AskP (P : Program) (k : FuncId) (caps : Array Value) (p : Int → Bool) : Prop :=
  (∀ args w, (callFunc k args).run P w = .ok (.enter k args) w) ∧
  ∀ x w', Calls P k (#[.int .i64 x] ++ caps) w' fun e w'' => e = .returned (.bool (p x)) ∧ w' = w''
theorem Own.clear {T : TypeId} {base c g : Nat} {zs : List Int} (m : Nat) : ∀ (i : Nat) (w : World), Own LI T w base (some ⟨g, 0, none⟩) c zs → zs.length ≤ i → Own LI T (w.setCells g i (List.replicate m (.int .i64 0))) base (some ⟨g, 0, none⟩) c zs := by
  induction m with
  | zero => intro i w h _; exact h
  | succ m ih =>
    intro i w h hi
    rw [List.replicate_succ]
    have h2 := h.setInt i 0
    rw [List.set_eq_of_length_le hi] at h2
    exact ih (i + 1) _ h2 (by omega)
structure DelI (p : Int → Bool) (xs D : List Int) (i j : Nat) : Prop where
  len : D.length = xs.length
  lt : i < j
  le : j ≤ xs.length
  pre : D.take i = (xs.take j).filter (fun x => !p x)
  post : ∀ q (h : q < xs.length), j ≤ q → D[q]'(by rw [len]; exact h) = xs[q]
theorem DelI.start {p : Int → Bool} {xs : List Int} {m : Nat} (hm : m < xs.length) (hp : p xs[m] = true) (hno : ∀ j (h : j < m), p (xs[j]'(by omega)) = false) : DelI p xs xs m (m + 1) := by
  refine ⟨rfl, by omega, hm, ?_, fun _ _ _ => rfl⟩
  rw [List.take_succ_eq_append_getElem hm, List.filter_append]
  have : (xs.take m).filter (fun x => !p x) = xs.take m := by
    rw [List.filter_eq_self]
    intro x hx
    obtain ⟨j, hj, rfl⟩ := List.getElem_of_mem hx
    simp only [List.length_take] at hj
    rw [List.getElem_take]
    simp [hno j (by omega)]
  rw [this]
  simp [hp]
theorem DelI.drop {p : Int → Bool} {xs D : List Int} {i j : Nat} (h : DelI p xs D i j) (hj : j < xs.length) (hp : p xs[j] = true) : DelI p xs D i (j + 1) :=
  ⟨h.len, by have := h.lt; omega, hj, by rw [List.take_succ_eq_append_getElem hj, List.filter_append, h.pre]; simp [hp], fun q hq hjq => h.post q hq (by omega)⟩
theorem DelI.keep {p : Int → Bool} {xs D : List Int} {i j : Nat} (h : DelI p xs D i j) (hj : j < xs.length) (hp : p xs[j] = false) : DelI p xs (D.set i xs[j]) (i + 1) (j + 1) := by
  have hlt := h.lt
  have hlen := h.len
  refine ⟨by simpa using h.len, by omega, hj, ?_, fun q hq hjq => ?_⟩
  · rw [List.take_succ_eq_append_getElem (by simp; omega), List.take_set_of_le (Nat.le_refl _), h.pre, List.take_succ_eq_append_getElem hj, List.filter_append]
    simp [hp]
  · rw [List.getElem_set_ne (by omega)]
    exact h.post q hq (by omega)
set_option maxRecDepth 100000 in
set_option maxHeartbeats 1600000 in
theorem deleteFunc_any (A : Option Addr) (c : Nat) (xs : List Int) (k : FuncId) (p : Int → Bool) (base : Nat) (w : World) (ho : Own LI 2 w base A c xs) (hbase : base ≤ w.heap.size) (hp : AskP Try.prog k #[] p) :
    Calls Try.prog 63 #[.slice A xs.length c, .func (.func k) #[] #[]] w fun e w' => ∃ A' c', e = .returned (.slice A' (xs.filter fun x => !p x).length c') ∧ Own LI 2 w' base A' c' (xs.filter fun x => !p x) ∧ Below base w w' := by
  have hlen := ho.len63
  have hix := indexFunc_any A c xs k #[] p w.heap.size w (Nat.le_refl _) ho.rd ⟨hp.1, fun x _ w' _ => (hp.2 x w').mono fun e w'' h => ⟨h.1, by rw [← h.2]; exact Below.refl _ _⟩⟩
  have eg := hp.1
  have HPC := Lib.hid hp.2
  have HO := Lib.hid ho
  clear hp ho
  cases hf : xs.findIdx? p with
  | none =>
    have e1 : fIdx p xs = -1 := by unfold fIdx; rw [hf]
    rw [e1] at hix
    have HF : Hid (xs.filter (fun x => !p x) = xs) := Lib.hid (by
      rw [List.findIdx?_eq_none_iff] at hf
      rw [List.filter_eq_self]
      intro x hx
      simp [hf x hx])
    rw [HF.out]
    clear e1 hf HF
    go_enter Try.func63, Try.ntmps63
    go_wp2_with fail
    refine hix.mono ?_
    rintro e w1 ⟨rfl, hb1⟩
    have HB1 := Lib.hid hb1
    clear hb1 hix
    go_wp2_with fail
    go_ret
    exact ⟨A, c, rfl, HO.out.below HB1.out, HB1.out.mono hbase⟩
  | some m =>
    have e1 : fIdx p xs = (m : Int) := by unfold fIdx; rw [hf]
    rw [e1] at hix
    rw [List.findIdx?_eq_some_iff_getElem] at hf
    obtain ⟨hm, hpm, hmin⟩ := hf
    have HD : Hid (DelI p xs xs m (m + 1)) := Lib.hid (DelI.start hm hpm fun j hj => by simpa using hmin j hj)
    clear e1 hpm hmin
    have hmi : (m : Int) < xs.length := by omega
    have hne : ((m : Int) == -1) = false := by rw [beq_eq_false_iff_ne]; omega
    obtain ⟨g, rfl, hg1, hg2⟩ := HO.out.ptr (by omega)
    have hcap := HO.out.le
    have hcap2 := HO.out.cap
    unfold maxLen at hcap2
    have HZ0 : Hid (∀ w, (zeroValue 2).run Try.prog w = .ok (.int .i64 0) w) := Lib.hid (fun w => by kernel_rfl)
    go_enter Try.func63, Try.ntmps63
    go_wp2_with fail
    refine hix.mono ?_
    rintro e w1 ⟨rfl, hb1⟩
    have HO1 := Lib.hid (HO.out.below hb1)
    have HB1 := Lib.hid (hb1.mono hbase)
    have hs1 := hb1.size
    clear hb1 hix
    go_wp2_with fail
    go_loopw [5, 6] (fun a b wr => ∃ (i j : Nat) (D : List Int), a = .int .i64 i ∧ b = .int .i64 j ∧ i < j ∧ j ≤ xs.length ∧ Hid (DelI p xs D i j) ∧ Hid (Own LI 2 wr base (some ⟨g, 0, none⟩) c D) ∧ Hid (Below base w wr)) (fun _ b _ => xs.length - (intOf b).toNat)
    case atStart => exact ⟨m, m + 1, xs, rfl, by go_num, by omega, by omega, HD, HO1, HB1⟩
    case round =>
      clear HO1 HB1 HD
      obtain ⟨i, j, D, rfl, rfl, hij, hjx, HD, HO1, HB1⟩ := hrel
      by_cases hlt : j < xs.length
      · have hji : (j : Int) < xs.length := by omega
        have hii : (i : Int) < xs.length := by omega
        obtain ⟨g', hg', _, _, hcj, _⟩ := HO1.out.int (k := j) (by rw [HD.out.len]; exact hlt)
        cases hg'
        obtain ⟨g', hg', _, _, hci, hfi⟩ := HO1.out.int (k := i) (by rw [HD.out.len]; omega)
        cases hg'
        rw [HD.out.post j hlt (Nat.le_refl _)] at hcj
        have hpj := HPC.out xs[j]
        cases hp : p xs[j]
        · have HD2 := Lib.hid (HD.out.keep hlt hp)
          have HO2 := Lib.hid (HO1.out.setInt i xs[j])
          have HB2 := Lib.hid (HB1.out.setCell (p := ⟨g, i, none⟩) (by exact hg1) (.int .i64 xs[j]))
          have hpj2 : ∀ w', Calls Try.prog k #[.int .i64 xs[j]] w' fun e w'' => e = .returned (.bool false) ∧ w' = w'' := fun w' => by have := hpj w'; rw [hp] at this; exact this
          clear hpj hp
          generalize xs[j] = x at *
          generalize D[i]'(by have := HD.out.len; omega) = y at *
          go_wp2_with fail
          refine (hpj2 _).mono ?_
          rintro e w2 ⟨rfl, rfl⟩
          go_wp2_with fail
          go_roundw
          case rel => exact ⟨i + 1, j + 1, _, by go_num, by go_num, by omega, by omega, HD2, HO2, HB2⟩
          case measure => simp [intOf]; omega
        · have HD2 := Lib.hid (HD.out.drop hlt hp)
          have hpj2 : ∀ w', Calls Try.prog k #[.int .i64 xs[j]] w' fun e w'' => e = .returned (.bool true) ∧ w' = w'' := fun w' => by have := hpj w'; rw [hp] at this; exact this
          clear hpj hp
          generalize xs[j] = x at *
          go_wp2_with fail
          refine (hpj2 _).mono ?_
          rintro e w2 ⟨rfl, rfl⟩
          go_wp2_with fail
          go_roundw
          case rel => exact ⟨i, j + 1, D, rfl, by go_num, by omega, by omega, HD2, HO1, HB1⟩
          case measure => simp [intOf]; omega
      · obtain rfl : j = xs.length := by omega
        have hii : (i : Int) ≤ xs.length := by omega
        have hic : (i : Int) ≤ c := by omega
        have hpre := HD.out.pre
        rw [List.take_of_length_le (Nat.le_refl _)] at hpre
        have hlenF : (xs.filter (fun x => !p x)).length = i := by rw [← hpre, List.length_take, HD.out.len]; omega
        have HF := Lib.hid hpre
        have HLF := Lib.hid hlenF
        have hzero : ∀ ty, (Builtin.clear_ #[24] ty #[.slice (some ⟨g, i, none⟩) (xs.length - i) (c - i)]).run Try.prog wr = .ok (.tuple #[]) (wr.setCells g i (List.replicate (xs.length - i) (.int .i64 0))) :=
          fun ty => Lib.run_clear_slice wr _ _ ty _ Try.underlying24 HZ0.out rfl rfl g i _ _ (by omega) (fun q hq => by
            obtain ⟨g', hg', _, _, hcq, _⟩ := HO1.out.int (k := i + q) (by rw [HD.out.len]; omega)
            cases hg'
            rw [hcq]; rfl) (fun q hq => by
            obtain ⟨g', hg', _, _, _, hfq⟩ := HO1.out.int (k := i + q) (by rw [HD.out.len]; omega)
            cases hg'
            exact hfq)
        clear hpre hlenF
        go_wp2_with fail
        go_ret
        refine ⟨some ⟨g, 0, none⟩, c, by rw [HLF.out]; rfl, ?_, below_setCells hg1 _ _ _ HB1.out⟩
        have h := Own.clear (xs.length - i) i wr (HO1.out.take i) (by rw [List.length_take]; omega)
        rw [HF.out] at h
        exact h
end Go.Proofs.Ytcookepklcbfeaa
