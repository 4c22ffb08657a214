/-
  The small functions on numbers and on slices of int64: within, outside, toInt64S, eqInt64S, markInt64S, heldInt64S, sums, IndexFunc over int64.
-/
import Derived.Test.YtiefiikheaiekaaDoorProg
import Derived.Test.YtiefiikheaiekaaDoorGrid
import Derived.Test.YtiefiikheaiekaaDoorPlain
import Derived.Deep.QuietTactic
import Derived.BigQuiet
namespace Go.Proofs.YtiefiikheaiekaaDoor
open Go.ChangeShapes Go.WideShapes Go.RowKit

theorem rowI : TyRow Tryd.prog 23 2 (.int .i64 0) LI.sz 8 := ⟨Tryd.underlying23, by kernel_rfl⟩

def inB (n lo hi : Int) : Bool := decide (lo ≤ n ∧ n ≤ hi)
theorem inB_yes {n lo hi : Int} (h : inB n lo hi = true) : lo ≤ n ∧ n ≤ hi := by simpa [inB] using h
theorem inB_mk {n lo hi : Int} (h : lo ≤ n ∧ n ≤ hi) : inB n lo hi = true := by simpa [inB] using h
theorem inB_no {n lo hi : Int} (h : ¬ (lo ≤ n ∧ n ≤ hi)) : inB n lo hi = false := by simpa [inB] using h

theorem within_any (n lo hi : Int) (w : World) :
    Calls Tryd.prog 63 #[.int .i64 n, .int .i64 lo, .int .i64 hi] w fun e w' => e = .returned (.bool (inB n lo hi)) ∧ w = w' := by
  go_enter Tryd.func63, Tryd.ntmps63
  go_wp2
  all_goals go_ret
  all_goals refine ⟨ret_bool ?_, rfl⟩
  all_goals simp [inB]
  all_goals omega

theorem l00In_any (n lo hi : Int) (w : World) :
    Calls Tryd.prog 62 #[.int .i64 n, .int .i64 lo, .int .i64 hi] w fun e w' => e = .returned (.bool (inB n lo hi)) ∧ w = w' := by
  go_enter Tryd.func62, Tryd.ntmps62
  go_wp2
  all_goals go_ret
  all_goals refine ⟨ret_bool ?_, rfl⟩
  all_goals simp [inB]
  all_goals omega


/-- slices.IndexFunc: the first place where p says yes -/
def fIdx {α : Type} (p : α → Bool) (xs : List α) : Int := match xs.findIdx? p with | some i => (i : Int) | none => -1
theorem fIdx_hit {α : Type} {p : α → Bool} {xs : List α} {m : Nat} (h : m < xs.length) (hno : ∀ y ∈ xs.take m, p y = false) (hp : p xs[m] = true) : fIdx p xs = m := by
  unfold fIdx
  have : xs.findIdx? p = some m := by
    rw [List.findIdx?_eq_some_iff_getElem]
    refine ⟨h, hp, fun j hj => ?_⟩
    have := hno xs[j] (by rw [List.mem_take_iff_getElem]; exact ⟨j, by omega, rfl⟩)
    simp [this]
  rw [this]
theorem fIdx_none {α : Type} {p : α → Bool} {xs : List α} (hno : ∀ y ∈ xs, p y = false) : fIdx p xs = -1 := by
  unfold fIdx
  have : xs.findIdx? p = none := by
    rw [List.findIdx?_eq_none_iff]; exact hno
  rw [this]
theorem fIdx_any {α : Type} (p : α → Bool) (xs : List α) : (decide (0 ≤ fIdx p xs)) = xs.any p := by
  unfold fIdx
  cases h : xs.findIdx? p with
  | none =>
    rw [List.findIdx?_eq_none_iff] at h
    have : xs.any p = false := by simpa using h
    simp [this]
  | some i =>
    rw [List.findIdx?_eq_some_iff_getElem] at h
    obtain ⟨hi, hp, _⟩ := h
    have : xs.any p = true := List.any_eq_true.2 ⟨xs[i], List.getElem_mem _, hp⟩
    simp [this]

/-- a function value that asks p, and leaves alone what lies below B -/
def AskF (P : Program) (k : FuncId) (caps : Array Value) (B : Nat) (w : World) (xs : List Int) (p : Int → Bool) : Prop :=
  (∀ args w, (callFunc k args).run P w = .ok (.enter k args) w) ∧
  ∀ x ∈ xs, ∀ w', Below B w w' → Calls P k (#[.int .i64 x] ++ caps) w' fun e w'' => e = .returned (.bool (p x)) ∧ Below w'.heap.size w' w''

theorem indexFunc_any (A : Option Addr) (c : Nat) (xs : List Int) (k : FuncId) (caps : Array Value) (p : Int → Bool) (B : Nat) (w : World) (hB : B ≤ w.heap.size)
    (hr : Rd LI w B A c xs) (hp : AskF Tryd.prog k caps B w xs p) :
    Calls Tryd.prog 59 #[.slice A xs.length c, .func (.func k) #[] caps] w fun e w' => e = .returned (.int .i64 (fIdx p xs)) ∧ Below B w w' := by
  have hlen := hr.len63
  obtain ⟨eg, hp⟩ := hp
  go_enter Tryd.func59, Tryd.ntmps59
  go_wp2_with fail
  go_loopw [5,8] (fun i j wr => ∃ k : Nat, k ≤ xs.length ∧ j = .int .i64 k ∧ (∀ y ∈ xs.take k, p y = false) ∧ Below B w wr) (fun _ j _ => xs.length - (intOf j).toNat)
  case atStart => exact ⟨0, by omega, rfl, by simp, Below.refl _ _⟩
  case round =>
    obtain ⟨m, hk, rfl, hno, hbel⟩ := hrel
    have Hno := Lib.hid hno
    clear hno
    by_cases hlt : m < xs.length
    · obtain ⟨ad, rfl, hab, hcell⟩ := (hr.below hbel).int hlt
      have hpx := hp xs[m] (List.getElem_mem _) wr hbel
      have HP := Lib.hid hp
      clear hp
      go_wp2_with fail
      refine hpx.mono ?_
      rintro e w1 ⟨rfl, hb1⟩
      by_cases hpt : p xs[m] = true
      · go_wp2_with fail
        go_ret
        exact ⟨ret_int (fIdx_hit hlt Hno.out hpt).symm, bthen hbel hB hb1⟩
      · have hpf : p xs[m] = false := by simpa using hpt
        clear hpt
        go_wp2_with fail
        go_roundw
        case rel =>
          refine ⟨m + 1, by omega, by go_num, ?_, bthen hbel hB hb1⟩
          rw [List.take_succ_eq_append_getElem hlt]
          intro y hy
          rcases List.mem_append.1 hy with h | h
          · exact Hno.out y h
          · simp at h; rw [h]; exact hpf
        case measure => simp [intOf]; omega
    · go_wp2_with fail
      go_ret
      refine ⟨ret_int (fIdx_none ?_).symm, hbel⟩
      have := Hno.out
      rw [List.take_of_length_le (by omega)] at this
      exact this
theorem containsFunc_any (A : Option Addr) (c : Nat) (xs : List Int) (k : FuncId) (caps : Array Value) (p : Int → Bool) (B : Nat) (w : World) (hB : B ≤ w.heap.size)
    (hr : Rd LI w B A c xs) (hp : AskF Tryd.prog k caps B w xs p) :
    Calls Tryd.prog 38 #[.slice A xs.length c, .func (.func k) #[] caps] w fun e w' => e = .returned (.bool (xs.any p)) ∧ Below B w w' := by
  have hc := indexFunc_any A c xs k caps p B w hB hr hp
  obtain ⟨eg, hp⟩ := hp
  clear hp
  go_enter Tryd.func38, Tryd.ntmps38
  go_wp2_with fail
  refine hc.mono ?_
  rintro e w1 ⟨rfl, hb1⟩
  go_wp2_with fail
  go_ret
  exact ⟨ret_bool (fIdx_any p xs), hb1⟩

theorem outside1_any (x lo hi : Int) (b1 b2 : Nat) (w : World) (h1 : w.cell? ⟨b1, 0, none⟩ = some (.int .i64 lo)) (h2 : w.cell? ⟨b2, 0, none⟩ = some (.int .i64 hi)) :
    Calls Tryd.prog 74 #[.int .i64 x, .pointer (some ⟨b1, 0, none⟩), .pointer (some ⟨b2, 0, none⟩)] w fun e w' => e = .returned (.bool (!inB x lo hi)) ∧ w = w' := by
  go_enter Tryd.func74, Tryd.ntmps74
  go_wp2_with (go_at_call 63; refine (within_any _ _ _ _).mono ?_; rintro e w' ⟨rfl, rfl⟩)
  go_ret
  exact ⟨rfl, rfl⟩
theorem eg_outside1 : ∀ args w, (callFunc 74 args).run Tryd.prog w = .ok (.enter 74 args) w := by
  intro args w
  kernel_rfl

def outB (xs : List Int) (lo hi : Int) : Bool := xs.any fun x => !inB x lo hi
theorem outB_no {xs : List Int} {lo hi : Int} (h : outB xs lo hi = false) : ∀ x ∈ xs, lo ≤ x ∧ x ≤ hi := by
  intro x hx
  have : ∀ y ∈ xs, inB y lo hi = true := by simpa [outB] using h
  exact inB_yes (this x hx)
theorem outB_mk {xs : List Int} {lo hi : Int} (h : ∀ x ∈ xs, lo ≤ x ∧ x ≤ hi) : outB xs lo hi = false := by
  simp only [outB, List.any_eq_false]
  intro x hx
  simp [inB_mk (h x hx)]

theorem outside_any (A : Option Addr) (c : Nat) (xs : List Int) (lo hi : Int) (w : World) (hr : Rd LI w w.heap.size A c xs) :
    Calls Tryd.prog 65 #[.slice A xs.length c, .int .i64 lo, .int .i64 hi] w fun e w' => e = .returned (.bool (outB xs lo hi)) ∧ Below w.heap.size w w' := by
  have Hr := Lib.hid hr
  clear hr
  go_enter Tryd.func65, Tryd.ntmps65
  go_wp2_with fail
  refine (containsFunc_any A c xs _ _ (fun x => !inB x lo hi) (w.heap.size + 2) _ (by simp) ?_ ⟨eg_outside1, ?_⟩).mono ?_
  · exact ((Hr.out.alloc (Nat.le_refl _) _).alloc (by simp) _).more (by omega)
  · intro x hx w' hb'
    refine (outside1_any x lo hi w.heap.size (w.heap.size + 1) w' ?_ ?_).mono ?_
    · rw [hb'.cell (by simp)]
      go_simp
    · rw [hb'.cell (by simp)]
      go_simp
    · rintro e w'' ⟨rfl, rfl⟩
      exact ⟨rfl, Below.refl _ _⟩
  · rintro e w1 ⟨rfl, hb1⟩
    go_wp2_with fail
    go_ret
    exact ⟨rfl, (((Below.refl _ _).alloc (Nat.le_refl _) _).alloc (by simp) _).trans (hb1.mono (by omega))⟩

theorem fill_step {α : Type} (xs : List α) (z : α) {k : Nat} (h : k < xs.length) : (xs.take k ++ List.replicate (xs.length - k) z).set k xs[k] = xs.take (k + 1) ++ List.replicate (xs.length - (k + 1)) z := by
  rw [List.set_append_right _ _ (by simp; omega), List.length_take, Nat.min_eq_left (by omega), Nat.sub_self, show xs.length - k = (xs.length - (k + 1)) + 1 by omega, List.replicate_succ, List.set_cons_zero, List.take_succ_eq_append_getElem h]
  simp only [List.append_assoc, List.cons_append, List.nil_append]
theorem toInt64S_any (A : Option Addr) (c : Nat) (xs : List Int) (w : World) (hr : Rd LI w w.heap.size A c xs) (hn : xs.length * 8 ≤ 281474976710656) :
    Calls Tryd.prog 9 #[.slice A xs.length c] w fun e w' => ∃ A' c', e = .returned (.slice A' xs.length c') ∧ Own LI 2 w' w.heap.size A' c' xs ∧ Below w.heap.size w w' := by
  have hlen := hr.len63
  go_enter Tryd.func9, Tryd.ntmps9
  go_wp2_with (at_make; refine wpL_make (L := LI) rowI rfl _ _ rfl .i64 .i64 _ _ xs.length rfl rfl rfl rfl (by omega) (by unfold maxLen; omega) 0 rfl ?_; intro w1 hown hb)
  go_loopw [4] (fun i wr => ∃ k : Nat, k ≤ xs.length ∧ i = .int .i64 k ∧ Own LI 2 wr w.heap.size (some ⟨w.heap.size, 0, none⟩) xs.length (xs.take k ++ List.replicate (xs.length - k) 0) ∧ Below w.heap.size w wr) (fun i _ => xs.length - (intOf i).toNat)
  case atStart => exact ⟨0, by omega, rfl, by simpa using hown, hb⟩
  case round =>
    obtain ⟨k, hk, rfl, hown, hbel⟩ := hrel
    by_cases hlt : k < xs.length
    · obtain ⟨ad, rfl, hab, hcell⟩ := (hr.below hbel).int hlt
      obtain ⟨g, hg, hbg, hgl, hcg, hfg⟩ := hown.int (k := k) (by simp; omega)
      cases hg
      go_wp2_with fail
      go_roundw
      case rel =>
        refine ⟨k + 1, by omega, by go_num, ?_, hbel.setCell (Nat.le_refl _) _⟩
        rw [← fill_step xs 0 hlt]
        exact hown.setInt k xs[k]
      case measure => simp [intOf]; omega
    · have hkk : k = xs.length := by omega
      go_wp2_with fail
      go_ret
      refine ⟨_, _, rfl, ?_, hbel⟩
      subst hkk
      simpa using hown

def eqB (xs ys : List Int) : Bool := decide (xs = ys)
theorem eqB_self (xs : List Int) : eqB xs xs = true := by simp [eqB]
theorem eqInt64S_quiet (A A2 : Option Addr) (c c2 : Nat) (xs ys : List Int) (B : Nat) (w : World) (hr : Rd LI w B A c xs) (hr2 : Rd LI w B A2 c2 ys) :
    Calls Tryd.prog 12 #[.slice A xs.length c, .slice A2 ys.length c2] w fun e w' => e = .returned (.bool (eqB xs ys)) ∧ Dr w w' := by
  have hlen := hr.len63
  have hlen2 := hr2.len63
  by_cases hl : xs.length = ys.length
  · have hn : ((xs.length : Int) != (ys.length : Int)) = false := by rw [bne_eq_false_iff_eq]; omega
    have Hl := Lib.hid hl
    clear hl
    go_enter Tryd.func12, Tryd.ntmps12
    go_wp2_with fail
    go_loopw [5] (fun i wr => ∃ k : Nat, k ≤ xs.length ∧ i = .int .i64 k ∧ xs.take k = ys.take k ∧ Dr w wr) (fun i _ => xs.length - (intOf i).toNat)
    case atStart => exact ⟨0, by omega, rfl, by simp, Dr.refl _⟩
    case round =>
      obtain ⟨k, hk, rfl, heq, hdr⟩ := hrel
      have Heq := Lib.hid heq
      clear heq
      by_cases hlt : k < xs.length
      · have hlt2 : k < ys.length := by have := Hl.out; omega
        obtain ⟨ad, rfl, hab, hcell⟩ := (hr.below hdr.below).int hlt
        obtain ⟨ad2, rfl, hab2, hcell2⟩ := (hr2.below hdr.below).int hlt2
        have hk0 : (k : Int) < xs.length := by omega
        have hk2 : (k : Int) < ys.length := by omega
        by_cases hx : xs[k] = ys[k]
        · have hne : (xs[k] != ys[k]) = false := by simp [hx]
          have Hx := Lib.hid hx
          clear hx
          go_wp2_with fail
          go_quiet (fail)
          go_wp2_with fail
          go_roundw
          case rel =>
            refine ⟨k + 1, by omega, by go_num, ?_, hdr.step _⟩
            rw [List.take_succ_eq_append_getElem hlt, List.take_succ_eq_append_getElem hlt2, Heq.out, Hx.out]
          case measure => simp [intOf]; omega
        · have hne : (xs[k] != ys[k]) = true := by simp [hx]
          go_wp2_with fail
          go_quiet (fail)
          go_wp2_with fail
          go_ret
          refine ⟨ret_bool (Eq.symm ?_), hdr.step _⟩
          simp only [eqB, decide_eq_false_iff_not]
          intro e
          subst e
          exact hx rfl
      · go_wp2_with fail
        go_ret
        refine ⟨ret_bool (Eq.symm ?_), hdr⟩
        have := Heq.out
        rw [List.take_of_length_le (by omega), List.take_of_length_le (by have := Hl.out; omega)] at this
        simp [eqB, this]
  · have hn : ((xs.length : Int) != (ys.length : Int)) = true := by rw [bne_iff_ne]; omega
    go_enter Tryd.func12, Tryd.ntmps12
    go_wp2_with fail
    go_ret
    refine ⟨ret_bool (Eq.symm ?_), Dr.refl _⟩
    simp only [eqB, decide_eq_false_iff_not]
    intro e
    exact hl (by rw [e])
theorem slicesEqual_quiet (A A2 : Option Addr) (c c2 : Nat) (xs ys : List Int) (B : Nat) (w : World) (hr : Rd LI w B A c xs) (hr2 : Rd LI w B A2 c2 ys) :
    Calls Tryd.prog 49 #[.slice A xs.length c, .slice A2 ys.length c2] w fun e w' => e = .returned (.bool (eqB xs ys)) ∧ Dr w w' := by
  have hlen := hr.len63
  have hlen2 := hr2.len63
  by_cases hl : xs.length = ys.length
  · have hn : ((xs.length : Int) != (ys.length : Int)) = false := by rw [bne_eq_false_iff_eq]; omega
    have Hl := Lib.hid hl
    clear hl
    go_enter Tryd.func49, Tryd.ntmps49
    go_wp2_with fail
    go_loopw [5, 13] (fun _ i wr => ∃ k : Nat, k ≤ xs.length ∧ i = .int .i64 k ∧ xs.take k = ys.take k ∧ Dr w wr) (fun _ i _ => xs.length - (intOf i).toNat)
    case atStart => exact ⟨0, by omega, rfl, by simp, Dr.refl _⟩
    case round =>
      obtain ⟨k, hk, rfl, heq, hdr⟩ := hrel
      have Heq := Lib.hid heq
      clear heq
      by_cases hlt : k < xs.length
      · have hlt2 : k < ys.length := by have := Hl.out; omega
        obtain ⟨ad, rfl, hab, hcell⟩ := (hr.below hdr.below).int hlt
        obtain ⟨ad2, rfl, hab2, hcell2⟩ := (hr2.below hdr.below).int hlt2
        have hk0 : (k : Int) < xs.length := by omega
        have hk2 : (k : Int) < ys.length := by omega
        by_cases hx : xs[k] = ys[k]
        · have hne : (xs[k] != ys[k]) = false := by simp [hx]
          have Hx := Lib.hid hx
          clear hx
          go_wp2_with fail
          go_quiet (fail)
          go_wp2_with fail
          go_roundw
          case rel =>
            refine ⟨k + 1, by omega, by go_num, ?_, hdr.step _⟩
            rw [List.take_succ_eq_append_getElem hlt, List.take_succ_eq_append_getElem hlt2, Heq.out, Hx.out]
          case measure => simp [intOf]; omega
        · have hne : (xs[k] != ys[k]) = true := by simp [hx]
          go_wp2_with fail
          go_quiet (fail)
          go_wp2_with fail
          go_ret
          refine ⟨ret_bool (Eq.symm ?_), hdr.step _⟩
          simp only [eqB, decide_eq_false_iff_not]
          intro e
          subst e
          exact hx rfl
      · go_wp2_with fail
        go_ret
        refine ⟨ret_bool (Eq.symm ?_), hdr⟩
        have := Heq.out
        rw [List.take_of_length_le (by omega), List.take_of_length_le (by have := Hl.out; omega)] at this
        simp [eqB, this]
  · have hn : ((xs.length : Int) != (ys.length : Int)) = true := by rw [bne_iff_ne]; omega
    go_enter Tryd.func49, Tryd.ntmps49
    go_wp2_with fail
    go_ret
    refine ⟨ret_bool (Eq.symm ?_), Dr.refl _⟩
    simp only [eqB, decide_eq_false_iff_not]
    intro e
    exact hl (by rw [e])
theorem eqInt64S_any (A A2 : Option Addr) (c c2 : Nat) (xs ys : List Int) (B : Nat) (w : World) (hB : B ≤ w.heap.size) (hr : Rd LI w B A c xs) (hr2 : Rd LI w B A2 c2 ys) :
    Calls Tryd.prog 12 #[.slice A xs.length c, .slice A2 ys.length c2] w fun e w' => e = .returned (.bool (eqB xs ys)) ∧ Below w.heap.size w w' :=
  (eqInt64S_quiet A A2 c c2 xs ys B w hr hr2).mono fun _ _ ⟨he, hw⟩ => ⟨he, hw.below⟩

theorem eqInt64S_same (A : Option Addr) (c : Nat) (A2 : Option Addr) (c2 : Nat) (xs : List Int) (w : World) (hr : Rd LI w w.heap.size A c xs) (hr2 : Rd LI w w.heap.size A2 c2 xs) :
    Calls Tryd.prog 12 #[.slice A xs.length c, .slice A2 xs.length c2] w fun e w' => e = .returned (.bool true) ∧ Below w.heap.size w w' := by
  have := eqInt64S_any A A2 c c2 xs xs _ w (Nat.le_refl _) hr hr2
  rw [eqB_self] at this
  exact this
/-- k, k + 1, .. -/
def upFrom : Int → Nat → List Int
  | _, 0 => []
  | k, n + 1 => k :: upFrom (k + 1) n
theorem upFrom_len (k : Int) (n : Nat) : (upFrom k n).length = n := by induction n generalizing k <;> simp_all [upFrom]
theorem upFrom_get (k : Int) (n i : Nat) (h : i < n) : (upFrom k n)[i]'(by rw [upFrom_len]; exact h) = k + i := by
  induction n generalizing k i with
  | zero => omega
  | succ n ih =>
    cases i with
    | zero => simp [upFrom]
    | succ i =>
      simp only [upFrom, List.getElem_cons_succ]
      rw [ih (k + 1) i (by omega)]
      omega
theorem upFrom_snoc (k : Int) (n : Nat) : upFrom k (n + 1) = upFrom k n ++ [k + n] := by
  induction n generalizing k with
  | zero => simp [upFrom]
  | succ n ih =>
    have h := ih (k + 1)
    show k :: upFrom (k + 1) (n + 1) = (k :: upFrom (k + 1) n) ++ [k + ((n + 1 : Nat) : Int)]
    rw [h]
    have : k + 1 + (n : Int) = k + ((n + 1 : Nat) : Int) := by omega
    simp [this]

theorem mark_step (xs : List Int) (k : Int) {m : Nat} (h : m < xs.length) : (upFrom k m ++ xs.drop m).set m (k + m) = upFrom k (m + 1) ++ xs.drop (m + 1) := by
  rw [List.set_append_right _ _ (by rw [upFrom_len]; omega), upFrom_len, Nat.sub_self, upFrom_snoc, List.drop_eq_getElem_cons h, List.set_cons_zero]
  simp only [List.append_assoc, List.cons_append, List.nil_append]

/-- every number becomes k, k + 1, .. -/
theorem markInt64S_any (A : Option Addr) (c : Nat) (xs : List Int) (k : Int) (base : Nat) (w : World) (hown : Own LI 2 w base A c xs) (hk0 : 0 ≤ k) (hk1 : k + xs.length ≤ 4611686018427387904) :
    Calls Tryd.prog 17 #[.slice A xs.length c, .int .i64 k] w fun e w' => e = .returned (.int .i64 (k + xs.length)) ∧ Own LI 2 w' base A c (upFrom k xs.length) ∧
      Kept (fun b => blk A = some b) w w' := by
  have hlen := hown.len63
  go_enter Tryd.func17, Tryd.ntmps17
  go_wp2_with fail
  go_loopw [1, 5] (fun j i wr => ∃ m : Nat, m ≤ xs.length ∧ i = .int .i64 m ∧ j = .int .i64 (k + m) ∧ Own LI 2 wr base A c (upFrom k m ++ xs.drop m) ∧
      Kept (fun b => blk A = some b) w wr) (fun _ i _ => xs.length - (intOf i).toNat)
  case atStart => exact ⟨0, by omega, rfl, by simp, by simpa [upFrom] using hown, Kept.refl _ _⟩
  case round =>
    obtain ⟨m, hm, rfl, rfl, hown', HF⟩ := hrel
    have hkm : k + (m : Int) ≤ 4611686018427387904 := by omega
    by_cases hlt : m < xs.length
    · obtain ⟨g, rfl, hbg, hgl, hcg, hfg⟩ := hown'.int (k := m) (by simp [upFrom_len]; omega)
      go_wp2_with fail
      go_roundw
      case rel =>
        refine ⟨m + 1, by omega, by go_num, by go_num, ?_, HF.trans ⟨rfl, rfl, rfl, by simp, fun b hb hne => Below.heap_setCell _ _ _ _ (fun e => hne (by rw [e]; rfl))⟩⟩
        · rw [← mark_step xs k hlt]
          exact hown'.setInt m _
      case measure => simp [intOf]; omega
    · have hmm : m = xs.length := by omega
      subst hmm
      go_wp2_with fail
      go_ret
      exact ⟨rfl, by simpa using hown', HF⟩



end Go.Proofs.YtiefiikheaiekaaDoor
