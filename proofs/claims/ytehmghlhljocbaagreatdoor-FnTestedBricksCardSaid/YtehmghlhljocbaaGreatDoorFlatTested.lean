/-
  The struct Tested and slices of it: how it lies in memory, and the laws' own functions on it.
-/
import Derived.Test.YtehmghlhljocbaaGreatDoorFlat0
import Derived.Deep.RegionHeld3
namespace Go.Proofs.YtehmghlhljocbaaGreatDoor
open Go.ChangeShapes Go.WideShapes Go.RowKit

abbrev TestedD := Int × Int
def LTested : Lay TestedD := ⟨2, fun x => [.int .i64 (x.1), .int .i64 (x.2)], fun _ => rfl, by decide, fun x u hu => by simp at hu; rcases hu with rfl | rfl <;> rfl⟩
def OkTested (n : TestedD) : Prop := I64 n.1 ∧ I64 n.2
section
variable {T : TypeId} {w : World} {base B c k : Nat} {A : Option Addr} {xs : List TestedD}
theorem rdTested (h : Rd LTested w B A c xs) (hk : k < xs.length) : ∃ ad, A = some ad ∧ ad.block < B ∧ w.cell? (ad.add (k * 2)) = some (.int .i64 (xs[k].1)) ∧ w.cell? ⟨(ad.add (k * 2)).block, (ad.add (k * 2)).off + 1, none⟩ = some (.int .i64 (xs[k].2)) := by
  obtain ⟨ad, e, hb, h0, h1⟩ := h.field hk
  exact ⟨ad, e, hb, h0 _ rfl, h1 1 _ (by decide) rfl⟩
theorem ownTested (h : Own LTested T w base A c xs) (hk : k < xs.length) : ∃ g, A = some ⟨g, 0, none⟩ ∧ base ≤ g ∧ g < w.heap.size ∧ (w.cell? ⟨g, k * 2, none⟩ = some (.int .i64 (xs[k].1)) ∧ w.cell? ⟨g, k * 2 + 1, none⟩ = some (.int .i64 (xs[k].2))) ∧ ∀ j, w.frozen? ⟨g, j, none⟩ = false := by
  obtain ⟨g, e, hb, hl, h0, h1⟩ := h.field hk
  exact ⟨g, e, hb, hl, ⟨h0 0 _ rfl, h0 1 _ rfl⟩, h1⟩
theorem setTested {g : Nat} (h : Own LTested T w base (some ⟨g, 0, none⟩) c xs) (hk : k < xs.length) (x : TestedD) :
    Own LTested T ((w.setCell ⟨g, k * 2, none⟩ (.int .i64 (x.1))).setCell ⟨g, k * 2 + 1, none⟩ (.int .i64 (x.2))) base (some ⟨g, 0, none⟩) c (xs.set k x) := by
  have h0 := h.setField (k := k) (by simpa using hk) 0 (by decide) (.int .i64 (x.1)) (x.1, xs[k].2) (by simp [LTested])
  have h1 := h0.setField (k := k) (by simpa using hk) 1 (by decide) (.int .i64 (x.2)) (x.1, x.2) (by simp [LTested])
  simp only [List.set_set, Nat.add_zero] at h1
  exact h1
theorem setTested_0 {g : Nat} (h : Own LTested T w base (some ⟨g, 0, none⟩) c xs) (hk : k < xs.length) (u : Int) : Own LTested T (w.setCell ⟨g, k * 2, none⟩ (.int .i64 (u))) base (some ⟨g, 0, none⟩) c (xs.set k (u, xs[k].2)) :=
  h.setField hk 0 (by decide) _ _ (by simp [LTested])
theorem setTested_1 {g : Nat} (h : Own LTested T w base (some ⟨g, 0, none⟩) c xs) (hk : k < xs.length) (u : Int) : Own LTested T (w.setCell ⟨g, k * 2 + 1, none⟩ (.int .i64 (u))) base (some ⟨g, 0, none⟩) c (xs.set k (xs[k].1, u)) :=
  h.setField hk 1 (by decide) _ _ (by simp [LTested])
end






def AskTested (P : Program) (k : FuncId) (caps : Array Value) (B : Nat) (w : World) (xs : List TestedD) (p : TestedD → Bool) : Prop :=
  (∀ args w, (callFunc k args).run P w = .ok (.enter k args) w) ∧
  ∀ x ∈ xs, ∀ w', Below B w w' → Calls P k (#[.agg #[.int .i64 (x.1), .int .i64 (x.2)]] ++ caps) w' fun e w'' => e = .returned (.bool (p x)) ∧ Below w'.heap.size w' w''
theorem indexTested_any (A : Option Addr) (c : Nat) (xs : List TestedD) (k : FuncId) (caps : Array Value) (p : TestedD → Bool) (B : Nat) (w : World) (hB : B ≤ w.heap.size)
    (hr : Rd LTested w B A c xs) (hp : AskTested Tryz.prog k caps B w xs p) :
    Calls Tryz.prog 86 #[.slice A xs.length c, .func (.func k) #[] caps] w fun e w' => e = .returned (.int .i64 (fIdx p xs)) ∧ Below B w w' := by
  have hlen := hr.len63
  obtain ⟨eg, hp⟩ := hp
  go_enter Tryz.func86, Tryz.ntmps86
  go_wp2_with fail
  go_loopw [5,8] (fun i j wr => ∃ k : Nat, k ≤ xs.length ∧ j = .int .i64 k ∧ (∀ y ∈ xs.take k, p y = false) ∧ Below B w wr) (fun _ j _ => xs.length - (intOf j).toNat)
  case atStart => exact ⟨0, by omega, rfl, by simp, Below.refl _ _⟩
  case round =>
    obtain ⟨m, hk, rfl, hno, hbel⟩ := hrel
    have Hno := Lib.hid hno
    clear hno
    by_cases hlt : m < xs.length
    · obtain ⟨ad, rfl, hab, hc0, hc1⟩ := rdTested (hr.below hbel) hlt
      have hpx := hp xs[m] (List.getElem_mem _) wr hbel
      have HP := Lib.hid hp
      clear hp
      go_wp2_with fail
      refine hpx.mono ?_
      rintro e w1 ⟨rfl, hb1⟩
      by_cases hpt : p xs[m] = true
      · go_wp2_with fail
        go_ret
        exact ⟨ret_int (fIdx_hit hlt Hno.out hpt).symm, bthen hbel hB hb1⟩
      · have hpf : p xs[m] = false := by simpa using hpt
        clear hpt
        go_wp2_with fail
        go_roundw
        case rel =>
          refine ⟨m + 1, by omega, by go_num, ?_, bthen hbel hB hb1⟩
          rw [List.take_succ_eq_append_getElem hlt]
          intro y hy
          rcases List.mem_append.1 hy with h | h
          · exact Hno.out y h
          · simp at h; rw [h]; exact hpf
        case measure => simp [intOf]; omega
    · go_wp2_with fail
      go_ret
      refine ⟨ret_int (fIdx_none ?_).symm, hbel⟩
      have := Hno.out
      rw [List.take_of_length_le (by omega)] at this
      exact this
theorem containsTested_any (A : Option Addr) (c : Nat) (xs : List TestedD) (k : FuncId) (caps : Array Value) (p : TestedD → Bool) (B : Nat) (w : World) (hB : B ≤ w.heap.size)
    (hr : Rd LTested w B A c xs) (hp : AskTested Tryz.prog k caps B w xs p) :
    Calls Tryz.prog 63 #[.slice A xs.length c, .func (.func k) #[] caps] w fun e w' => e = .returned (.bool (xs.any p)) ∧ Below B w w' := by
  have hc := indexTested_any A c xs k caps p B w hB hr hp
  obtain ⟨eg, hp⟩ := hp
  clear hp
  go_enter Tryz.func63, Tryz.ntmps63
  go_wp2_with fail
  refine hc.mono ?_
  rintro e w1 ⟨rfl, hb1⟩
  go_wp2_with fail
  go_ret
  exact ⟨ret_bool (fIdx_any p xs), hb1⟩

def atTested (k : Int) : TestedD := (k, k + 1)
def upTested (k : Int) (n : Nat) : List TestedD := (List.range n).map fun (i : Nat) => atTested (k + 2 * (i : Int))
theorem upTested_len (k : Int) (n : Nat) : (upTested k n).length = n := by simp [upTested]
theorem upTested_get (k : Int) (n : Nat) {i : Nat} (h : i < (upTested k n).length) : (upTested k n)[i] = atTested (k + 2 * (i : Int)) := by simp [upTested]


def eqfTested (a b : TestedD) : Bool := a.1 == b.1 && a.2 == b.2
theorem neqTested (x y : TestedD) (w : World) : Sem.run Tryz.prog (binOp .neq 54 (.agg #[.int .i64 (x.1), .int .i64 (x.2)]) (.agg #[.int .i64 (y.1), .int .i64 (y.2)])) w = .ok (.bool (!eqfTested x y)) w := by
  rw [run_neq_struct, run_equalIn_struct _ _ _ _ _ (by kernel_rfl) (by kernel_rfl)]
  simp [go_sem, eqfTested, Tryz.underlying54, Tryz.underlying2]
  repeat' split
  all_goals simp_all
set_option maxHeartbeats 1600000 in
theorem equalTested_quiet (A A2 : Option Addr) (c c2 : Nat) (xs ys : List TestedD) (B : Nat) (w : World) (hr : Rd LTested w B A c xs) (hr2 : Rd LTested w B A2 c2 ys) :
    Calls Tryz.prog 62 #[.slice A xs.length c, .slice A2 ys.length c2] w fun e w' => e = .returned (.bool (allEq eqfTested xs ys)) ∧ Dr w w' := by
  have hlen := hr.len63
  have hlen2 := hr2.len63
  by_cases hl : xs.length = ys.length
  · have hn : ((xs.length : Int) != (ys.length : Int)) = false := by rw [bne_eq_false_iff_eq]; omega
    have Hl := Lib.hid hl
    clear hl
    go_enter Tryz.func62, Tryz.ntmps62
    go_wp2_with fail
    go_loopw [5, 13] (fun _ i wr => ∃ k : Nat, k ≤ xs.length ∧ i = .int .i64 k ∧ Hid (allEq eqfTested xs ys = allEq eqfTested (xs.drop k) (ys.drop k)) ∧ Dr w wr) (fun _ i _ => xs.length - (intOf i).toNat)
    case atStart => exact ⟨0, by omega, rfl, Lib.hid rfl, Dr.refl _⟩
    case round =>
      obtain ⟨k, hk, rfl, Heq, hdr⟩ := hrel
      by_cases hlt : k < xs.length
      · have hlt2 : k < ys.length := by have := Hl.out; omega
        obtain ⟨ad, rfl, hab, hc0, hc1⟩ := rdTested (hr.below hdr.below) hlt
        obtain ⟨ad2, rfl, hab2, hd0, hd1⟩ := rdTested (hr2.below hdr.below) hlt2
        have hk0 : (k : Int) < xs.length := by omega
        have hk2 : (k : Int) < ys.length := by omega
        have HS := Lib.hid (allEq_step eqfTested hlt hlt2)
        have hq := neqTested xs[k] ys[k]
        cases hx : eqfTested xs[k] ys[k]
        · rw [hx] at hq HS
          go_wp2_with fail
          go_quiet (fail)
          go_wp2_with fail
          go_ret
          exact ⟨ret_bool (by rw [Heq.out, HS.out]; rfl), hdr.step _⟩
        · rw [hx] at hq HS
          go_wp2_with fail
          go_quiet (fail)
          go_wp2_with fail
          go_roundw
          case rel => exact ⟨k + 1, by omega, by go_num, Lib.hid (by rw [Heq.out, HS.out]; rfl), hdr.step _⟩
          case measure => simp [intOf]; omega
      · go_wp2_with fail
        go_ret
        exact ⟨ret_bool (by rw [Heq.out, allEq_end _ (by omega) (by have := Hl.out; omega)]), hdr⟩
  · have hn : ((xs.length : Int) != (ys.length : Int)) = true := by rw [bne_iff_ne]; omega
    go_enter Tryz.func62, Tryz.ntmps62
    go_wp2_with fail
    go_ret
    exact ⟨ret_bool (allEq_len hl).symm, Dr.refl _⟩

end Go.Proofs.YtehmghlhljocbaaGreatDoor
