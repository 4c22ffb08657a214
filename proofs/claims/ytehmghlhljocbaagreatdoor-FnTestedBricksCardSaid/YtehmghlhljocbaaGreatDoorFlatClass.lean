/-
  The struct Class and slices of it: how it lies in memory, and the laws' own functions on it.
-/
import Derived.Test.YtehmghlhljocbaaGreatDoorFlat0
import Derived.Deep.RegionHeld3
import Derived.Test.YtehmghlhljocbaaGreatDoorMark
namespace Go.Proofs.YtehmghlhljocbaaGreatDoor
open Go.ChangeShapes Go.WideShapes Go.RowKit

abbrev ClassD := ByteArray × Int × Int × Int
def LClass : Lay ClassD := ⟨4, fun x => [.string x.1, .int .i64 (x.2.1), .int .i64 (x.2.2.1), .int .i64 (x.2.2.2)], fun _ => rfl, by decide, fun x u hu => by simp at hu; rcases hu with rfl | rfl | rfl | rfl <;> rfl⟩
def OkClass (n : ClassD) : Prop := n.1.size ≤ 9223372036854775807 ∧ I64 n.2.1 ∧ I64 n.2.2.1 ∧ I64 n.2.2.2
section
variable {T : TypeId} {w : World} {base B c k : Nat} {A : Option Addr} {xs : List ClassD}
theorem rdClass (h : Rd LClass w B A c xs) (hk : k < xs.length) : ∃ ad, A = some ad ∧ ad.block < B ∧ w.cell? (ad.add (k * 4)) = some (.string xs[k].1) ∧ w.cell? ⟨(ad.add (k * 4)).block, (ad.add (k * 4)).off + 1, none⟩ = some (.int .i64 (xs[k].2.1)) ∧ w.cell? ⟨(ad.add (k * 4)).block, (ad.add (k * 4)).off + 2, none⟩ = some (.int .i64 (xs[k].2.2.1)) ∧ w.cell? ⟨(ad.add (k * 4)).block, (ad.add (k * 4)).off + 3, none⟩ = some (.int .i64 (xs[k].2.2.2)) := by
  obtain ⟨ad, e, hb, h0, h1⟩ := h.field hk
  exact ⟨ad, e, hb, h0 _ rfl, h1 1 _ (by decide) rfl, h1 2 _ (by decide) rfl, h1 3 _ (by decide) rfl⟩
theorem ownClass (h : Own LClass T w base A c xs) (hk : k < xs.length) : ∃ g, A = some ⟨g, 0, none⟩ ∧ base ≤ g ∧ g < w.heap.size ∧ (w.cell? ⟨g, k * 4, none⟩ = some (.string xs[k].1) ∧ w.cell? ⟨g, k * 4 + 1, none⟩ = some (.int .i64 (xs[k].2.1)) ∧ w.cell? ⟨g, k * 4 + 2, none⟩ = some (.int .i64 (xs[k].2.2.1)) ∧ w.cell? ⟨g, k * 4 + 3, none⟩ = some (.int .i64 (xs[k].2.2.2))) ∧ ∀ j, w.frozen? ⟨g, j, none⟩ = false := by
  obtain ⟨g, e, hb, hl, h0, h1⟩ := h.field hk
  exact ⟨g, e, hb, hl, ⟨h0 0 _ rfl, h0 1 _ rfl, h0 2 _ rfl, h0 3 _ rfl⟩, h1⟩
theorem setClass {g : Nat} (h : Own LClass T w base (some ⟨g, 0, none⟩) c xs) (hk : k < xs.length) (x : ClassD) :
    Own LClass T ((((w.setCell ⟨g, k * 4, none⟩ (.string x.1)).setCell ⟨g, k * 4 + 1, none⟩ (.int .i64 (x.2.1))).setCell ⟨g, k * 4 + 2, none⟩ (.int .i64 (x.2.2.1))).setCell ⟨g, k * 4 + 3, none⟩ (.int .i64 (x.2.2.2))) base (some ⟨g, 0, none⟩) c (xs.set k x) := by
  have h0 := h.setField (k := k) (by simpa using hk) 0 (by decide) (.string x.1) (x.1, xs[k].2.1, xs[k].2.2.1, xs[k].2.2.2) (by simp [LClass])
  have h1 := h0.setField (k := k) (by simpa using hk) 1 (by decide) (.int .i64 (x.2.1)) (x.1, x.2.1, xs[k].2.2.1, xs[k].2.2.2) (by simp [LClass])
  have h2 := h1.setField (k := k) (by simpa using hk) 2 (by decide) (.int .i64 (x.2.2.1)) (x.1, x.2.1, x.2.2.1, xs[k].2.2.2) (by simp [LClass])
  have h3 := h2.setField (k := k) (by simpa using hk) 3 (by decide) (.int .i64 (x.2.2.2)) (x.1, x.2.1, x.2.2.1, x.2.2.2) (by simp [LClass])
  simp only [List.set_set, Nat.add_zero] at h3
  exact h3
theorem setClass_0 {g : Nat} (h : Own LClass T w base (some ⟨g, 0, none⟩) c xs) (hk : k < xs.length) (u : ByteArray) : Own LClass T (w.setCell ⟨g, k * 4, none⟩ (.string u)) base (some ⟨g, 0, none⟩) c (xs.set k (u, xs[k].2.1, xs[k].2.2.1, xs[k].2.2.2)) :=
  h.setField hk 0 (by decide) _ _ (by simp [LClass])
theorem setClass_1 {g : Nat} (h : Own LClass T w base (some ⟨g, 0, none⟩) c xs) (hk : k < xs.length) (u : Int) : Own LClass T (w.setCell ⟨g, k * 4 + 1, none⟩ (.int .i64 (u))) base (some ⟨g, 0, none⟩) c (xs.set k (xs[k].1, u, xs[k].2.2.1, xs[k].2.2.2)) :=
  h.setField hk 1 (by decide) _ _ (by simp [LClass])
theorem setClass_2 {g : Nat} (h : Own LClass T w base (some ⟨g, 0, none⟩) c xs) (hk : k < xs.length) (u : Int) : Own LClass T (w.setCell ⟨g, k * 4 + 2, none⟩ (.int .i64 (u))) base (some ⟨g, 0, none⟩) c (xs.set k (xs[k].1, xs[k].2.1, u, xs[k].2.2.2)) :=
  h.setField hk 2 (by decide) _ _ (by simp [LClass])
theorem setClass_3 {g : Nat} (h : Own LClass T w base (some ⟨g, 0, none⟩) c xs) (hk : k < xs.length) (u : Int) : Own LClass T (w.setCell ⟨g, k * 4 + 3, none⟩ (.int .i64 (u))) base (some ⟨g, 0, none⟩) c (xs.set k (xs[k].1, xs[k].2.1, xs[k].2.2.1, u)) :=
  h.setField hk 3 (by decide) _ _ (by simp [LClass])
end






def AskClass (P : Program) (k : FuncId) (caps : Array Value) (B : Nat) (w : World) (xs : List ClassD) (p : ClassD → Bool) : Prop :=
  (∀ args w, (callFunc k args).run P w = .ok (.enter k args) w) ∧
  ∀ x ∈ xs, ∀ w', Below B w w' → Calls P k (#[.agg #[.string x.1, .int .i64 (x.2.1), .int .i64 (x.2.2.1), .int .i64 (x.2.2.2)]] ++ caps) w' fun e w'' => e = .returned (.bool (p x)) ∧ Below w'.heap.size w' w''
theorem indexClass_any (A : Option Addr) (c : Nat) (xs : List ClassD) (k : FuncId) (caps : Array Value) (p : ClassD → Bool) (B : Nat) (w : World) (hB : B ≤ w.heap.size)
    (hr : Rd LClass w B A c xs) (hp : AskClass Tryz.prog k caps B w xs p) :
    Calls Tryz.prog 67 #[.slice A xs.length c, .func (.func k) #[] caps] w fun e w' => e = .returned (.int .i64 (fIdx p xs)) ∧ Below B w w' := by
  have hlen := hr.len63
  obtain ⟨eg, hp⟩ := hp
  go_enter Tryz.func67, Tryz.ntmps67
  go_wp2_with fail
  go_loopw [5,8] (fun i j wr => ∃ k : Nat, k ≤ xs.length ∧ j = .int .i64 k ∧ (∀ y ∈ xs.take k, p y = false) ∧ Below B w wr) (fun _ j _ => xs.length - (intOf j).toNat)
  case atStart => exact ⟨0, by omega, rfl, by simp, Below.refl _ _⟩
  case round =>
    obtain ⟨m, hk, rfl, hno, hbel⟩ := hrel
    have Hno := Lib.hid hno
    clear hno
    by_cases hlt : m < xs.length
    · obtain ⟨ad, rfl, hab, hc0, hc1, hc2, hc3⟩ := rdClass (hr.below hbel) hlt
      have hpx := hp xs[m] (List.getElem_mem _) wr hbel
      have HP := Lib.hid hp
      clear hp
      go_wp2_with fail
      refine hpx.mono ?_
      rintro e w1 ⟨rfl, hb1⟩
      by_cases hpt : p xs[m] = true
      · go_wp2_with fail
        go_ret
        exact ⟨ret_int (fIdx_hit hlt Hno.out hpt).symm, bthen hbel hB hb1⟩
      · have hpf : p xs[m] = false := by simpa using hpt
        clear hpt
        go_wp2_with fail
        go_roundw
        case rel =>
          refine ⟨m + 1, by omega, by go_num, ?_, bthen hbel hB hb1⟩
          rw [List.take_succ_eq_append_getElem hlt]
          intro y hy
          rcases List.mem_append.1 hy with h | h
          · exact Hno.out y h
          · simp at h; rw [h]; exact hpf
        case measure => simp [intOf]; omega
    · go_wp2_with fail
      go_ret
      refine ⟨ret_int (fIdx_none ?_).symm, hbel⟩
      have := Hno.out
      rw [List.take_of_length_le (by omega)] at this
      exact this
theorem containsClass_any (A : Option Addr) (c : Nat) (xs : List ClassD) (k : FuncId) (caps : Array Value) (p : ClassD → Bool) (B : Nat) (w : World) (hB : B ≤ w.heap.size)
    (hr : Rd LClass w B A c xs) (hp : AskClass Tryz.prog k caps B w xs p) :
    Calls Tryz.prog 35 #[.slice A xs.length c, .func (.func k) #[] caps] w fun e w' => e = .returned (.bool (xs.any p)) ∧ Below B w w' := by
  have hc := indexClass_any A c xs k caps p B w hB hr hp
  obtain ⟨eg, hp⟩ := hp
  clear hp
  go_enter Tryz.func35, Tryz.ntmps35
  go_wp2_with fail
  refine hc.mono ?_
  rintro e w1 ⟨rfl, hb1⟩
  go_wp2_with fail
  go_ret
  exact ⟨ret_bool (fIdx_any p xs), hb1⟩

def atClass (k : Int) : ClassD := (mkT (k), k + 1, k + 1 + 1, k + 1 + 1 + 1)
def upClass (k : Int) (n : Nat) : List ClassD := (List.range n).map fun (i : Nat) => atClass (k + 4 * (i : Int))
theorem upClass_len (k : Int) (n : Nat) : (upClass k n).length = n := by simp [upClass]
theorem upClass_get (k : Int) (n : Nat) {i : Nat} (h : i < (upClass k n).length) : (upClass k n)[i] = atClass (k + 4 * (i : Int)) := by simp [upClass]


def eqfClass (a b : ClassD) : Bool := a.1.toList == b.1.toList && a.2.1 == b.2.1 && a.2.2.1 == b.2.2.1 && a.2.2.2 == b.2.2.2

end Go.Proofs.YtehmghlhljocbaaGreatDoor
