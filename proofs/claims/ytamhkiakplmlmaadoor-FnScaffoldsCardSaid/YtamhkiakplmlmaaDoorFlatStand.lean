/-
  The struct Stand and slices of it: how it lies in memory, and the laws' own functions on it.
-/
import Derived.Test.YtamhkiakplmlmaaDoorFlat0
import Derived.Deep.RegionHeld3
namespace Go.Proofs.YtamhkiakplmlmaaDoor
open Go.ChangeShapes Go.WideShapes Go.RowKit

abbrev StandD := Int × Int × Int
def LStand : Lay StandD := ⟨3, fun x => [.int .i64 (x.1), .int .i64 (x.2.1), .int .i64 (x.2.2)], fun _ => rfl, by decide, fun x u hu => by simp at hu; rcases hu with rfl | rfl | rfl <;> rfl⟩
def OkStand (n : StandD) : Prop := I64 n.1 ∧ I64 n.2.1 ∧ I64 n.2.2
section
variable {T : TypeId} {w : World} {base B c k : Nat} {A : Option Addr} {xs : List StandD}
theorem rdStand (h : Rd LStand w B A c xs) (hk : k < xs.length) : ∃ ad, A = some ad ∧ ad.block < B ∧ w.cell? (ad.add (k * 3)) = some (.int .i64 (xs[k].1)) ∧ w.cell? ⟨(ad.add (k * 3)).block, (ad.add (k * 3)).off + 1, none⟩ = some (.int .i64 (xs[k].2.1)) ∧ w.cell? ⟨(ad.add (k * 3)).block, (ad.add (k * 3)).off + 2, none⟩ = some (.int .i64 (xs[k].2.2)) := by
  obtain ⟨ad, e, hb, h0, h1⟩ := h.field hk
  exact ⟨ad, e, hb, h0 _ rfl, h1 1 _ (by decide) rfl, h1 2 _ (by decide) rfl⟩
theorem ownStand (h : Own LStand T w base A c xs) (hk : k < xs.length) : ∃ g, A = some ⟨g, 0, none⟩ ∧ base ≤ g ∧ g < w.heap.size ∧ (w.cell? ⟨g, k * 3, none⟩ = some (.int .i64 (xs[k].1)) ∧ w.cell? ⟨g, k * 3 + 1, none⟩ = some (.int .i64 (xs[k].2.1)) ∧ w.cell? ⟨g, k * 3 + 2, none⟩ = some (.int .i64 (xs[k].2.2))) ∧ ∀ j, w.frozen? ⟨g, j, none⟩ = false := by
  obtain ⟨g, e, hb, hl, h0, h1⟩ := h.field hk
  exact ⟨g, e, hb, hl, ⟨h0 0 _ rfl, h0 1 _ rfl, h0 2 _ rfl⟩, h1⟩
theorem setStand {g : Nat} (h : Own LStand T w base (some ⟨g, 0, none⟩) c xs) (hk : k < xs.length) (x : StandD) :
    Own LStand T (((w.setCell ⟨g, k * 3, none⟩ (.int .i64 (x.1))).setCell ⟨g, k * 3 + 1, none⟩ (.int .i64 (x.2.1))).setCell ⟨g, k * 3 + 2, none⟩ (.int .i64 (x.2.2))) base (some ⟨g, 0, none⟩) c (xs.set k x) := by
  have h0 := h.setField (k := k) (by simpa using hk) 0 (by decide) (.int .i64 (x.1)) (x.1, xs[k].2.1, xs[k].2.2) (by simp [LStand])
  have h1 := h0.setField (k := k) (by simpa using hk) 1 (by decide) (.int .i64 (x.2.1)) (x.1, x.2.1, xs[k].2.2) (by simp [LStand])
  have h2 := h1.setField (k := k) (by simpa using hk) 2 (by decide) (.int .i64 (x.2.2)) (x.1, x.2.1, x.2.2) (by simp [LStand])
  simp only [List.set_set, Nat.add_zero] at h2
  exact h2
theorem setStand_0 {g : Nat} (h : Own LStand T w base (some ⟨g, 0, none⟩) c xs) (hk : k < xs.length) (u : Int) : Own LStand T (w.setCell ⟨g, k * 3, none⟩ (.int .i64 (u))) base (some ⟨g, 0, none⟩) c (xs.set k (u, xs[k].2.1, xs[k].2.2)) :=
  h.setField hk 0 (by decide) _ _ (by simp [LStand])
theorem setStand_1 {g : Nat} (h : Own LStand T w base (some ⟨g, 0, none⟩) c xs) (hk : k < xs.length) (u : Int) : Own LStand T (w.setCell ⟨g, k * 3 + 1, none⟩ (.int .i64 (u))) base (some ⟨g, 0, none⟩) c (xs.set k (xs[k].1, u, xs[k].2.2)) :=
  h.setField hk 1 (by decide) _ _ (by simp [LStand])
theorem setStand_2 {g : Nat} (h : Own LStand T w base (some ⟨g, 0, none⟩) c xs) (hk : k < xs.length) (u : Int) : Own LStand T (w.setCell ⟨g, k * 3 + 2, none⟩ (.int .i64 (u))) base (some ⟨g, 0, none⟩) c (xs.set k (xs[k].1, xs[k].2.1, u)) :=
  h.setField hk 2 (by decide) _ _ (by simp [LStand])
end






def AskStand (P : Program) (k : FuncId) (caps : Array Value) (B : Nat) (w : World) (xs : List StandD) (p : StandD → Bool) : Prop :=
  (∀ args w, (callFunc k args).run P w = .ok (.enter k args) w) ∧
  ∀ x ∈ xs, ∀ w', Below B w w' → Calls P k (#[.agg #[.int .i64 (x.1), .int .i64 (x.2.1), .int .i64 (x.2.2)]] ++ caps) w' fun e w'' => e = .returned (.bool (p x)) ∧ Below w'.heap.size w' w''
theorem indexStand_any (A : Option Addr) (c : Nat) (xs : List StandD) (k : FuncId) (caps : Array Value) (p : StandD → Bool) (B : Nat) (w : World) (hB : B ≤ w.heap.size)
    (hr : Rd LStand w B A c xs) (hp : AskStand Tryd.prog k caps B w xs p) :
    Calls Tryd.prog 57 #[.slice A xs.length c, .func (.func k) #[] caps] w fun e w' => e = .returned (.int .i64 (fIdx p xs)) ∧ Below B w w' := by
  have hlen := hr.len63
  obtain ⟨eg, hp⟩ := hp
  go_enter Tryd.func57, Tryd.ntmps57
  go_wp2_with fail
  go_loopw [5,8] (fun i j wr => ∃ k : Nat, k ≤ xs.length ∧ j = .int .i64 k ∧ (∀ y ∈ xs.take k, p y = false) ∧ Below B w wr) (fun _ j _ => xs.length - (intOf j).toNat)
  case atStart => exact ⟨0, by omega, rfl, by simp, Below.refl _ _⟩
  case round =>
    obtain ⟨m, hk, rfl, hno, hbel⟩ := hrel
    have Hno := Lib.hid hno
    clear hno
    by_cases hlt : m < xs.length
    · obtain ⟨ad, rfl, hab, hc0, hc1, hc2⟩ := rdStand (hr.below hbel) hlt
      have hpx := hp xs[m] (List.getElem_mem _) wr hbel
      have HP := Lib.hid hp
      clear hp
      go_wp2_with fail
      refine hpx.mono ?_
      rintro e w1 ⟨rfl, hb1⟩
      by_cases hpt : p xs[m] = true
      · go_wp2_with fail
        go_ret
        exact ⟨ret_int (fIdx_hit hlt Hno.out hpt).symm, bthen hbel hB hb1⟩
      · have hpf : p xs[m] = false := by simpa using hpt
        clear hpt
        go_wp2_with fail
        go_roundw
        case rel =>
          refine ⟨m + 1, by omega, by go_num, ?_, bthen hbel hB hb1⟩
          rw [List.take_succ_eq_append_getElem hlt]
          intro y hy
          rcases List.mem_append.1 hy with h | h
          · exact Hno.out y h
          · simp at h; rw [h]; exact hpf
        case measure => simp [intOf]; omega
    · go_wp2_with fail
      go_ret
      refine ⟨ret_int (fIdx_none ?_).symm, hbel⟩
      have := Hno.out
      rw [List.take_of_length_le (by omega)] at this
      exact this
theorem containsStand_any (A : Option Addr) (c : Nat) (xs : List StandD) (k : FuncId) (caps : Array Value) (p : StandD → Bool) (B : Nat) (w : World) (hB : B ≤ w.heap.size)
    (hr : Rd LStand w B A c xs) (hp : AskStand Tryd.prog k caps B w xs p) :
    Calls Tryd.prog 51 #[.slice A xs.length c, .func (.func k) #[] caps] w fun e w' => e = .returned (.bool (xs.any p)) ∧ Below B w w' := by
  have hc := indexStand_any A c xs k caps p B w hB hr hp
  obtain ⟨eg, hp⟩ := hp
  clear hp
  go_enter Tryd.func51, Tryd.ntmps51
  go_wp2_with fail
  refine hc.mono ?_
  rintro e w1 ⟨rfl, hb1⟩
  go_wp2_with fail
  go_ret
  exact ⟨ret_bool (fIdx_any p xs), hb1⟩

def atStand (k : Int) : StandD := (k, k + 1, k + 1 + 1)
def upStand (k : Int) (n : Nat) : List StandD := (List.range n).map fun (i : Nat) => atStand (k + 3 * (i : Int))
theorem upStand_len (k : Int) (n : Nat) : (upStand k n).length = n := by simp [upStand]
theorem upStand_get (k : Int) (n : Nat) {i : Nat} (h : i < (upStand k n).length) : (upStand k n)[i] = atStand (k + 3 * (i : Int)) := by simp [upStand]


def eqfStand (a b : StandD) : Bool := a.1 == b.1 && a.2.1 == b.2.1 && a.2.2 == b.2.2

end Go.Proofs.YtamhkiakplmlmaaDoor
