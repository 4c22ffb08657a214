/-
  The struct Hand and slices of it: how it lies in memory, and the laws' own functions on it.
-/
import Derived.Test.YtgoboklahocfhaaDoorFlat0
import Derived.Deep.RegionHeld3
import Derived.Test.YtgoboklahocfhaaDoorMark
namespace Go.Proofs.YtgoboklahocfhaaDoor
open Go.ChangeShapes Go.WideShapes Go.RowKit

abbrev HandD := ByteArray × Int × Bool
def LHand : Lay HandD := ⟨3, fun x => [.string x.1, .int .i64 (x.2.1), .bool x.2.2], fun _ => rfl, by decide, fun x u hu => by simp at hu; rcases hu with rfl | rfl | rfl <;> rfl⟩
def OkHand (n : HandD) : Prop := n.1.size ≤ 9223372036854775807 ∧ I64 n.2.1
section
variable {T : TypeId} {w : World} {base B c k : Nat} {A : Option Addr} {xs : List HandD}
theorem rdHand (h : Rd LHand w B A c xs) (hk : k < xs.length) : ∃ ad, A = some ad ∧ ad.block < B ∧ w.cell? (ad.add (k * 3)) = some (.string xs[k].1) ∧ w.cell? ⟨(ad.add (k * 3)).block, (ad.add (k * 3)).off + 1, none⟩ = some (.int .i64 (xs[k].2.1)) ∧ w.cell? ⟨(ad.add (k * 3)).block, (ad.add (k * 3)).off + 2, none⟩ = some (.bool xs[k].2.2) := by
  obtain ⟨ad, e, hb, h0, h1⟩ := h.field hk
  exact ⟨ad, e, hb, h0 _ rfl, h1 1 _ (by decide) rfl, h1 2 _ (by decide) rfl⟩
theorem ownHand (h : Own LHand T w base A c xs) (hk : k < xs.length) : ∃ g, A = some ⟨g, 0, none⟩ ∧ base ≤ g ∧ g < w.heap.size ∧ (w.cell? ⟨g, k * 3, none⟩ = some (.string xs[k].1) ∧ w.cell? ⟨g, k * 3 + 1, none⟩ = some (.int .i64 (xs[k].2.1)) ∧ w.cell? ⟨g, k * 3 + 2, none⟩ = some (.bool xs[k].2.2)) ∧ ∀ j, w.frozen? ⟨g, j, none⟩ = false := by
  obtain ⟨g, e, hb, hl, h0, h1⟩ := h.field hk
  exact ⟨g, e, hb, hl, ⟨h0 0 _ rfl, h0 1 _ rfl, h0 2 _ rfl⟩, h1⟩
theorem setHand {g : Nat} (h : Own LHand T w base (some ⟨g, 0, none⟩) c xs) (hk : k < xs.length) (x : HandD) :
    Own LHand T (((w.setCell ⟨g, k * 3, none⟩ (.string x.1)).setCell ⟨g, k * 3 + 1, none⟩ (.int .i64 (x.2.1))).setCell ⟨g, k * 3 + 2, none⟩ (.bool x.2.2)) base (some ⟨g, 0, none⟩) c (xs.set k x) := by
  have h0 := h.setField (k := k) (by simpa using hk) 0 (by decide) (.string x.1) (x.1, xs[k].2.1, xs[k].2.2) (by simp [LHand])
  have h1 := h0.setField (k := k) (by simpa using hk) 1 (by decide) (.int .i64 (x.2.1)) (x.1, x.2.1, xs[k].2.2) (by simp [LHand])
  have h2 := h1.setField (k := k) (by simpa using hk) 2 (by decide) (.bool x.2.2) (x.1, x.2.1, x.2.2) (by simp [LHand])
  simp only [List.set_set, Nat.add_zero] at h2
  exact h2
theorem setHand_0 {g : Nat} (h : Own LHand T w base (some ⟨g, 0, none⟩) c xs) (hk : k < xs.length) (u : ByteArray) : Own LHand T (w.setCell ⟨g, k * 3, none⟩ (.string u)) base (some ⟨g, 0, none⟩) c (xs.set k (u, xs[k].2.1, xs[k].2.2)) :=
  h.setField hk 0 (by decide) _ _ (by simp [LHand])
theorem setHand_1 {g : Nat} (h : Own LHand T w base (some ⟨g, 0, none⟩) c xs) (hk : k < xs.length) (u : Int) : Own LHand T (w.setCell ⟨g, k * 3 + 1, none⟩ (.int .i64 (u))) base (some ⟨g, 0, none⟩) c (xs.set k (xs[k].1, u, xs[k].2.2)) :=
  h.setField hk 1 (by decide) _ _ (by simp [LHand])
theorem setHand_2 {g : Nat} (h : Own LHand T w base (some ⟨g, 0, none⟩) c xs) (hk : k < xs.length) (u : Bool) : Own LHand T (w.setCell ⟨g, k * 3 + 2, none⟩ (.bool u)) base (some ⟨g, 0, none⟩) c (xs.set k (xs[k].1, xs[k].2.1, u)) :=
  h.setField hk 2 (by decide) _ _ (by simp [LHand])
end

theorem toHand_any (f0 : ByteArray) (f1 : Int) (f2 : Bool) (w : World) :
    Calls Tryd.prog 9 #[.agg #[.string f0, .int .i64 (f1), .bool f2]] w fun e w' => e = .returned (.agg #[.string f0, .int .i64 (f1), .bool f2]) ∧ Below w.heap.size w w' := by
  go_enter Tryd.func9, Tryd.ntmps9
  go_wp2_with fail
  refine bodyPost_ret (v := .agg #[.string f0, .int .i64 (f1), .bool f2]) (by simp [results, Tryd.results9, go_sem]) rfl ⟨rfl, ?_⟩
  exact (((Below.refl _ _).alloc (Nat.le_refl _) _).alloc (by simp) _).alloc (by simp <;> omega) _




theorem szHand_any (f0 : ByteArray) (f1 : Int) (f2 : Bool) (left : Int) (w : World) (h0 : 0 ≤ left) (h1 : left ≤ 1048576) (hok : OkHand (f0, f1, f2)) :
    Calls Tryd.prog 7 #[.agg #[.string f0, .int .i64 (f1), .bool f2], .int .i64 left] w fun e w' => e = .returned (.int .i64 (szN left f0.size)) ∧ Below w.heap.size w w' := by
  have hs : f0.size ≤ 9223372036854775807 := hok.1
  by_cases h : (f0.size : Int) ≤ left
  · have HV : Hid (szN left f0.size = left - f0.size) := Lib.hid (by unfold szN; rw [if_pos h])
    go_enter Tryd.func7, Tryd.ntmps7
    go_wp2_with fail
    go_ret
    exact ⟨ret_int HV.out.symm, (Below.refl _ _).alloc (Nat.le_refl _) _⟩
  · have HV : Hid (szN left f0.size = -1) := Lib.hid (by unfold szN; rw [if_neg h])
    go_enter Tryd.func7, Tryd.ntmps7
    go_wp2_with fail
    go_ret
    exact ⟨ret_int HV.out.symm, (Below.refl _ _).alloc (Nat.le_refl _) _⟩

def AskHand (P : Program) (k : FuncId) (caps : Array Value) (B : Nat) (w : World) (xs : List HandD) (p : HandD → Bool) : Prop :=
  (∀ args w, (callFunc k args).run P w = .ok (.enter k args) w) ∧
  ∀ x ∈ xs, ∀ w', Below B w w' → Calls P k (#[.agg #[.string x.1, .int .i64 (x.2.1), .bool x.2.2]] ++ caps) w' fun e w'' => e = .returned (.bool (p x)) ∧ Below w'.heap.size w' w''

def atHand (k : Int) : HandD := (mkT (k), k + 1, ((k + 1 + 1) % 3 == 0))
def upHand (k : Int) (n : Nat) : List HandD := (List.range n).map fun (i : Nat) => atHand (k + 3 * (i : Int))
theorem upHand_len (k : Int) (n : Nat) : (upHand k n).length = n := by simp [upHand]
theorem upHand_get (k : Int) (n : Nat) {i : Nat} (h : i < (upHand k n).length) : (upHand k n)[i] = atHand (k + 3 * (i : Int)) := by simp [upHand]


def eqfHand (a b : HandD) : Bool := a.1.toList == b.1.toList && a.2.1 == b.2.1 && a.2.2 == b.2.2


end Go.Proofs.YtgoboklahocfhaaDoor
