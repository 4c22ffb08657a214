/-
  The struct Fraction and slices of it: how it lies in memory, and the laws' own functions on it.
-/
import Derived.Test.YtehgaeplmnojmaaFlat0
import Derived.Deep.RegionHeld3
namespace Go.Proofs.Ytehgaeplmnojmaa
open Go.ChangeShapes Go.WideShapes Go.RowKit

abbrev FractionD := Int × Int
def LFraction : Lay FractionD := ⟨2, fun x => [.int .i64 (x.1), .int .i64 (x.2)], fun _ => rfl, by decide, fun x u hu => by simp at hu; rcases hu with rfl | rfl <;> rfl⟩
def OkFraction (n : FractionD) : Prop := I64 n.1 ∧ I64 n.2
section
variable {T : TypeId} {w : World} {base B c k : Nat} {A : Option Addr} {xs : List FractionD}
theorem rdFraction (h : Rd LFraction w B A c xs) (hk : k < xs.length) : ∃ ad, A = some ad ∧ ad.block < B ∧ w.cell? (ad.add (k * 2)) = some (.int .i64 (xs[k].1)) ∧ w.cell? ⟨(ad.add (k * 2)).block, (ad.add (k * 2)).off + 1, none⟩ = some (.int .i64 (xs[k].2)) := by
  obtain ⟨ad, e, hb, h0, h1⟩ := h.field hk
  exact ⟨ad, e, hb, h0 _ rfl, h1 1 _ (by decide) rfl⟩
theorem ownFraction (h : Own LFraction T w base A c xs) (hk : k < xs.length) : ∃ g, A = some ⟨g, 0, none⟩ ∧ base ≤ g ∧ g < w.heap.size ∧ (w.cell? ⟨g, k * 2, none⟩ = some (.int .i64 (xs[k].1)) ∧ w.cell? ⟨g, k * 2 + 1, none⟩ = some (.int .i64 (xs[k].2))) ∧ ∀ j, w.frozen? ⟨g, j, none⟩ = false := by
  obtain ⟨g, e, hb, hl, h0, h1⟩ := h.field hk
  exact ⟨g, e, hb, hl, ⟨h0 0 _ rfl, h0 1 _ rfl⟩, h1⟩
theorem setFraction {g : Nat} (h : Own LFraction T w base (some ⟨g, 0, none⟩) c xs) (hk : k < xs.length) (x : FractionD) :
    Own LFraction T ((w.setCell ⟨g, k * 2, none⟩ (.int .i64 (x.1))).setCell ⟨g, k * 2 + 1, none⟩ (.int .i64 (x.2))) base (some ⟨g, 0, none⟩) c (xs.set k x) := by
  have h0 := h.setField (k := k) (by simpa using hk) 0 (by decide) (.int .i64 (x.1)) (x.1, xs[k].2) (by simp [LFraction])
  have h1 := h0.setField (k := k) (by simpa using hk) 1 (by decide) (.int .i64 (x.2)) (x.1, x.2) (by simp [LFraction])
  simp only [List.set_set, Nat.add_zero] at h1
  exact h1
theorem setFraction_0 {g : Nat} (h : Own LFraction T w base (some ⟨g, 0, none⟩) c xs) (hk : k < xs.length) (u : Int) : Own LFraction T (w.setCell ⟨g, k * 2, none⟩ (.int .i64 (u))) base (some ⟨g, 0, none⟩) c (xs.set k (u, xs[k].2)) :=
  h.setField hk 0 (by decide) _ _ (by simp [LFraction])
theorem setFraction_1 {g : Nat} (h : Own LFraction T w base (some ⟨g, 0, none⟩) c xs) (hk : k < xs.length) (u : Int) : Own LFraction T (w.setCell ⟨g, k * 2 + 1, none⟩ (.int .i64 (u))) base (some ⟨g, 0, none⟩) c (xs.set k (xs[k].1, u)) :=
  h.setField hk 1 (by decide) _ _ (by simp [LFraction])
end



theorem eqFraction_any (f0 : Int) (f1 : Int) (w : World) :
    Calls Try.prog 50 #[.agg #[.int .i64 (f0), .int .i64 (f1)], .agg #[.int .i64 (f0), .int .i64 (f1)]] w fun e w' => e = .returned (.bool true) ∧ Below w.heap.size w w' := by
  go_enter Try.func50, Try.ntmps50
  go_wp2_with fail
  go_ret
  exact ⟨rfl, ((Below.refl _ _).alloc (Nat.le_refl _) _).alloc (by simp) _⟩



def AskFraction (P : Program) (k : FuncId) (caps : Array Value) (B : Nat) (w : World) (xs : List FractionD) (p : FractionD → Bool) : Prop :=
  (∀ args w, (callFunc k args).run P w = .ok (.enter k args) w) ∧
  ∀ x ∈ xs, ∀ w', Below B w w' → Calls P k (#[.agg #[.int .i64 (x.1), .int .i64 (x.2)]] ++ caps) w' fun e w'' => e = .returned (.bool (p x)) ∧ Below w'.heap.size w' w''

def atFraction (k : Int) : FractionD := (k, k + 1)
def upFraction (k : Int) (n : Nat) : List FractionD := (List.range n).map fun (i : Nat) => atFraction (k + 2 * (i : Int))
theorem upFraction_len (k : Int) (n : Nat) : (upFraction k n).length = n := by simp [upFraction]
theorem upFraction_get (k : Int) (n : Nat) {i : Nat} (h : i < (upFraction k n).length) : (upFraction k n)[i] = atFraction (k + 2 * (i : Int)) := by simp [upFraction]


def eqfFraction (a b : FractionD) : Bool := a.1 == b.1 && a.2 == b.2

end Go.Proofs.Ytehgaeplmnojmaa
