/-
  The struct Move and slices of it: how it lies in memory, and the laws' own functions on it.
-/
import Derived.Test.YtiefiikheaiekaaDoorFlat0
import Derived.Deep.RegionHeld3
namespace Go.Proofs.YtiefiikheaiekaaDoor
open Go.ChangeShapes Go.WideShapes Go.RowKit

abbrev MoveD := Int × Int
def LMove : Lay MoveD := ⟨2, fun x => [.int .i64 (x.1), .int .i64 (x.2)], fun _ => rfl, by decide, fun x u hu => by simp at hu; rcases hu with rfl | rfl <;> rfl⟩
def OkMove (n : MoveD) : Prop := I64 n.1 ∧ I64 n.2
section
variable {T : TypeId} {w : World} {base B c k : Nat} {A : Option Addr} {xs : List MoveD}
theorem rdMove (h : Rd LMove w B A c xs) (hk : k < xs.length) : ∃ ad, A = some ad ∧ ad.block < B ∧ w.cell? (ad.add (k * 2)) = some (.int .i64 (xs[k].1)) ∧ w.cell? ⟨(ad.add (k * 2)).block, (ad.add (k * 2)).off + 1, none⟩ = some (.int .i64 (xs[k].2)) := by
  obtain ⟨ad, e, hb, h0, h1⟩ := h.field hk
  exact ⟨ad, e, hb, h0 _ rfl, h1 1 _ (by decide) rfl⟩
theorem ownMove (h : Own LMove T w base A c xs) (hk : k < xs.length) : ∃ g, A = some ⟨g, 0, none⟩ ∧ base ≤ g ∧ g < w.heap.size ∧ (w.cell? ⟨g, k * 2, none⟩ = some (.int .i64 (xs[k].1)) ∧ w.cell? ⟨g, k * 2 + 1, none⟩ = some (.int .i64 (xs[k].2))) ∧ ∀ j, w.frozen? ⟨g, j, none⟩ = false := by
  obtain ⟨g, e, hb, hl, h0, h1⟩ := h.field hk
  exact ⟨g, e, hb, hl, ⟨h0 0 _ rfl, h0 1 _ rfl⟩, h1⟩
theorem setMove {g : Nat} (h : Own LMove T w base (some ⟨g, 0, none⟩) c xs) (hk : k < xs.length) (x : MoveD) :
    Own LMove T ((w.setCell ⟨g, k * 2, none⟩ (.int .i64 (x.1))).setCell ⟨g, k * 2 + 1, none⟩ (.int .i64 (x.2))) base (some ⟨g, 0, none⟩) c (xs.set k x) := by
  have h0 := h.setField (k := k) (by simpa using hk) 0 (by decide) (.int .i64 (x.1)) (x.1, xs[k].2) (by simp [LMove])
  have h1 := h0.setField (k := k) (by simpa using hk) 1 (by decide) (.int .i64 (x.2)) (x.1, x.2) (by simp [LMove])
  simp only [List.set_set, Nat.add_zero] at h1
  exact h1
theorem setMove_0 {g : Nat} (h : Own LMove T w base (some ⟨g, 0, none⟩) c xs) (hk : k < xs.length) (u : Int) : Own LMove T (w.setCell ⟨g, k * 2, none⟩ (.int .i64 (u))) base (some ⟨g, 0, none⟩) c (xs.set k (u, xs[k].2)) :=
  h.setField hk 0 (by decide) _ _ (by simp [LMove])
theorem setMove_1 {g : Nat} (h : Own LMove T w base (some ⟨g, 0, none⟩) c xs) (hk : k < xs.length) (u : Int) : Own LMove T (w.setCell ⟨g, k * 2 + 1, none⟩ (.int .i64 (u))) base (some ⟨g, 0, none⟩) c (xs.set k (xs[k].1, u)) :=
  h.setField hk 1 (by decide) _ _ (by simp [LMove])
end



theorem eqMove_any (f0 : Int) (f1 : Int) (w : World) :
    Calls Tryd.prog 31 #[.agg #[.int .i64 (f0), .int .i64 (f1)], .agg #[.int .i64 (f0), .int .i64 (f1)]] w fun e w' => e = .returned (.bool true) ∧ Below w.heap.size w w' := by
  go_enter Tryd.func31, Tryd.ntmps31
  go_wp2_with fail
  go_ret
  exact ⟨rfl, ((Below.refl _ _).alloc (Nat.le_refl _) _).alloc (by simp) _⟩

theorem eqMoveS_same (A : Option Addr) (c : Nat) (A2 : Option Addr) (c2 : Nat) (xs : List MoveD) (w : World) (hr : Rd LMove w w.heap.size A c xs) (hr2 : Rd LMove w w.heap.size A2 c2 xs) :
    Calls Tryd.prog 15 #[.slice A xs.length c, .slice A2 xs.length c2] w fun e w' => e = .returned (.bool true) ∧ Below w.heap.size w w' := by
  have hlen := hr.len63
  have hn : ((xs.length : Int) != (xs.length : Int)) = false := by simp
  go_enter Tryd.func15, Tryd.ntmps15
  go_wp2_with fail
  go_loopw [5] (fun i wr => ∃ k : Nat, k ≤ xs.length ∧ i = .int .i64 k ∧ Below w.heap.size w wr) (fun i _ => xs.length - (intOf i).toNat)
  case atStart => exact ⟨0, by omega, rfl, Below.refl _ _⟩
  case round =>
    obtain ⟨k, hk, rfl, hbel⟩ := hrel
    by_cases hlt : k < xs.length
    · obtain ⟨ad, rfl, hab, hc0, hc1⟩ := rdMove (hr.below hbel) hlt
      obtain ⟨ad2, rfl, hab2, hd0, hd1⟩ := rdMove (hr2.below hbel) hlt
      have hk0 : (k : Int) < xs.length := by omega
      have hs := hbel.size
      have ha1 : (ad.add (k * 2)).block < wr.heap.size := by rw [block_of_add]; omega
      have ha2 : (ad2.add (k * 2)).block < wr.heap.size := by rw [block_of_add]; omega
      go_wp2_with fail
      go_region_held3 (fun W => W.cell? (ad.add (k * 2)) = some (.int .i64 (xs[k].1)) ∧ W.cell? ⟨(ad.add (k * 2)).block, (ad.add (k * 2)).off + 1, none⟩ = some (.int .i64 (xs[k].2)) ∧ W.cell? (ad2.add (k * 2)) = some (.int .i64 (xs[k].1)) ∧ W.cell? ⟨(ad2.add (k * 2)).block, (ad2.add (k * 2)).off + 1, none⟩ = some (.int .i64 (xs[k].2)))
        (first | go_keep | (go_split_ands; refine ⟨?_, ?_, ?_, ?_⟩ <;> (refine (hc.cell ?_).trans ?_; (focus (first | exact ha1 | exact ha2)); assumption)))
        ((first | (go_at_call 31; (with_reducible refine (eqMove_any _ _ _).mono ?_); rintro e w3 ⟨rfl, hc⟩)))
      go_wp2_with fail
      go_roundw
      case rel => exact ⟨k + 1, by omega, by go_num, bthen hbel.drew (Nat.le_refl _) hc⟩
      case measure => simp [intOf]; omega
    · go_wp2_with fail
      go_ret
      exact ⟨rfl, hbel⟩


def AskMove (P : Program) (k : FuncId) (caps : Array Value) (B : Nat) (w : World) (xs : List MoveD) (p : MoveD → Bool) : Prop :=
  (∀ args w, (callFunc k args).run P w = .ok (.enter k args) w) ∧
  ∀ x ∈ xs, ∀ w', Below B w w' → Calls P k (#[.agg #[.int .i64 (x.1), .int .i64 (x.2)]] ++ caps) w' fun e w'' => e = .returned (.bool (p x)) ∧ Below w'.heap.size w' w''

def atMove (k : Int) : MoveD := (k, k + 1)
def upMove (k : Int) (n : Nat) : List MoveD := (List.range n).map fun (i : Nat) => atMove (k + 2 * (i : Int))
theorem upMove_len (k : Int) (n : Nat) : (upMove k n).length = n := by simp [upMove]
theorem upMove_get (k : Int) (n : Nat) {i : Nat} (h : i < (upMove k n).length) : (upMove k n)[i] = atMove (k + 2 * (i : Int)) := by simp [upMove]
set_option maxHeartbeats 800000 in
theorem markMoveS_any (A : Option Addr) (c : Nat) (xs : List MoveD) (k : Int) (base : Nat) (w : World) (hown : Own LMove 45 w base A c xs) (hk0 : 0 ≤ k) (hk1 : k + 2 * xs.length ≤ 4611686018427387904) :
    Calls Tryd.prog 18 #[.slice A xs.length c, .int .i64 k] w fun e w' => e = .returned (.int .i64 (k + 2 * xs.length)) ∧ Own LMove 45 w' base A c (upMove k xs.length) ∧
      Kept (fun b => blk A = some b) w w' := by
  have hlen := hown.len63
  go_enter Tryd.func18, Tryd.ntmps18
  go_wp2_with fail
  go_loopw [1, 5] (fun j i wr => ∃ m : Nat, m ≤ xs.length ∧ i = .int .i64 m ∧ j = .int .i64 (k + 2 * m) ∧ Own LMove 45 wr base A c ((upMove k xs.length).take m ++ xs.drop m) ∧
      Kept (fun b => blk A = some b) w wr) (fun _ i _ => xs.length - (intOf i).toNat)
  case atStart => exact ⟨0, by omega, rfl, by simp, by simpa using hown, Kept.refl _ _⟩
  case round =>
    obtain ⟨m, hm, rfl, rfl, hown', HF⟩ := hrel
    have hkm : k + 2 * (m : Int) ≤ 4611686018427387904 := by omega
    have hkm0 : 0 ≤ k + 2 * (m : Int) := by omega
    by_cases hlt : m < xs.length
    · have hkm2 : k + 2 * (m : Int) + 2 ≤ 4611686018427387904 := by omega
      have hl0 : m < ((upMove k xs.length).take m ++ xs.drop m).length := by simp [upMove_len]; omega
      obtain ⟨g, rfl, hbg, hgl, ⟨hd0, hd1⟩, hfz⟩ := ownMove hown' hl0
      have hpx : List.set ((upMove k xs.length).take m ++ xs.drop m) m (atMove (k + 2 * (m : Int))) = (upMove k xs.length).take (m + 1) ++ xs.drop (m + 1) := by
        rw [← upMove_get k xs.length (i := m) (by rw [upMove_len]; exact hlt)]
        exact paint_step _ _ (upMove_len _ _) hlt
      have hst := setMove hown' hl0 (atMove (k + 2 * (m : Int)))
      rw [hpx] at hst
      simp only [atMove] at hst
      have Hst := Lib.hid hst
      clear hst hpx
      go_wp2_with fail
      go_roundw
      case rel =>
        refine ⟨m + 1, by omega, by go_num, by go_num, Hst.out, HF.trans ⟨rfl, rfl, rfl, by simp, fun b hb hne => ?_⟩⟩
        have hbg : b ≠ g := fun e => hne (by rw [e]; rfl)
        exact (Below.heap_setCell _ ⟨g, _, none⟩ _ b hbg) |>.trans (Below.heap_setCell _ ⟨g, _, none⟩ _ b hbg)
      case measure => simp [intOf]; omega
    · have hmm : m = xs.length := by omega
      subst hmm
      go_wp2_with fail
      go_ret
      refine ⟨rfl, ?_, HF⟩
      rw [List.take_of_length_le (by rw [upMove_len]; exact Nat.le_refl _), List.drop_of_length_le (Nat.le_refl _), List.append_nil] at hown'
      exact hown'

set_option maxHeartbeats 800000 in
theorem heldMoveS_any (A : Option Addr) (c : Nat) (n : Nat) (k : Int) (B : Nat) (w : World) (hr : Rd LMove w B A c (upMove k n)) (hk0 : 0 ≤ k) (hk1 : k + 2 * n ≤ 4611686018427387904) :
    Calls Tryd.prog 19 #[.slice A n c, .int .i64 k] w fun e w' => e = .returned (.int .i64 (k + 2 * n)) ∧ w = w' := by
  go_enter Tryd.func19, Tryd.ntmps19
  go_wp2_with fail
  go_loop [1, 5] (fun q i => ∃ j : Nat, j ≤ n ∧ i = .int .i64 j ∧ q = .int .i64 (k + 2 * j)) (fun _ i => n - (intOf i).toNat)
  case atStart => exact ⟨0, by omega, rfl, by simp⟩
  case round =>
    obtain ⟨j, hj, rfl, rfl⟩ := hrel
    have hkm : k + 2 * (j : Int) ≤ 4611686018427387904 := by omega
    have hkm0 : 0 ≤ k + 2 * (j : Int) := by omega
    by_cases hlt : j < n
    · have hkm2 : k + 2 * (j : Int) + 2 ≤ 4611686018427387904 := by omega
      have hjl : j < (upMove k n).length := by rw [upMove_len]; exact hlt
      obtain ⟨ad, rfl, hab, hc0, hc1⟩ := rdMove hr hjl
      rw [upMove_get k n hjl] at hc0 hc1
      simp only [atMove] at hc0 hc1
      have hn0 : (((k + 2 * (j : Int))) != ((k + 2 * (j : Int)))) = false := by simp
      have hn1 : (((k + 2 * (j : Int)) + 1) != ((k + 2 * (j : Int)) + 1)) = false := by simp
      have hj0 : (j : Int) < n := by omega
      go_wp2_with fail
      go_round
      case rel => exact ⟨j + 1, by omega, by go_num, by go_num⟩
      case measure => simp [intOf]; omega
    · have hjj : j = n := by omega
      subst hjj
      go_wp2_with fail
      go_ret
      exact ⟨rfl, rfl⟩

def eqfMove (a b : MoveD) : Bool := a.1 == b.1 && a.2 == b.2

end Go.Proofs.YtiefiikheaiekaaDoor
