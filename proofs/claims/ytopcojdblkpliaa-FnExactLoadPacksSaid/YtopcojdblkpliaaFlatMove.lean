/-
  The struct Move and slices of it: how it lies in memory, and the laws' own functions on it.
-/
import Derived.Test.YtopcojdblkpliaaFlat0
import Derived.Deep.RegionHeld3
namespace Go.Proofs.Ytopcojdblkpliaa
open Go.ChangeShapes Go.WideShapes Go.RowKit

abbrev MoveD := Int × Int
def LMove : Lay MoveD := ⟨2, fun x => [.int .i64 (x.1), .int .i64 (x.2)], fun _ => rfl, by decide, fun x u hu => by simp at hu; rcases hu with rfl | rfl <;> rfl⟩
def OkMove (n : MoveD) : Prop := I64 n.1 ∧ I64 n.2
theorem rowMove : TyRow Try.prog 48 39 (.agg #[.int .i64 (0), .int .i64 (0)]) LMove.sz 16 := ⟨Try.underlying48, by kernel_rfl⟩
section
variable {T : TypeId} {w : World} {base B c k : Nat} {A : Option Addr} {xs : List MoveD}
theorem rdMove (h : Rd LMove w B A c xs) (hk : k < xs.length) : ∃ ad, A = some ad ∧ ad.block < B ∧ w.cell? (ad.add (k * 2)) = some (.int .i64 (xs[k].1)) ∧ w.cell? ⟨(ad.add (k * 2)).block, (ad.add (k * 2)).off + 1, none⟩ = some (.int .i64 (xs[k].2)) := by
  obtain ⟨ad, e, hb, h0, h1⟩ := h.field hk
  exact ⟨ad, e, hb, h0 _ rfl, h1 1 _ (by decide) rfl⟩
theorem ownMove (h : Own LMove T w base A c xs) (hk : k < xs.length) : ∃ g, A = some ⟨g, 0, none⟩ ∧ base ≤ g ∧ g < w.heap.size ∧ (w.cell? ⟨g, k * 2, none⟩ = some (.int .i64 (xs[k].1)) ∧ w.cell? ⟨g, k * 2 + 1, none⟩ = some (.int .i64 (xs[k].2))) ∧ ∀ j, w.frozen? ⟨g, j, none⟩ = false := by
  obtain ⟨g, e, hb, hl, h0, h1⟩ := h.field hk
  exact ⟨g, e, hb, hl, ⟨h0 0 _ rfl, h0 1 _ rfl⟩, h1⟩
theorem setMove {g : Nat} (h : Own LMove T w base (some ⟨g, 0, none⟩) c xs) (hk : k < xs.length) (x : MoveD) :
    Own LMove T ((w.setCell ⟨g, k * 2, none⟩ (.int .i64 (x.1))).setCell ⟨g, k * 2 + 1, none⟩ (.int .i64 (x.2))) base (some ⟨g, 0, none⟩) c (xs.set k x) := by
  have h0 := h.setField (k := k) (by simpa using hk) 0 (by decide) (.int .i64 (x.1)) (x.1, xs[k].2) (by simp [LMove])
  have h1 := h0.setField (k := k) (by simpa using hk) 1 (by decide) (.int .i64 (x.2)) (x.1, x.2) (by simp [LMove])
  simp only [List.set_set, Nat.add_zero] at h1
  exact h1
theorem setMove_0 {g : Nat} (h : Own LMove T w base (some ⟨g, 0, none⟩) c xs) (hk : k < xs.length) (u : Int) : Own LMove T (w.setCell ⟨g, k * 2, none⟩ (.int .i64 (u))) base (some ⟨g, 0, none⟩) c (xs.set k (u, xs[k].2)) :=
  h.setField hk 0 (by decide) _ _ (by simp [LMove])
theorem setMove_1 {g : Nat} (h : Own LMove T w base (some ⟨g, 0, none⟩) c xs) (hk : k < xs.length) (u : Int) : Own LMove T (w.setCell ⟨g, k * 2 + 1, none⟩ (.int .i64 (u))) base (some ⟨g, 0, none⟩) c (xs.set k (xs[k].1, u)) :=
  h.setField hk 1 (by decide) _ _ (by simp [LMove])
end

theorem toMove_any (f0 : Int) (f1 : Int) (w : World) :
    Calls Try.prog 26 #[.agg #[.int .i64 (f0), .int .i64 (f1)]] w fun e w' => e = .returned (.agg #[.int .i64 (f0), .int .i64 (f1)]) ∧ Below w.heap.size w w' := by
  go_enter Try.func26, Try.ntmps26
  go_wp2_with fail
  refine bodyPost_ret (v := .agg #[.int .i64 (f0), .int .i64 (f1)]) (by simp [results, Try.results26, go_sem]) rfl ⟨rfl, ?_⟩
  exact (((Below.refl _ _).alloc (Nat.le_refl _) _).alloc (by simp) _).alloc (by simp <;> omega) _

theorem toMoveS_any (A : Option Addr) (c : Nat) (xs : List MoveD) (w : World) (hr : Rd LMove w w.heap.size A c xs) (hn : xs.length ≤ 1048576) :
    Calls Try.prog 34 #[.slice A xs.length c] w fun e w' => ∃ A' c', e = .returned (.slice A' xs.length c') ∧ Own LMove 39 w' w.heap.size A' c' xs ∧ Below w.heap.size w w' := by
  have hlen := hr.len63
  go_enter Try.func34, Try.ntmps34
  go_wp2_with (at_make; refine wpL_make (L := LMove) rowMove rfl _ _ rfl .i64 .i64 _ _ xs.length rfl rfl rfl rfl (by omega) (by unfold maxLen; omega) (0, 0) rfl ?_; intro w1 hown hb)
  go_loopw [4] (fun i wr => ∃ k : Nat, k ≤ xs.length ∧ i = .int .i64 k ∧ Own LMove 39 wr w.heap.size (some ⟨w.heap.size, 0, none⟩) xs.length (xs.take k ++ List.replicate (xs.length - k) (0, 0)) ∧ Below w.heap.size w wr) (fun i _ => xs.length - (intOf i).toNat)
  case atStart => exact ⟨0, by omega, rfl, by simpa using hown, hb⟩
  case round =>
    obtain ⟨k, hk, rfl, hown, hbel⟩ := hrel
    by_cases hlt : k < xs.length
    · obtain ⟨ad, rfl, hab, hc0, hc1⟩ := rdMove (hr.below hbel) hlt
      have hl0 : k < (xs.take k ++ List.replicate (xs.length - k) ((0, 0) : MoveD)).length := by simp; omega
      go_wp2_with fail
      refine (toMove_any _ _ _).mono ?_
      rintro e w2 ⟨rfl, hb2⟩
      have hown2 := hown.below hb2
      obtain ⟨g, hg, hbg, hgl, ⟨hd0, hd1⟩, hfz⟩ := ownMove hown2 hl0
      cases hg
      go_wp2_with fail
      go_roundw
      case rel =>
        have hst := setMove hown2 hl0 xs[k]
        rw [fill_step xs (0, 0) hlt] at hst
        exact ⟨k + 1, by omega, by go_num, hst, ((bthen hbel (Nat.le_refl _) hb2).setCell (Nat.le_refl _) _).setCell (Nat.le_refl _) _⟩
      case measure => simp [intOf]; omega
    · have hkk : k = xs.length := by omega
      go_wp2_with fail
      go_ret
      refine ⟨_, _, rfl, ?_, hbel⟩
      subst hkk
      simpa using hown

theorem eqMove_any (f0 : Int) (f1 : Int) (w : World) :
    Calls Try.prog 63 #[.agg #[.int .i64 (f0), .int .i64 (f1)], .agg #[.int .i64 (f0), .int .i64 (f1)]] w fun e w' => e = .returned (.bool true) ∧ Below w.heap.size w w' := by
  go_enter Try.func63, Try.ntmps63
  go_wp2_with fail
  go_ret
  exact ⟨rfl, ((Below.refl _ _).alloc (Nat.le_refl _) _).alloc (by simp) _⟩

theorem eqMoveS_same (A : Option Addr) (c : Nat) (A2 : Option Addr) (c2 : Nat) (xs : List MoveD) (w : World) (hr : Rd LMove w w.heap.size A c xs) (hr2 : Rd LMove w w.heap.size A2 c2 xs) :
    Calls Try.prog 36 #[.slice A xs.length c, .slice A2 xs.length c2] w fun e w' => e = .returned (.bool true) ∧ Below w.heap.size w w' := by
  have hlen := hr.len63
  have hn : ((xs.length : Int) != (xs.length : Int)) = false := by simp
  go_enter Try.func36, Try.ntmps36
  go_wp2_with fail
  go_loopw [5] (fun i wr => ∃ k : Nat, k ≤ xs.length ∧ i = .int .i64 k ∧ Below w.heap.size w wr) (fun i _ => xs.length - (intOf i).toNat)
  case atStart => exact ⟨0, by omega, rfl, Below.refl _ _⟩
  case round =>
    obtain ⟨k, hk, rfl, hbel⟩ := hrel
    by_cases hlt : k < xs.length
    · obtain ⟨ad, rfl, hab, hc0, hc1⟩ := rdMove (hr.below hbel) hlt
      obtain ⟨ad2, rfl, hab2, hd0, hd1⟩ := rdMove (hr2.below hbel) hlt
      have hk0 : (k : Int) < xs.length := by omega
      have hs := hbel.size
      have ha1 : (ad.add (k * 2)).block < wr.heap.size := by rw [block_of_add]; omega
      have ha2 : (ad2.add (k * 2)).block < wr.heap.size := by rw [block_of_add]; omega
      go_wp2_with fail
      go_region_held3 (fun W => W.cell? (ad.add (k * 2)) = some (.int .i64 (xs[k].1)) ∧ W.cell? ⟨(ad.add (k * 2)).block, (ad.add (k * 2)).off + 1, none⟩ = some (.int .i64 (xs[k].2)) ∧ W.cell? (ad2.add (k * 2)) = some (.int .i64 (xs[k].1)) ∧ W.cell? ⟨(ad2.add (k * 2)).block, (ad2.add (k * 2)).off + 1, none⟩ = some (.int .i64 (xs[k].2)))
        (first | go_keep | (go_split_ands; refine ⟨?_, ?_, ?_, ?_⟩ <;> (refine (hc.cell ?_).trans ?_; (focus (first | exact ha1 | exact ha2)); assumption)))
        ((first | (go_at_call 63; (with_reducible refine (eqMove_any _ _ _).mono ?_); rintro e w3 ⟨rfl, hc⟩)))
      go_wp2_with fail
      go_roundw
      case rel => exact ⟨k + 1, by omega, by go_num, bthen hbel.drew (Nat.le_refl _) hc⟩
      case measure => simp [intOf]; omega
    · go_wp2_with fail
      go_ret
      exact ⟨rfl, hbel⟩

theorem szMoveS_any (A : Option Addr) (c : Nat) (n : Nat) (left : Int) (w : World) (h0 : 0 ≤ left) (h1 : left ≤ 1048576) (hn : n ≤ 9223372036854775807) :
    Calls Try.prog 32 #[.slice A n c, .int .i64 left] w fun e w' => e = .returned (.int .i64 (szN left n)) ∧ w = w' := by
  by_cases h : (n : Int) ≤ left
  · have HV : Hid (szN left n = left - n) := Lib.hid (by unfold szN; rw [if_pos h])
    go_enter Try.func32, Try.ntmps32
    go_wp2_with fail
    go_ret
    exact ⟨ret_int HV.out.symm, rfl⟩
  · have HV : Hid (szN left n = -1) := Lib.hid (by unfold szN; rw [if_neg h])
    go_enter Try.func32, Try.ntmps32
    go_wp2_with fail
    go_ret
    exact ⟨ret_int HV.out.symm, rfl⟩

def AskMove (P : Program) (k : FuncId) (caps : Array Value) (B : Nat) (w : World) (xs : List MoveD) (p : MoveD → Bool) : Prop :=
  (∀ args w, (callFunc k args).run P w = .ok (.enter k args) w) ∧
  ∀ x ∈ xs, ∀ w', Below B w w' → Calls P k (#[.agg #[.int .i64 (x.1), .int .i64 (x.2)]] ++ caps) w' fun e w'' => e = .returned (.bool (p x)) ∧ Below w'.heap.size w' w''

def atMove (k : Int) : MoveD := (k, k + 1)
def upMove (k : Int) (n : Nat) : List MoveD := (List.range n).map fun (i : Nat) => atMove (k + 2 * (i : Int))
theorem upMove_len (k : Int) (n : Nat) : (upMove k n).length = n := by simp [upMove]
theorem upMove_get (k : Int) (n : Nat) {i : Nat} (h : i < (upMove k n).length) : (upMove k n)[i] = atMove (k + 2 * (i : Int)) := by simp [upMove]
set_option maxHeartbeats 800000 in
theorem markMoveS_any (A : Option Addr) (c : Nat) (xs : List MoveD) (k : Int) (base : Nat) (w : World) (hown : Own LMove 39 w base A c xs) (hk0 : 0 ≤ k) (hk1 : k + 2 * xs.length ≤ 4611686018427387904) :
    Calls Try.prog 37 #[.slice A xs.length c, .int .i64 k] w fun e w' => e = .returned (.int .i64 (k + 2 * xs.length)) ∧ Own LMove 39 w' base A c (upMove k xs.length) ∧
      Kept (fun b => blk A = some b) w w' := by
  have hlen := hown.len63
  go_enter Try.func37, Try.ntmps37
  go_wp2_with fail
  go_loopw [1, 5] (fun j i wr => ∃ m : Nat, m ≤ xs.length ∧ i = .int .i64 m ∧ j = .int .i64 (k + 2 * m) ∧ Own LMove 39 wr base A c ((upMove k xs.length).take m ++ xs.drop m) ∧
      Kept (fun b => blk A = some b) w wr) (fun _ i _ => xs.length - (intOf i).toNat)
  case atStart => exact ⟨0, by omega, rfl, by simp, by simpa using hown, Kept.refl _ _⟩
  case round =>
    obtain ⟨m, hm, rfl, rfl, hown', HF⟩ := hrel
    have hkm : k + 2 * (m : Int) ≤ 4611686018427387904 := by omega
    have hkm0 : 0 ≤ k + 2 * (m : Int) := by omega
    by_cases hlt : m < xs.length
    · have hkm2 : k + 2 * (m : Int) + 2 ≤ 4611686018427387904 := by omega
      have hl0 : m < ((upMove k xs.length).take m ++ xs.drop m).length := by simp [upMove_len]; omega
      obtain ⟨g, rfl, hbg, hgl, ⟨hd0, hd1⟩, hfz⟩ := ownMove hown' hl0
      have hpx : List.set ((upMove k xs.length).take m ++ xs.drop m) m (atMove (k + 2 * (m : Int))) = (upMove k xs.length).take (m + 1) ++ xs.drop (m + 1) := by
        rw [← upMove_get k xs.length (i := m) (by rw [upMove_len]; exact hlt)]
        exact paint_step _ _ (upMove_len _ _) hlt
      have hst := setMove hown' hl0 (atMove (k + 2 * (m : Int)))
      rw [hpx] at hst
      simp only [atMove] at hst
      have Hst := Lib.hid hst
      clear hst hpx
      go_wp2_with fail
      go_roundw
      case rel =>
        refine ⟨m + 1, by omega, by go_num, by go_num, Hst.out, HF.trans ⟨rfl, rfl, rfl, by simp, fun b hb hne => ?_⟩⟩
        have hbg : b ≠ g := fun e => hne (by rw [e]; rfl)
        exact (Below.heap_setCell _ ⟨g, _, none⟩ _ b hbg) |>.trans (Below.heap_setCell _ ⟨g, _, none⟩ _ b hbg)
      case measure => simp [intOf]; omega
    · have hmm : m = xs.length := by omega
      subst hmm
      go_wp2_with fail
      go_ret
      refine ⟨rfl, ?_, HF⟩
      rw [List.take_of_length_le (by rw [upMove_len]; exact Nat.le_refl _), List.drop_of_length_le (Nat.le_refl _), List.append_nil] at hown'
      exact hown'


def eqfMove (a b : MoveD) : Bool := a.1 == b.1 && a.2 == b.2

end Go.Proofs.Ytopcojdblkpliaa
