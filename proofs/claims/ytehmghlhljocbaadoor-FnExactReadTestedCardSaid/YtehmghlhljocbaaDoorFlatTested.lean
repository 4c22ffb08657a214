/-
  The struct Tested and slices of it: how it lies in memory, and the laws' own functions on it.
-/
import Derived.Test.YtehmghlhljocbaaDoorFlat0
import Derived.Deep.RegionHeld3
namespace Go.Proofs.YtehmghlhljocbaaDoor
open Go.ChangeShapes Go.WideShapes Go.RowKit

abbrev TestedD := Int × Int
def LTested : Lay TestedD := ⟨2, fun x => [.int .i64 (x.1), .int .i64 (x.2)], fun _ => rfl, by decide, fun x u hu => by simp at hu; rcases hu with rfl | rfl <;> rfl⟩
def OkTested (n : TestedD) : Prop := I64 n.1 ∧ I64 n.2
section
variable {T : TypeId} {w : World} {base B c k : Nat} {A : Option Addr} {xs : List TestedD}
theorem rdTested (h : Rd LTested w B A c xs) (hk : k < xs.length) : ∃ ad, A = some ad ∧ ad.block < B ∧ w.cell? (ad.add (k * 2)) = some (.int .i64 (xs[k].1)) ∧ w.cell? ⟨(ad.add (k * 2)).block, (ad.add (k * 2)).off + 1, none⟩ = some (.int .i64 (xs[k].2)) := by
  obtain ⟨ad, e, hb, h0, h1⟩ := h.field hk
  exact ⟨ad, e, hb, h0 _ rfl, h1 1 _ (by decide) rfl⟩
theorem ownTested (h : Own LTested T w base A c xs) (hk : k < xs.length) : ∃ g, A = some ⟨g, 0, none⟩ ∧ base ≤ g ∧ g < w.heap.size ∧ (w.cell? ⟨g, k * 2, none⟩ = some (.int .i64 (xs[k].1)) ∧ w.cell? ⟨g, k * 2 + 1, none⟩ = some (.int .i64 (xs[k].2))) ∧ ∀ j, w.frozen? ⟨g, j, none⟩ = false := by
  obtain ⟨g, e, hb, hl, h0, h1⟩ := h.field hk
  exact ⟨g, e, hb, hl, ⟨h0 0 _ rfl, h0 1 _ rfl⟩, h1⟩
theorem setTested {g : Nat} (h : Own LTested T w base (some ⟨g, 0, none⟩) c xs) (hk : k < xs.length) (x : TestedD) :
    Own LTested T ((w.setCell ⟨g, k * 2, none⟩ (.int .i64 (x.1))).setCell ⟨g, k * 2 + 1, none⟩ (.int .i64 (x.2))) base (some ⟨g, 0, none⟩) c (xs.set k x) := by
  have h0 := h.setField (k := k) (by simpa using hk) 0 (by decide) (.int .i64 (x.1)) (x.1, xs[k].2) (by simp [LTested])
  have h1 := h0.setField (k := k) (by simpa using hk) 1 (by decide) (.int .i64 (x.2)) (x.1, x.2) (by simp [LTested])
  simp only [List.set_set, Nat.add_zero] at h1
  exact h1
theorem setTested_0 {g : Nat} (h : Own LTested T w base (some ⟨g, 0, none⟩) c xs) (hk : k < xs.length) (u : Int) : Own LTested T (w.setCell ⟨g, k * 2, none⟩ (.int .i64 (u))) base (some ⟨g, 0, none⟩) c (xs.set k (u, xs[k].2)) :=
  h.setField hk 0 (by decide) _ _ (by simp [LTested])
theorem setTested_1 {g : Nat} (h : Own LTested T w base (some ⟨g, 0, none⟩) c xs) (hk : k < xs.length) (u : Int) : Own LTested T (w.setCell ⟨g, k * 2 + 1, none⟩ (.int .i64 (u))) base (some ⟨g, 0, none⟩) c (xs.set k (xs[k].1, u)) :=
  h.setField hk 1 (by decide) _ _ (by simp [LTested])
end



theorem eqTested_any (f0 : Int) (f1 : Int) (w : World) :
    Calls Tryd.prog 15 #[.agg #[.int .i64 (f0), .int .i64 (f1)], .agg #[.int .i64 (f0), .int .i64 (f1)]] w fun e w' => e = .returned (.bool true) ∧ Below w.heap.size w w' := by
  go_enter Tryd.func15, Tryd.ntmps15
  go_wp2_with fail
  go_ret
  exact ⟨rfl, ((Below.refl _ _).alloc (Nat.le_refl _) _).alloc (by simp) _⟩

theorem eqTestedS_same (A : Option Addr) (c : Nat) (A2 : Option Addr) (c2 : Nat) (xs : List TestedD) (w : World) (hr : Rd LTested w w.heap.size A c xs) (hr2 : Rd LTested w w.heap.size A2 c2 xs) :
    Calls Tryd.prog 6 #[.slice A xs.length c, .slice A2 xs.length c2] w fun e w' => e = .returned (.bool true) ∧ Below w.heap.size w w' := by
  have hlen := hr.len63
  have hn : ((xs.length : Int) != (xs.length : Int)) = false := by simp
  go_enter Tryd.func6, Tryd.ntmps6
  go_wp2_with fail
  go_loopw [5] (fun i wr => ∃ k : Nat, k ≤ xs.length ∧ i = .int .i64 k ∧ Below w.heap.size w wr) (fun i _ => xs.length - (intOf i).toNat)
  case atStart => exact ⟨0, by omega, rfl, Below.refl _ _⟩
  case round =>
    obtain ⟨k, hk, rfl, hbel⟩ := hrel
    by_cases hlt : k < xs.length
    · obtain ⟨ad, rfl, hab, hc0, hc1⟩ := rdTested (hr.below hbel) hlt
      obtain ⟨ad2, rfl, hab2, hd0, hd1⟩ := rdTested (hr2.below hbel) hlt
      have hk0 : (k : Int) < xs.length := by omega
      have hs := hbel.size
      have ha1 : (ad.add (k * 2)).block < wr.heap.size := by rw [block_of_add]; omega
      have ha2 : (ad2.add (k * 2)).block < wr.heap.size := by rw [block_of_add]; omega
      go_wp2_with fail
      go_region_held3 (fun W => W.cell? (ad.add (k * 2)) = some (.int .i64 (xs[k].1)) ∧ W.cell? ⟨(ad.add (k * 2)).block, (ad.add (k * 2)).off + 1, none⟩ = some (.int .i64 (xs[k].2)) ∧ W.cell? (ad2.add (k * 2)) = some (.int .i64 (xs[k].1)) ∧ W.cell? ⟨(ad2.add (k * 2)).block, (ad2.add (k * 2)).off + 1, none⟩ = some (.int .i64 (xs[k].2)))
        (first | go_keep | (go_split_ands; refine ⟨?_, ?_, ?_, ?_⟩ <;> (refine (hc.cell ?_).trans ?_; (focus (first | exact ha1 | exact ha2)); assumption)))
        ((first | (go_at_call 15; (with_reducible refine (eqTested_any _ _ _).mono ?_); rintro e w3 ⟨rfl, hc⟩)))
      go_wp2_with fail
      go_roundw
      case rel => exact ⟨k + 1, by omega, by go_num, bthen hbel.drew (Nat.le_refl _) hc⟩
      case measure => simp [intOf]; omega
    · go_wp2_with fail
      go_ret
      exact ⟨rfl, hbel⟩


def AskTested (P : Program) (k : FuncId) (caps : Array Value) (B : Nat) (w : World) (xs : List TestedD) (p : TestedD → Bool) : Prop :=
  (∀ args w, (callFunc k args).run P w = .ok (.enter k args) w) ∧
  ∀ x ∈ xs, ∀ w', Below B w w' → Calls P k (#[.agg #[.int .i64 (x.1), .int .i64 (x.2)]] ++ caps) w' fun e w'' => e = .returned (.bool (p x)) ∧ Below w'.heap.size w' w''
theorem indexTested_any (A : Option Addr) (c : Nat) (xs : List TestedD) (k : FuncId) (caps : Array Value) (p : TestedD → Bool) (B : Nat) (w : World) (hB : B ≤ w.heap.size)
    (hr : Rd LTested w B A c xs) (hp : AskTested Tryd.prog k caps B w xs p) :
    Calls Tryd.prog 44 #[.slice A xs.length c, .func (.func k) #[] caps] w fun e w' => e = .returned (.int .i64 (fIdx p xs)) ∧ Below B w w' := by
  have hlen := hr.len63
  obtain ⟨eg, hp⟩ := hp
  go_enter Tryd.func44, Tryd.ntmps44
  go_wp2_with fail
  go_loopw [5,8] (fun i j wr => ∃ k : Nat, k ≤ xs.length ∧ j = .int .i64 k ∧ (∀ y ∈ xs.take k, p y = false) ∧ Below B w wr) (fun _ j _ => xs.length - (intOf j).toNat)
  case atStart => exact ⟨0, by omega, rfl, by simp, Below.refl _ _⟩
  case round =>
    obtain ⟨m, hk, rfl, hno, hbel⟩ := hrel
    have Hno := Lib.hid hno
    clear hno
    by_cases hlt : m < xs.length
    · obtain ⟨ad, rfl, hab, hc0, hc1⟩ := rdTested (hr.below hbel) hlt
      have hpx := hp xs[m] (List.getElem_mem _) wr hbel
      have HP := Lib.hid hp
      clear hp
      go_wp2_with fail
      refine hpx.mono ?_
      rintro e w1 ⟨rfl, hb1⟩
      by_cases hpt : p xs[m] = true
      · go_wp2_with fail
        go_ret
        exact ⟨ret_int (fIdx_hit hlt Hno.out hpt).symm, bthen hbel hB hb1⟩
      · have hpf : p xs[m] = false := by simpa using hpt
        clear hpt
        go_wp2_with fail
        go_roundw
        case rel =>
          refine ⟨m + 1, by omega, by go_num, ?_, bthen hbel hB hb1⟩
          rw [List.take_succ_eq_append_getElem hlt]
          intro y hy
          rcases List.mem_append.1 hy with h | h
          · exact Hno.out y h
          · simp at h; rw [h]; exact hpf
        case measure => simp [intOf]; omega
    · go_wp2_with fail
      go_ret
      refine ⟨ret_int (fIdx_none ?_).symm, hbel⟩
      have := Hno.out
      rw [List.take_of_length_le (by omega)] at this
      exact this
theorem containsTested_any (A : Option Addr) (c : Nat) (xs : List TestedD) (k : FuncId) (caps : Array Value) (p : TestedD → Bool) (B : Nat) (w : World) (hB : B ≤ w.heap.size)
    (hr : Rd LTested w B A c xs) (hp : AskTested Tryd.prog k caps B w xs p) :
    Calls Tryd.prog 30 #[.slice A xs.length c, .func (.func k) #[] caps] w fun e w' => e = .returned (.bool (xs.any p)) ∧ Below B w w' := by
  have hc := indexTested_any A c xs k caps p B w hB hr hp
  obtain ⟨eg, hp⟩ := hp
  clear hp
  go_enter Tryd.func30, Tryd.ntmps30
  go_wp2_with fail
  refine hc.mono ?_
  rintro e w1 ⟨rfl, hb1⟩
  go_wp2_with fail
  go_ret
  exact ⟨ret_bool (fIdx_any p xs), hb1⟩

def atTested (k : Int) : TestedD := (k, k + 1)
def upTested (k : Int) (n : Nat) : List TestedD := (List.range n).map fun (i : Nat) => atTested (k + 2 * (i : Int))
theorem upTested_len (k : Int) (n : Nat) : (upTested k n).length = n := by simp [upTested]
theorem upTested_get (k : Int) (n : Nat) {i : Nat} (h : i < (upTested k n).length) : (upTested k n)[i] = atTested (k + 2 * (i : Int)) := by simp [upTested]
set_option maxHeartbeats 800000 in
theorem markTestedS_any (A : Option Addr) (c : Nat) (xs : List TestedD) (k : Int) (base : Nat) (w : World) (hown : Own LTested 33 w base A c xs) (hk0 : 0 ≤ k) (hk1 : k + 2 * xs.length ≤ 4611686018427387904) :
    Calls Tryd.prog 7 #[.slice A xs.length c, .int .i64 k] w fun e w' => e = .returned (.int .i64 (k + 2 * xs.length)) ∧ Own LTested 33 w' base A c (upTested k xs.length) ∧
      Kept (fun b => blk A = some b) w w' := by
  have hlen := hown.len63
  go_enter Tryd.func7, Tryd.ntmps7
  go_wp2_with fail
  go_loopw [1, 5] (fun j i wr => ∃ m : Nat, m ≤ xs.length ∧ i = .int .i64 m ∧ j = .int .i64 (k + 2 * m) ∧ Own LTested 33 wr base A c ((upTested k xs.length).take m ++ xs.drop m) ∧
      Kept (fun b => blk A = some b) w wr) (fun _ i _ => xs.length - (intOf i).toNat)
  case atStart => exact ⟨0, by omega, rfl, by simp, by simpa using hown, Kept.refl _ _⟩
  case round =>
    obtain ⟨m, hm, rfl, rfl, hown', HF⟩ := hrel
    have hkm : k + 2 * (m : Int) ≤ 4611686018427387904 := by omega
    have hkm0 : 0 ≤ k + 2 * (m : Int) := by omega
    by_cases hlt : m < xs.length
    · have hkm2 : k + 2 * (m : Int) + 2 ≤ 4611686018427387904 := by omega
      have hl0 : m < ((upTested k xs.length).take m ++ xs.drop m).length := by simp [upTested_len]; omega
      obtain ⟨g, rfl, hbg, hgl, ⟨hd0, hd1⟩, hfz⟩ := ownTested hown' hl0
      have hpx : List.set ((upTested k xs.length).take m ++ xs.drop m) m (atTested (k + 2 * (m : Int))) = (upTested k xs.length).take (m + 1) ++ xs.drop (m + 1) := by
        rw [← upTested_get k xs.length (i := m) (by rw [upTested_len]; exact hlt)]
        exact paint_step _ _ (upTested_len _ _) hlt
      have hst := setTested hown' hl0 (atTested (k + 2 * (m : Int)))
      rw [hpx] at hst
      simp only [atTested] at hst
      have Hst := Lib.hid hst
      clear hst hpx
      go_wp2_with fail
      go_roundw
      case rel =>
        refine ⟨m + 1, by omega, by go_num, by go_num, Hst.out, HF.trans ⟨rfl, rfl, rfl, by simp, fun b hb hne => ?_⟩⟩
        have hbg : b ≠ g := fun e => hne (by rw [e]; rfl)
        exact (Below.heap_setCell _ ⟨g, _, none⟩ _ b hbg) |>.trans (Below.heap_setCell _ ⟨g, _, none⟩ _ b hbg)
      case measure => simp [intOf]; omega
    · have hmm : m = xs.length := by omega
      subst hmm
      go_wp2_with fail
      go_ret
      refine ⟨rfl, ?_, HF⟩
      rw [List.take_of_length_le (by rw [upTested_len]; exact Nat.le_refl _), List.drop_of_length_le (Nat.le_refl _), List.append_nil] at hown'
      exact hown'

set_option maxHeartbeats 800000 in
theorem heldTestedS_any (A : Option Addr) (c : Nat) (n : Nat) (k : Int) (B : Nat) (w : World) (hr : Rd LTested w B A c (upTested k n)) (hk0 : 0 ≤ k) (hk1 : k + 2 * n ≤ 4611686018427387904) :
    Calls Tryd.prog 8 #[.slice A n c, .int .i64 k] w fun e w' => e = .returned (.int .i64 (k + 2 * n)) ∧ w = w' := by
  go_enter Tryd.func8, Tryd.ntmps8
  go_wp2_with fail
  go_loop [1, 5] (fun q i => ∃ j : Nat, j ≤ n ∧ i = .int .i64 j ∧ q = .int .i64 (k + 2 * j)) (fun _ i => n - (intOf i).toNat)
  case atStart => exact ⟨0, by omega, rfl, by simp⟩
  case round =>
    obtain ⟨j, hj, rfl, rfl⟩ := hrel
    have hkm : k + 2 * (j : Int) ≤ 4611686018427387904 := by omega
    have hkm0 : 0 ≤ k + 2 * (j : Int) := by omega
    by_cases hlt : j < n
    · have hkm2 : k + 2 * (j : Int) + 2 ≤ 4611686018427387904 := by omega
      have hjl : j < (upTested k n).length := by rw [upTested_len]; exact hlt
      obtain ⟨ad, rfl, hab, hc0, hc1⟩ := rdTested hr hjl
      rw [upTested_get k n hjl] at hc0 hc1
      simp only [atTested] at hc0 hc1
      have hn0 : (((k + 2 * (j : Int))) != ((k + 2 * (j : Int)))) = false := by simp
      have hn1 : (((k + 2 * (j : Int)) + 1) != ((k + 2 * (j : Int)) + 1)) = false := by simp
      have hj0 : (j : Int) < n := by omega
      go_wp2_with fail
      go_round
      case rel => exact ⟨j + 1, by omega, by go_num, by go_num⟩
      case measure => simp [intOf]; omega
    · have hjj : j = n := by omega
      subst hjj
      go_wp2_with fail
      go_ret
      exact ⟨rfl, rfl⟩

def eqfTested (a b : TestedD) : Bool := a.1 == b.1 && a.2 == b.2

end Go.Proofs.YtehmghlhljocbaaDoor
