/-
  The struct Tested and slices of it: how it lies in memory, and the laws' own functions on it.
-/
import Derived.Test.YtgoboklahocfhaaDoorFlat0
import Derived.Deep.RegionHeld3
namespace Go.Proofs.YtgoboklahocfhaaDoor
open Go.ChangeShapes Go.WideShapes Go.RowKit

abbrev TestedD := Int × Int
def LTested : Lay TestedD := ⟨2, fun x => [.int .i64 (x.1), .int .i64 (x.2)], fun _ => rfl, by decide, fun x u hu => by simp at hu; rcases hu with rfl | rfl <;> rfl⟩
def OkTested (n : TestedD) : Prop := I64 n.1 ∧ I64 n.2
theorem rowTested : TyRow Tryd.prog 32 57 (.agg #[.int .i64 (0), .int .i64 (0)]) LTested.sz 16 := ⟨Tryd.underlying32, by kernel_rfl⟩
section
variable {T : TypeId} {w : World} {base B c k : Nat} {A : Option Addr} {xs : List TestedD}
theorem rdTested (h : Rd LTested w B A c xs) (hk : k < xs.length) : ∃ ad, A = some ad ∧ ad.block < B ∧ w.cell? (ad.add (k * 2)) = some (.int .i64 (xs[k].1)) ∧ w.cell? ⟨(ad.add (k * 2)).block, (ad.add (k * 2)).off + 1, none⟩ = some (.int .i64 (xs[k].2)) := by
  obtain ⟨ad, e, hb, h0, h1⟩ := h.field hk
  exact ⟨ad, e, hb, h0 _ rfl, h1 1 _ (by decide) rfl⟩
theorem ownTested (h : Own LTested T w base A c xs) (hk : k < xs.length) : ∃ g, A = some ⟨g, 0, none⟩ ∧ base ≤ g ∧ g < w.heap.size ∧ (w.cell? ⟨g, k * 2, none⟩ = some (.int .i64 (xs[k].1)) ∧ w.cell? ⟨g, k * 2 + 1, none⟩ = some (.int .i64 (xs[k].2))) ∧ ∀ j, w.frozen? ⟨g, j, none⟩ = false := by
  obtain ⟨g, e, hb, hl, h0, h1⟩ := h.field hk
  exact ⟨g, e, hb, hl, ⟨h0 0 _ rfl, h0 1 _ rfl⟩, h1⟩
theorem setTested {g : Nat} (h : Own LTested T w base (some ⟨g, 0, none⟩) c xs) (hk : k < xs.length) (x : TestedD) :
    Own LTested T ((w.setCell ⟨g, k * 2, none⟩ (.int .i64 (x.1))).setCell ⟨g, k * 2 + 1, none⟩ (.int .i64 (x.2))) base (some ⟨g, 0, none⟩) c (xs.set k x) := by
  have h0 := h.setField (k := k) (by simpa using hk) 0 (by decide) (.int .i64 (x.1)) (x.1, xs[k].2) (by simp [LTested])
  have h1 := h0.setField (k := k) (by simpa using hk) 1 (by decide) (.int .i64 (x.2)) (x.1, x.2) (by simp [LTested])
  simp only [List.set_set, Nat.add_zero] at h1
  exact h1
theorem setTested_0 {g : Nat} (h : Own LTested T w base (some ⟨g, 0, none⟩) c xs) (hk : k < xs.length) (u : Int) : Own LTested T (w.setCell ⟨g, k * 2, none⟩ (.int .i64 (u))) base (some ⟨g, 0, none⟩) c (xs.set k (u, xs[k].2)) :=
  h.setField hk 0 (by decide) _ _ (by simp [LTested])
theorem setTested_1 {g : Nat} (h : Own LTested T w base (some ⟨g, 0, none⟩) c xs) (hk : k < xs.length) (u : Int) : Own LTested T (w.setCell ⟨g, k * 2 + 1, none⟩ (.int .i64 (u))) base (some ⟨g, 0, none⟩) c (xs.set k (xs[k].1, u)) :=
  h.setField hk 1 (by decide) _ _ (by simp [LTested])
end

theorem toTested_any (f0 : Int) (f1 : Int) (w : World) :
    Calls Tryd.prog 32 #[.agg #[.int .i64 (f0), .int .i64 (f1)]] w fun e w' => e = .returned (.agg #[.int .i64 (f0), .int .i64 (f1)]) ∧ Below w.heap.size w w' := by
  go_enter Tryd.func32, Tryd.ntmps32
  go_wp2_with fail
  refine bodyPost_ret (v := .agg #[.int .i64 (f0), .int .i64 (f1)]) (by simp [results, Tryd.results32, go_sem]) rfl ⟨rfl, ?_⟩
  exact (((Below.refl _ _).alloc (Nat.le_refl _) _).alloc (by simp) _).alloc (by simp <;> omega) _

theorem toTestedS_any (A : Option Addr) (c : Nat) (xs : List TestedD) (w : World) (hr : Rd LTested w w.heap.size A c xs) (hn : xs.length ≤ 1048576) :
    Calls Tryd.prog 13 #[.slice A xs.length c] w fun e w' => ∃ A' c', e = .returned (.slice A' xs.length c') ∧ Own LTested 57 w' w.heap.size A' c' xs ∧ Below w.heap.size w w' := by
  have hlen := hr.len63
  go_enter Tryd.func13, Tryd.ntmps13
  go_wp2_with (at_make; refine wpL_make (L := LTested) rowTested rfl _ _ rfl .i64 .i64 _ _ xs.length rfl rfl rfl rfl (by omega) (by unfold maxLen; omega) (0, 0) rfl ?_; intro w1 hown hb)
  go_loopw [4] (fun i wr => ∃ k : Nat, k ≤ xs.length ∧ i = .int .i64 k ∧ Own LTested 57 wr w.heap.size (some ⟨w.heap.size, 0, none⟩) xs.length (xs.take k ++ List.replicate (xs.length - k) (0, 0)) ∧ Below w.heap.size w wr) (fun i _ => xs.length - (intOf i).toNat)
  case atStart => exact ⟨0, by omega, rfl, by simpa using hown, hb⟩
  case round =>
    obtain ⟨k, hk, rfl, hown, hbel⟩ := hrel
    by_cases hlt : k < xs.length
    · obtain ⟨ad, rfl, hab, hc0, hc1⟩ := rdTested (hr.below hbel) hlt
      have hl0 : k < (xs.take k ++ List.replicate (xs.length - k) ((0, 0) : TestedD)).length := by simp; omega
      go_wp2_with fail
      refine (toTested_any _ _ _).mono ?_
      rintro e w2 ⟨rfl, hb2⟩
      have hown2 := hown.below hb2
      obtain ⟨g, hg, hbg, hgl, ⟨hd0, hd1⟩, hfz⟩ := ownTested hown2 hl0
      cases hg
      go_wp2_with fail
      go_roundw
      case rel =>
        have hst := setTested hown2 hl0 xs[k]
        rw [fill_step xs (0, 0) hlt] at hst
        exact ⟨k + 1, by omega, by go_num, hst, ((bthen hbel (Nat.le_refl _) hb2).setCell (Nat.le_refl _) _).setCell (Nat.le_refl _) _⟩
      case measure => simp [intOf]; omega
    · have hkk : k = xs.length := by omega
      go_wp2_with fail
      go_ret
      refine ⟨_, _, rfl, ?_, hbel⟩
      subst hkk
      simpa using hown

theorem eqTested_any (f0 : Int) (f1 : Int) (w : World) :
    Calls Tryd.prog 35 #[.agg #[.int .i64 (f0), .int .i64 (f1)], .agg #[.int .i64 (f0), .int .i64 (f1)]] w fun e w' => e = .returned (.bool true) ∧ Below w.heap.size w w' := by
  go_enter Tryd.func35, Tryd.ntmps35
  go_wp2_with fail
  go_ret
  exact ⟨rfl, ((Below.refl _ _).alloc (Nat.le_refl _) _).alloc (by simp) _⟩

theorem eqTestedS_same (A : Option Addr) (c : Nat) (A2 : Option Addr) (c2 : Nat) (xs : List TestedD) (w : World) (hr : Rd LTested w w.heap.size A c xs) (hr2 : Rd LTested w w.heap.size A2 c2 xs) :
    Calls Tryd.prog 15 #[.slice A xs.length c, .slice A2 xs.length c2] w fun e w' => e = .returned (.bool true) ∧ Below w.heap.size w w' := by
  have hlen := hr.len63
  have hn : ((xs.length : Int) != (xs.length : Int)) = false := by simp
  go_enter Tryd.func15, Tryd.ntmps15
  go_wp2_with fail
  go_loopw [5] (fun i wr => ∃ k : Nat, k ≤ xs.length ∧ i = .int .i64 k ∧ Below w.heap.size w wr) (fun i _ => xs.length - (intOf i).toNat)
  case atStart => exact ⟨0, by omega, rfl, Below.refl _ _⟩
  case round =>
    obtain ⟨k, hk, rfl, hbel⟩ := hrel
    by_cases hlt : k < xs.length
    · obtain ⟨ad, rfl, hab, hc0, hc1⟩ := rdTested (hr.below hbel) hlt
      obtain ⟨ad2, rfl, hab2, hd0, hd1⟩ := rdTested (hr2.below hbel) hlt
      have hk0 : (k : Int) < xs.length := by omega
      have hs := hbel.size
      have ha1 : (ad.add (k * 2)).block < wr.heap.size := by rw [block_of_add]; omega
      have ha2 : (ad2.add (k * 2)).block < wr.heap.size := by rw [block_of_add]; omega
      go_wp2_with fail
      go_region_held3 (fun W => W.cell? (ad.add (k * 2)) = some (.int .i64 (xs[k].1)) ∧ W.cell? ⟨(ad.add (k * 2)).block, (ad.add (k * 2)).off + 1, none⟩ = some (.int .i64 (xs[k].2)) ∧ W.cell? (ad2.add (k * 2)) = some (.int .i64 (xs[k].1)) ∧ W.cell? ⟨(ad2.add (k * 2)).block, (ad2.add (k * 2)).off + 1, none⟩ = some (.int .i64 (xs[k].2)))
        (first | go_keep | (go_split_ands; refine ⟨?_, ?_, ?_, ?_⟩ <;> (refine (hc.cell ?_).trans ?_; (focus (first | exact ha1 | exact ha2)); assumption)))
        ((first | (go_at_call 35; (with_reducible refine (eqTested_any _ _ _).mono ?_); rintro e w3 ⟨rfl, hc⟩)))
      go_wp2_with fail
      go_roundw
      case rel => exact ⟨k + 1, by omega, by go_num, bthen hbel.drew (Nat.le_refl _) hc⟩
      case measure => simp [intOf]; omega
    · go_wp2_with fail
      go_ret
      exact ⟨rfl, hbel⟩

theorem szTestedS_any (A : Option Addr) (c : Nat) (n : Nat) (left : Int) (w : World) (h0 : 0 ≤ left) (h1 : left ≤ 1048576) (hn : n ≤ 9223372036854775807) :
    Calls Tryd.prog 11 #[.slice A n c, .int .i64 left] w fun e w' => e = .returned (.int .i64 (szN left n)) ∧ w = w' := by
  by_cases h : (n : Int) ≤ left
  · have HV : Hid (szN left n = left - n) := Lib.hid (by unfold szN; rw [if_pos h])
    go_enter Tryd.func11, Tryd.ntmps11
    go_wp2_with fail
    go_ret
    exact ⟨ret_int HV.out.symm, rfl⟩
  · have HV : Hid (szN left n = -1) := Lib.hid (by unfold szN; rw [if_neg h])
    go_enter Tryd.func11, Tryd.ntmps11
    go_wp2_with fail
    go_ret
    exact ⟨ret_int HV.out.symm, rfl⟩

def AskTested (P : Program) (k : FuncId) (caps : Array Value) (B : Nat) (w : World) (xs : List TestedD) (p : TestedD → Bool) : Prop :=
  (∀ args w, (callFunc k args).run P w = .ok (.enter k args) w) ∧
  ∀ x ∈ xs, ∀ w', Below B w w' → Calls P k (#[.agg #[.int .i64 (x.1), .int .i64 (x.2)]] ++ caps) w' fun e w'' => e = .returned (.bool (p x)) ∧ Below w'.heap.size w' w''
theorem indexTested_any (A : Option Addr) (c : Nat) (xs : List TestedD) (k : FuncId) (caps : Array Value) (p : TestedD → Bool) (B : Nat) (w : World) (hB : B ≤ w.heap.size)
    (hr : Rd LTested w B A c xs) (hp : AskTested Tryd.prog k caps B w xs p) :
    Calls Tryd.prog 66 #[.slice A xs.length c, .func (.func k) #[] caps] w fun e w' => e = .returned (.int .i64 (fIdx p xs)) ∧ Below B w w' := by
  have hlen := hr.len63
  obtain ⟨eg, hp⟩ := hp
  go_enter Tryd.func66, Tryd.ntmps66
  go_wp2_with fail
  go_loopw [5,8] (fun i j wr => ∃ k : Nat, k ≤ xs.length ∧ j = .int .i64 k ∧ (∀ y ∈ xs.take k, p y = false) ∧ Below B w wr) (fun _ j _ => xs.length - (intOf j).toNat)
  case atStart => exact ⟨0, by omega, rfl, by simp, Below.refl _ _⟩
  case round =>
    obtain ⟨m, hk, rfl, hno, hbel⟩ := hrel
    have Hno := Lib.hid hno
    clear hno
    by_cases hlt : m < xs.length
    · obtain ⟨ad, rfl, hab, hc0, hc1⟩ := rdTested (hr.below hbel) hlt
      have hpx := hp xs[m] (List.getElem_mem _) wr hbel
      have HP := Lib.hid hp
      clear hp
      go_wp2_with fail
      refine hpx.mono ?_
      rintro e w1 ⟨rfl, hb1⟩
      by_cases hpt : p xs[m] = true
      · go_wp2_with fail
        go_ret
        exact ⟨ret_int (fIdx_hit hlt Hno.out hpt).symm, bthen hbel hB hb1⟩
      · have hpf : p xs[m] = false := by simpa using hpt
        clear hpt
        go_wp2_with fail
        go_roundw
        case rel =>
          refine ⟨m + 1, by omega, by go_num, ?_, bthen hbel hB hb1⟩
          rw [List.take_succ_eq_append_getElem hlt]
          intro y hy
          rcases List.mem_append.1 hy with h | h
          · exact Hno.out y h
          · simp at h; rw [h]; exact hpf
        case measure => simp [intOf]; omega
    · go_wp2_with fail
      go_ret
      refine ⟨ret_int (fIdx_none ?_).symm, hbel⟩
      have := Hno.out
      rw [List.take_of_length_le (by omega)] at this
      exact this
theorem containsTested_any (A : Option Addr) (c : Nat) (xs : List TestedD) (k : FuncId) (caps : Array Value) (p : TestedD → Bool) (B : Nat) (w : World) (hB : B ≤ w.heap.size)
    (hr : Rd LTested w B A c xs) (hp : AskTested Tryd.prog k caps B w xs p) :
    Calls Tryd.prog 52 #[.slice A xs.length c, .func (.func k) #[] caps] w fun e w' => e = .returned (.bool (xs.any p)) ∧ Below B w w' := by
  have hc := indexTested_any A c xs k caps p B w hB hr hp
  obtain ⟨eg, hp⟩ := hp
  clear hp
  go_enter Tryd.func52, Tryd.ntmps52
  go_wp2_with fail
  refine hc.mono ?_
  rintro e w1 ⟨rfl, hb1⟩
  go_wp2_with fail
  go_ret
  exact ⟨ret_bool (fIdx_any p xs), hb1⟩

def atTested (k : Int) : TestedD := (k, k + 1)
def upTested (k : Int) (n : Nat) : List TestedD := (List.range n).map fun (i : Nat) => atTested (k + 2 * (i : Int))
theorem upTested_len (k : Int) (n : Nat) : (upTested k n).length = n := by simp [upTested]
theorem upTested_get (k : Int) (n : Nat) {i : Nat} (h : i < (upTested k n).length) : (upTested k n)[i] = atTested (k + 2 * (i : Int)) := by simp [upTested]


def eqfTested (a b : TestedD) : Bool := a.1 == b.1 && a.2 == b.2

end Go.Proofs.YtgoboklahocfhaaDoor
