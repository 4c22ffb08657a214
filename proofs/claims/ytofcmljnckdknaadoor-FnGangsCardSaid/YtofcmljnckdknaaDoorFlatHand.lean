/-
  The struct Hand and slices of it: how it lies in memory, and the laws' own functions on it.
-/
import Derived.Test.YtofcmljnckdknaaDoorFlat0
import Derived.Deep.RegionHeld3
import Derived.Test.YtofcmljnckdknaaDoorMark
namespace Go.Proofs.YtofcmljnckdknaaDoor
open Go.ChangeShapes Go.WideShapes Go.RowKit

abbrev HandD := ByteArray × Int × Bool
def LHand : Lay HandD := ⟨3, fun x => [.string x.1, .int .i64 (x.2.1), .bool x.2.2], fun _ => rfl, by decide, fun x u hu => by simp at hu; rcases hu with rfl | rfl | rfl <;> rfl⟩
def OkHand (n : HandD) : Prop := n.1.size ≤ 9223372036854775807 ∧ I64 n.2.1
theorem rowHand : TyRow Tryd.prog 24 26 (.agg #[.string ByteArray.empty, .int .i64 (0), .bool false]) LHand.sz 32 := ⟨Tryd.underlying24, by kernel_rfl⟩
section
variable {T : TypeId} {w : World} {base B c k : Nat} {A : Option Addr} {xs : List HandD}
theorem rdHand (h : Rd LHand w B A c xs) (hk : k < xs.length) : ∃ ad, A = some ad ∧ ad.block < B ∧ w.cell? (ad.add (k * 3)) = some (.string xs[k].1) ∧ w.cell? ⟨(ad.add (k * 3)).block, (ad.add (k * 3)).off + 1, none⟩ = some (.int .i64 (xs[k].2.1)) ∧ w.cell? ⟨(ad.add (k * 3)).block, (ad.add (k * 3)).off + 2, none⟩ = some (.bool xs[k].2.2) := by
  obtain ⟨ad, e, hb, h0, h1⟩ := h.field hk
  exact ⟨ad, e, hb, h0 _ rfl, h1 1 _ (by decide) rfl, h1 2 _ (by decide) rfl⟩
theorem ownHand (h : Own LHand T w base A c xs) (hk : k < xs.length) : ∃ g, A = some ⟨g, 0, none⟩ ∧ base ≤ g ∧ g < w.heap.size ∧ (w.cell? ⟨g, k * 3, none⟩ = some (.string xs[k].1) ∧ w.cell? ⟨g, k * 3 + 1, none⟩ = some (.int .i64 (xs[k].2.1)) ∧ w.cell? ⟨g, k * 3 + 2, none⟩ = some (.bool xs[k].2.2)) ∧ ∀ j, w.frozen? ⟨g, j, none⟩ = false := by
  obtain ⟨g, e, hb, hl, h0, h1⟩ := h.field hk
  exact ⟨g, e, hb, hl, ⟨h0 0 _ rfl, h0 1 _ rfl, h0 2 _ rfl⟩, h1⟩
theorem setHand {g : Nat} (h : Own LHand T w base (some ⟨g, 0, none⟩) c xs) (hk : k < xs.length) (x : HandD) :
    Own LHand T (((w.setCell ⟨g, k * 3, none⟩ (.string x.1)).setCell ⟨g, k * 3 + 1, none⟩ (.int .i64 (x.2.1))).setCell ⟨g, k * 3 + 2, none⟩ (.bool x.2.2)) base (some ⟨g, 0, none⟩) c (xs.set k x) := by
  have h0 := h.setField (k := k) (by simpa using hk) 0 (by decide) (.string x.1) (x.1, xs[k].2.1, xs[k].2.2) (by simp [LHand])
  have h1 := h0.setField (k := k) (by simpa using hk) 1 (by decide) (.int .i64 (x.2.1)) (x.1, x.2.1, xs[k].2.2) (by simp [LHand])
  have h2 := h1.setField (k := k) (by simpa using hk) 2 (by decide) (.bool x.2.2) (x.1, x.2.1, x.2.2) (by simp [LHand])
  simp only [List.set_set, Nat.add_zero] at h2
  exact h2
theorem setHand_0 {g : Nat} (h : Own LHand T w base (some ⟨g, 0, none⟩) c xs) (hk : k < xs.length) (u : ByteArray) : Own LHand T (w.setCell ⟨g, k * 3, none⟩ (.string u)) base (some ⟨g, 0, none⟩) c (xs.set k (u, xs[k].2.1, xs[k].2.2)) :=
  h.setField hk 0 (by decide) _ _ (by simp [LHand])
theorem setHand_1 {g : Nat} (h : Own LHand T w base (some ⟨g, 0, none⟩) c xs) (hk : k < xs.length) (u : Int) : Own LHand T (w.setCell ⟨g, k * 3 + 1, none⟩ (.int .i64 (u))) base (some ⟨g, 0, none⟩) c (xs.set k (xs[k].1, u, xs[k].2.2)) :=
  h.setField hk 1 (by decide) _ _ (by simp [LHand])
theorem setHand_2 {g : Nat} (h : Own LHand T w base (some ⟨g, 0, none⟩) c xs) (hk : k < xs.length) (u : Bool) : Own LHand T (w.setCell ⟨g, k * 3 + 2, none⟩ (.bool u)) base (some ⟨g, 0, none⟩) c (xs.set k (xs[k].1, xs[k].2.1, u)) :=
  h.setField hk 2 (by decide) _ _ (by simp [LHand])
end






def AskHand (P : Program) (k : FuncId) (caps : Array Value) (B : Nat) (w : World) (xs : List HandD) (p : HandD → Bool) : Prop :=
  (∀ args w, (callFunc k args).run P w = .ok (.enter k args) w) ∧
  ∀ x ∈ xs, ∀ w', Below B w w' → Calls P k (#[.agg #[.string x.1, .int .i64 (x.2.1), .bool x.2.2]] ++ caps) w' fun e w'' => e = .returned (.bool (p x)) ∧ Below w'.heap.size w' w''
theorem indexHand_any (A : Option Addr) (c : Nat) (xs : List HandD) (k : FuncId) (caps : Array Value) (p : HandD → Bool) (B : Nat) (w : World) (hB : B ≤ w.heap.size)
    (hr : Rd LHand w B A c xs) (hp : AskHand Tryd.prog k caps B w xs p) :
    Calls Tryd.prog 78 #[.slice A xs.length c, .func (.func k) #[] caps] w fun e w' => e = .returned (.int .i64 (fIdx p xs)) ∧ Below B w w' := by
  have hlen := hr.len63
  obtain ⟨eg, hp⟩ := hp
  go_enter Tryd.func78, Tryd.ntmps78
  go_wp2_with fail
  go_loopw [5,8] (fun i j wr => ∃ k : Nat, k ≤ xs.length ∧ j = .int .i64 k ∧ (∀ y ∈ xs.take k, p y = false) ∧ Below B w wr) (fun _ j _ => xs.length - (intOf j).toNat)
  case atStart => exact ⟨0, by omega, rfl, by simp, Below.refl _ _⟩
  case round =>
    obtain ⟨m, hk, rfl, hno, hbel⟩ := hrel
    have Hno := Lib.hid hno
    clear hno
    by_cases hlt : m < xs.length
    · obtain ⟨ad, rfl, hab, hc0, hc1, hc2⟩ := rdHand (hr.below hbel) hlt
      have hpx := hp xs[m] (List.getElem_mem _) wr hbel
      have HP := Lib.hid hp
      clear hp
      go_wp2_with fail
      refine hpx.mono ?_
      rintro e w1 ⟨rfl, hb1⟩
      by_cases hpt : p xs[m] = true
      · go_wp2_with fail
        go_ret
        exact ⟨ret_int (fIdx_hit hlt Hno.out hpt).symm, bthen hbel hB hb1⟩
      · have hpf : p xs[m] = false := by simpa using hpt
        clear hpt
        go_wp2_with fail
        go_roundw
        case rel =>
          refine ⟨m + 1, by omega, by go_num, ?_, bthen hbel hB hb1⟩
          rw [List.take_succ_eq_append_getElem hlt]
          intro y hy
          rcases List.mem_append.1 hy with h | h
          · exact Hno.out y h
          · simp at h; rw [h]; exact hpf
        case measure => simp [intOf]; omega
    · go_wp2_with fail
      go_ret
      refine ⟨ret_int (fIdx_none ?_).symm, hbel⟩
      have := Hno.out
      rw [List.take_of_length_le (by omega)] at this
      exact this
theorem containsHand_any (A : Option Addr) (c : Nat) (xs : List HandD) (k : FuncId) (caps : Array Value) (p : HandD → Bool) (B : Nat) (w : World) (hB : B ≤ w.heap.size)
    (hr : Rd LHand w B A c xs) (hp : AskHand Tryd.prog k caps B w xs p) :
    Calls Tryd.prog 66 #[.slice A xs.length c, .func (.func k) #[] caps] w fun e w' => e = .returned (.bool (xs.any p)) ∧ Below B w w' := by
  have hc := indexHand_any A c xs k caps p B w hB hr hp
  obtain ⟨eg, hp⟩ := hp
  clear hp
  go_enter Tryd.func66, Tryd.ntmps66
  go_wp2_with fail
  refine hc.mono ?_
  rintro e w1 ⟨rfl, hb1⟩
  go_wp2_with fail
  go_ret
  exact ⟨ret_bool (fIdx_any p xs), hb1⟩

def atHand (k : Int) : HandD := (mkT (k), k + 1, ((k + 1 + 1) % 3 == 0))
def upHand (k : Int) (n : Nat) : List HandD := (List.range n).map fun (i : Nat) => atHand (k + 3 * (i : Int))
theorem upHand_len (k : Int) (n : Nat) : (upHand k n).length = n := by simp [upHand]
theorem upHand_get (k : Int) (n : Nat) {i : Nat} (h : i < (upHand k n).length) : (upHand k n)[i] = atHand (k + 3 * (i : Int)) := by simp [upHand]


def eqfHand (a b : HandD) : Bool := a.1.toList == b.1.toList && a.2.1 == b.2.1 && a.2.2 == b.2.2
theorem neqHand (x y : HandD) (w : World) : Sem.run Tryd.prog (binOp .neq 26 (.agg #[.string x.1, .int .i64 (x.2.1), .bool x.2.2]) (.agg #[.string y.1, .int .i64 (y.2.1), .bool y.2.2])) w = .ok (.bool (!eqfHand x y)) w := by
  rw [run_neq_struct, run_equalIn_struct _ _ _ _ _ (by kernel_rfl) (by kernel_rfl)]
  simp [go_sem, eqfHand, Tryd.underlying26, Tryd.underlying4, Tryd.underlying2, Tryd.underlying9]
  repeat' split
  all_goals simp_all
set_option maxHeartbeats 1600000 in
theorem equalHand_quiet (A A2 : Option Addr) (c c2 : Nat) (xs ys : List HandD) (B : Nat) (w : World) (hr : Rd LHand w B A c xs) (hr2 : Rd LHand w B A2 c2 ys) :
    Calls Tryd.prog 60 #[.slice A xs.length c, .slice A2 ys.length c2] w fun e w' => e = .returned (.bool (allEq eqfHand xs ys)) ∧ Dr w w' := by
  have hlen := hr.len63
  have hlen2 := hr2.len63
  by_cases hl : xs.length = ys.length
  · have hn : ((xs.length : Int) != (ys.length : Int)) = false := by rw [bne_eq_false_iff_eq]; omega
    have Hl := Lib.hid hl
    clear hl
    go_enter Tryd.func60, Tryd.ntmps60
    go_wp2_with fail
    go_loopw [5, 13] (fun _ i wr => ∃ k : Nat, k ≤ xs.length ∧ i = .int .i64 k ∧ Hid (allEq eqfHand xs ys = allEq eqfHand (xs.drop k) (ys.drop k)) ∧ Dr w wr) (fun _ i _ => xs.length - (intOf i).toNat)
    case atStart => exact ⟨0, by omega, rfl, Lib.hid rfl, Dr.refl _⟩
    case round =>
      obtain ⟨k, hk, rfl, Heq, hdr⟩ := hrel
      by_cases hlt : k < xs.length
      · have hlt2 : k < ys.length := by have := Hl.out; omega
        obtain ⟨ad, rfl, hab, hc0, hc1, hc2⟩ := rdHand (hr.below hdr.below) hlt
        obtain ⟨ad2, rfl, hab2, hd0, hd1, hd2⟩ := rdHand (hr2.below hdr.below) hlt2
        have hk0 : (k : Int) < xs.length := by omega
        have hk2 : (k : Int) < ys.length := by omega
        have HS := Lib.hid (allEq_step eqfHand hlt hlt2)
        have hq := neqHand xs[k] ys[k]
        cases hx : eqfHand xs[k] ys[k]
        · rw [hx] at hq HS
          go_wp2_with fail
          go_quiet (fail)
          go_wp2_with fail
          go_ret
          exact ⟨ret_bool (by rw [Heq.out, HS.out]; rfl), hdr.step _⟩
        · rw [hx] at hq HS
          go_wp2_with fail
          go_quiet (fail)
          go_wp2_with fail
          go_roundw
          case rel => exact ⟨k + 1, by omega, by go_num, Lib.hid (by rw [Heq.out, HS.out]; rfl), hdr.step _⟩
          case measure => simp [intOf]; omega
      · go_wp2_with fail
        go_ret
        exact ⟨ret_bool (by rw [Heq.out, allEq_end _ (by omega) (by have := Hl.out; omega)]), hdr⟩
  · have hn : ((xs.length : Int) != (ys.length : Int)) = true := by rw [bne_iff_ne]; omega
    go_enter Tryd.func60, Tryd.ntmps60
    go_wp2_with fail
    go_ret
    exact ⟨ret_bool (allEq_len hl).symm, Dr.refl _⟩

set_option maxHeartbeats 1600000 in
theorem sameHand_quiet (A A2 : Option Addr) (c c2 : Nat) (xs ys : List HandD) (B : Nat) (w : World) (hr : Rd LHand w B A c xs) (hr2 : Rd LHand w B A2 c2 ys) :
    Calls Tryd.prog 23 #[.slice A xs.length c, .slice A2 ys.length c2] w fun e w' => e = .returned (.bool (allEq eqfHand xs ys)) ∧ Dr w w' := by
  have hlen := hr.len63
  have hlen2 := hr2.len63
  by_cases hl : xs.length = ys.length
  · have hn : ((xs.length : Int) != (ys.length : Int)) = false := by rw [bne_eq_false_iff_eq]; omega
    have Hl := Lib.hid hl
    clear hl
    go_enter Tryd.func23, Tryd.ntmps23
    go_wp2_with fail
    go_loopw [5] (fun i wr => ∃ k : Nat, k ≤ xs.length ∧ i = .int .i64 k ∧ Hid (allEq eqfHand xs ys = allEq eqfHand (xs.drop k) (ys.drop k)) ∧ Dr w wr) (fun i _ => xs.length - (intOf i).toNat)
    case atStart => exact ⟨0, by omega, rfl, Lib.hid rfl, Dr.refl _⟩
    case round =>
      obtain ⟨k, hk, rfl, Heq, hdr⟩ := hrel
      by_cases hlt : k < xs.length
      · have hlt2 : k < ys.length := by have := Hl.out; omega
        obtain ⟨ad, rfl, hab, hc0, hc1, hc2⟩ := rdHand (hr.below hdr.below) hlt
        obtain ⟨ad2, rfl, hab2, hd0, hd1, hd2⟩ := rdHand (hr2.below hdr.below) hlt2
        have hk0 : (k : Int) < xs.length := by omega
        have hk2 : (k : Int) < ys.length := by omega
        have HS := Lib.hid (allEq_step eqfHand hlt hlt2)
        have hq := neqHand xs[k] ys[k]
        cases hx : eqfHand xs[k] ys[k]
        · rw [hx] at hq HS
          go_wp2_with fail
          go_quiet (fail)
          go_wp2_with fail
          go_ret
          exact ⟨ret_bool (by rw [Heq.out, HS.out]; rfl), hdr.step _⟩
        · rw [hx] at hq HS
          go_wp2_with fail
          go_quiet (fail)
          go_wp2_with fail
          go_roundw
          case rel => exact ⟨k + 1, by omega, by go_num, Lib.hid (by rw [Heq.out, HS.out]; rfl), hdr.step _⟩
          case measure => simp [intOf]; omega
      · go_wp2_with fail
        go_ret
        exact ⟨ret_bool (by rw [Heq.out, allEq_end _ (by omega) (by have := Hl.out; omega)]), hdr⟩
  · have hn : ((xs.length : Int) != (ys.length : Int)) = true := by rw [bne_iff_ne]; omega
    go_enter Tryd.func23, Tryd.ntmps23
    go_wp2_with fail
    go_ret
    exact ⟨ret_bool (allEq_len hl).symm, Dr.refl _⟩

end Go.Proofs.YtofcmljnckdknaaDoor
