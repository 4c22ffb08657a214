/-
  The struct Work and slices of it: how it lies in memory, and the laws' own functions on it.
-/
import Derived.Test.YtofcmljnckdknaaFlat0
import Derived.Deep.RegionHeld3
namespace Go.Proofs.Ytofcmljnckdknaa
open Go.ChangeShapes Go.WideShapes Go.RowKit

abbrev WorkD := Int × Int × Int × Int
def LWork : Lay WorkD := ⟨4, fun x => [.int .i64 (x.1), .int .i64 (x.2.1), .int .i64 (x.2.2.1), .int .i64 (x.2.2.2)], fun _ => rfl, by decide, fun x u hu => by simp at hu; rcases hu with rfl | rfl | rfl | rfl <;> rfl⟩
def OkWork (n : WorkD) : Prop := I64 n.1 ∧ I64 n.2.1 ∧ I64 n.2.2.1 ∧ I64 n.2.2.2
theorem rowWork : TyRow Try.prog 31 68 (.agg #[.int .i64 (0), .int .i64 (0), .int .i64 (0), .int .i64 (0)]) LWork.sz 32 := ⟨Try.underlying31, by kernel_rfl⟩
section
variable {T : TypeId} {w : World} {base B c k : Nat} {A : Option Addr} {xs : List WorkD}
theorem rdWork (h : Rd LWork w B A c xs) (hk : k < xs.length) : ∃ ad, A = some ad ∧ ad.block < B ∧ w.cell? (ad.add (k * 4)) = some (.int .i64 (xs[k].1)) ∧ w.cell? ⟨(ad.add (k * 4)).block, (ad.add (k * 4)).off + 1, none⟩ = some (.int .i64 (xs[k].2.1)) ∧ w.cell? ⟨(ad.add (k * 4)).block, (ad.add (k * 4)).off + 2, none⟩ = some (.int .i64 (xs[k].2.2.1)) ∧ w.cell? ⟨(ad.add (k * 4)).block, (ad.add (k * 4)).off + 3, none⟩ = some (.int .i64 (xs[k].2.2.2)) := by
  obtain ⟨ad, e, hb, h0, h1⟩ := h.field hk
  exact ⟨ad, e, hb, h0 _ rfl, h1 1 _ (by decide) rfl, h1 2 _ (by decide) rfl, h1 3 _ (by decide) rfl⟩
theorem ownWork (h : Own LWork T w base A c xs) (hk : k < xs.length) : ∃ g, A = some ⟨g, 0, none⟩ ∧ base ≤ g ∧ g < w.heap.size ∧ (w.cell? ⟨g, k * 4, none⟩ = some (.int .i64 (xs[k].1)) ∧ w.cell? ⟨g, k * 4 + 1, none⟩ = some (.int .i64 (xs[k].2.1)) ∧ w.cell? ⟨g, k * 4 + 2, none⟩ = some (.int .i64 (xs[k].2.2.1)) ∧ w.cell? ⟨g, k * 4 + 3, none⟩ = some (.int .i64 (xs[k].2.2.2))) ∧ ∀ j, w.frozen? ⟨g, j, none⟩ = false := by
  obtain ⟨g, e, hb, hl, h0, h1⟩ := h.field hk
  exact ⟨g, e, hb, hl, ⟨h0 0 _ rfl, h0 1 _ rfl, h0 2 _ rfl, h0 3 _ rfl⟩, h1⟩
theorem setWork {g : Nat} (h : Own LWork T w base (some ⟨g, 0, none⟩) c xs) (hk : k < xs.length) (x : WorkD) :
    Own LWork T ((((w.setCell ⟨g, k * 4, none⟩ (.int .i64 (x.1))).setCell ⟨g, k * 4 + 1, none⟩ (.int .i64 (x.2.1))).setCell ⟨g, k * 4 + 2, none⟩ (.int .i64 (x.2.2.1))).setCell ⟨g, k * 4 + 3, none⟩ (.int .i64 (x.2.2.2))) base (some ⟨g, 0, none⟩) c (xs.set k x) := by
  have h0 := h.setField (k := k) (by simpa using hk) 0 (by decide) (.int .i64 (x.1)) (x.1, xs[k].2.1, xs[k].2.2.1, xs[k].2.2.2) (by simp [LWork])
  have h1 := h0.setField (k := k) (by simpa using hk) 1 (by decide) (.int .i64 (x.2.1)) (x.1, x.2.1, xs[k].2.2.1, xs[k].2.2.2) (by simp [LWork])
  have h2 := h1.setField (k := k) (by simpa using hk) 2 (by decide) (.int .i64 (x.2.2.1)) (x.1, x.2.1, x.2.2.1, xs[k].2.2.2) (by simp [LWork])
  have h3 := h2.setField (k := k) (by simpa using hk) 3 (by decide) (.int .i64 (x.2.2.2)) (x.1, x.2.1, x.2.2.1, x.2.2.2) (by simp [LWork])
  simp only [List.set_set, Nat.add_zero] at h3
  exact h3
theorem setWork_0 {g : Nat} (h : Own LWork T w base (some ⟨g, 0, none⟩) c xs) (hk : k < xs.length) (u : Int) : Own LWork T (w.setCell ⟨g, k * 4, none⟩ (.int .i64 (u))) base (some ⟨g, 0, none⟩) c (xs.set k (u, xs[k].2.1, xs[k].2.2.1, xs[k].2.2.2)) :=
  h.setField hk 0 (by decide) _ _ (by simp [LWork])
theorem setWork_1 {g : Nat} (h : Own LWork T w base (some ⟨g, 0, none⟩) c xs) (hk : k < xs.length) (u : Int) : Own LWork T (w.setCell ⟨g, k * 4 + 1, none⟩ (.int .i64 (u))) base (some ⟨g, 0, none⟩) c (xs.set k (xs[k].1, u, xs[k].2.2.1, xs[k].2.2.2)) :=
  h.setField hk 1 (by decide) _ _ (by simp [LWork])
theorem setWork_2 {g : Nat} (h : Own LWork T w base (some ⟨g, 0, none⟩) c xs) (hk : k < xs.length) (u : Int) : Own LWork T (w.setCell ⟨g, k * 4 + 2, none⟩ (.int .i64 (u))) base (some ⟨g, 0, none⟩) c (xs.set k (xs[k].1, xs[k].2.1, u, xs[k].2.2.2)) :=
  h.setField hk 2 (by decide) _ _ (by simp [LWork])
theorem setWork_3 {g : Nat} (h : Own LWork T w base (some ⟨g, 0, none⟩) c xs) (hk : k < xs.length) (u : Int) : Own LWork T (w.setCell ⟨g, k * 4 + 3, none⟩ (.int .i64 (u))) base (some ⟨g, 0, none⟩) c (xs.set k (xs[k].1, xs[k].2.1, xs[k].2.2.1, u)) :=
  h.setField hk 3 (by decide) _ _ (by simp [LWork])
end

theorem toWork_any (f0 : Int) (f1 : Int) (f2 : Int) (f3 : Int) (w : World) :
    Calls Try.prog 42 #[.agg #[.int .i64 (f0), .int .i64 (f1), .int .i64 (f2), .int .i64 (f3)]] w fun e w' => e = .returned (.agg #[.int .i64 (f0), .int .i64 (f1), .int .i64 (f2), .int .i64 (f3)]) ∧ Below w.heap.size w w' := by
  go_enter Try.func42, Try.ntmps42
  go_wp2_with fail
  refine bodyPost_ret (v := .agg #[.int .i64 (f0), .int .i64 (f1), .int .i64 (f2), .int .i64 (f3)]) (by simp [results, Try.results42, go_sem]) rfl ⟨rfl, ?_⟩
  exact (((Below.refl _ _).alloc (Nat.le_refl _) _).alloc (by simp) _).alloc (by simp <;> omega) _

theorem toWorkS_any (A : Option Addr) (c : Nat) (xs : List WorkD) (w : World) (hr : Rd LWork w w.heap.size A c xs) (hn : xs.length ≤ 1048576) :
    Calls Try.prog 10 #[.slice A xs.length c] w fun e w' => ∃ A' c', e = .returned (.slice A' xs.length c') ∧ Own LWork 68 w' w.heap.size A' c' xs ∧ Below w.heap.size w w' := by
  have hlen := hr.len63
  go_enter Try.func10, Try.ntmps10
  go_wp2_with (at_make; refine wpL_make (L := LWork) rowWork rfl _ _ rfl .i64 .i64 _ _ xs.length rfl rfl rfl rfl (by omega) (by unfold maxLen; omega) (0, 0, 0, 0) rfl ?_; intro w1 hown hb)
  go_loopw [4] (fun i wr => ∃ k : Nat, k ≤ xs.length ∧ i = .int .i64 k ∧ Own LWork 68 wr w.heap.size (some ⟨w.heap.size, 0, none⟩) xs.length (xs.take k ++ List.replicate (xs.length - k) (0, 0, 0, 0)) ∧ Below w.heap.size w wr) (fun i _ => xs.length - (intOf i).toNat)
  case atStart => exact ⟨0, by omega, rfl, by simpa using hown, hb⟩
  case round =>
    obtain ⟨k, hk, rfl, hown, hbel⟩ := hrel
    by_cases hlt : k < xs.length
    · obtain ⟨ad, rfl, hab, hc0, hc1, hc2, hc3⟩ := rdWork (hr.below hbel) hlt
      have hl0 : k < (xs.take k ++ List.replicate (xs.length - k) ((0, 0, 0, 0) : WorkD)).length := by simp; omega
      go_wp2_with fail
      refine (toWork_any _ _ _ _ _).mono ?_
      rintro e w2 ⟨rfl, hb2⟩
      have hown2 := hown.below hb2
      obtain ⟨g, hg, hbg, hgl, ⟨hd0, hd1, hd2, hd3⟩, hfz⟩ := ownWork hown2 hl0
      cases hg
      go_wp2_with fail
      go_roundw
      case rel =>
        have hst := setWork hown2 hl0 xs[k]
        rw [fill_step xs (0, 0, 0, 0) hlt] at hst
        exact ⟨k + 1, by omega, by go_num, hst, ((((bthen hbel (Nat.le_refl _) hb2).setCell (Nat.le_refl _) _).setCell (Nat.le_refl _) _).setCell (Nat.le_refl _) _).setCell (Nat.le_refl _) _⟩
      case measure => simp [intOf]; omega
    · have hkk : k = xs.length := by omega
      go_wp2_with fail
      go_ret
      refine ⟨_, _, rfl, ?_, hbel⟩
      subst hkk
      simpa using hown

theorem eqWork_any (f0 : Int) (f1 : Int) (f2 : Int) (f3 : Int) (w : World) :
    Calls Try.prog 48 #[.agg #[.int .i64 (f0), .int .i64 (f1), .int .i64 (f2), .int .i64 (f3)], .agg #[.int .i64 (f0), .int .i64 (f1), .int .i64 (f2), .int .i64 (f3)]] w fun e w' => e = .returned (.bool true) ∧ Below w.heap.size w w' := by
  go_enter Try.func48, Try.ntmps48
  go_wp2_with fail
  go_ret
  exact ⟨rfl, ((Below.refl _ _).alloc (Nat.le_refl _) _).alloc (by simp) _⟩

theorem eqWorkS_same (A : Option Addr) (c : Nat) (A2 : Option Addr) (c2 : Nat) (xs : List WorkD) (w : World) (hr : Rd LWork w w.heap.size A c xs) (hr2 : Rd LWork w w.heap.size A2 c2 xs) :
    Calls Try.prog 14 #[.slice A xs.length c, .slice A2 xs.length c2] w fun e w' => e = .returned (.bool true) ∧ Below w.heap.size w w' := by
  have hlen := hr.len63
  have hn : ((xs.length : Int) != (xs.length : Int)) = false := by simp
  go_enter Try.func14, Try.ntmps14
  go_wp2_with fail
  go_loopw [5] (fun i wr => ∃ k : Nat, k ≤ xs.length ∧ i = .int .i64 k ∧ Below w.heap.size w wr) (fun i _ => xs.length - (intOf i).toNat)
  case atStart => exact ⟨0, by omega, rfl, Below.refl _ _⟩
  case round =>
    obtain ⟨k, hk, rfl, hbel⟩ := hrel
    by_cases hlt : k < xs.length
    · obtain ⟨ad, rfl, hab, hc0, hc1, hc2, hc3⟩ := rdWork (hr.below hbel) hlt
      obtain ⟨ad2, rfl, hab2, hd0, hd1, hd2, hd3⟩ := rdWork (hr2.below hbel) hlt
      have hk0 : (k : Int) < xs.length := by omega
      have hs := hbel.size
      have ha1 : (ad.add (k * 4)).block < wr.heap.size := by rw [block_of_add]; omega
      have ha2 : (ad2.add (k * 4)).block < wr.heap.size := by rw [block_of_add]; omega
      go_wp2_with fail
      go_region_held3 (fun W => W.cell? (ad.add (k * 4)) = some (.int .i64 (xs[k].1)) ∧ W.cell? ⟨(ad.add (k * 4)).block, (ad.add (k * 4)).off + 1, none⟩ = some (.int .i64 (xs[k].2.1)) ∧ W.cell? ⟨(ad.add (k * 4)).block, (ad.add (k * 4)).off + 2, none⟩ = some (.int .i64 (xs[k].2.2.1)) ∧ W.cell? ⟨(ad.add (k * 4)).block, (ad.add (k * 4)).off + 3, none⟩ = some (.int .i64 (xs[k].2.2.2)) ∧ W.cell? (ad2.add (k * 4)) = some (.int .i64 (xs[k].1)) ∧ W.cell? ⟨(ad2.add (k * 4)).block, (ad2.add (k * 4)).off + 1, none⟩ = some (.int .i64 (xs[k].2.1)) ∧ W.cell? ⟨(ad2.add (k * 4)).block, (ad2.add (k * 4)).off + 2, none⟩ = some (.int .i64 (xs[k].2.2.1)) ∧ W.cell? ⟨(ad2.add (k * 4)).block, (ad2.add (k * 4)).off + 3, none⟩ = some (.int .i64 (xs[k].2.2.2)))
        (first | go_keep | (go_split_ands; refine ⟨?_, ?_, ?_, ?_, ?_, ?_, ?_, ?_⟩ <;> (refine (hc.cell ?_).trans ?_; (focus (first | exact ha1 | exact ha2)); assumption)))
        ((first | (go_at_call 48; (with_reducible refine (eqWork_any _ _ _ _ _).mono ?_); rintro e w3 ⟨rfl, hc⟩)))
      go_wp2_with fail
      go_roundw
      case rel => exact ⟨k + 1, by omega, by go_num, bthen hbel.drew (Nat.le_refl _) hc⟩
      case measure => simp [intOf]; omega
    · go_wp2_with fail
      go_ret
      exact ⟨rfl, hbel⟩

theorem szWorkS_any (A : Option Addr) (c : Nat) (n : Nat) (left : Int) (w : World) (h0 : 0 ≤ left) (h1 : left ≤ 1048576) (hn : n ≤ 9223372036854775807) :
    Calls Try.prog 7 #[.slice A n c, .int .i64 left] w fun e w' => e = .returned (.int .i64 (szN left n)) ∧ w = w' := by
  by_cases h : (n : Int) ≤ left
  · have HV : Hid (szN left n = left - n) := Lib.hid (by unfold szN; rw [if_pos h])
    go_enter Try.func7, Try.ntmps7
    go_wp2_with fail
    go_ret
    exact ⟨ret_int HV.out.symm, rfl⟩
  · have HV : Hid (szN left n = -1) := Lib.hid (by unfold szN; rw [if_neg h])
    go_enter Try.func7, Try.ntmps7
    go_wp2_with fail
    go_ret
    exact ⟨ret_int HV.out.symm, rfl⟩

def AskWork (P : Program) (k : FuncId) (caps : Array Value) (B : Nat) (w : World) (xs : List WorkD) (p : WorkD → Bool) : Prop :=
  (∀ args w, (callFunc k args).run P w = .ok (.enter k args) w) ∧
  ∀ x ∈ xs, ∀ w', Below B w w' → Calls P k (#[.agg #[.int .i64 (x.1), .int .i64 (x.2.1), .int .i64 (x.2.2.1), .int .i64 (x.2.2.2)]] ++ caps) w' fun e w'' => e = .returned (.bool (p x)) ∧ Below w'.heap.size w' w''
theorem indexWork_any (A : Option Addr) (c : Nat) (xs : List WorkD) (k : FuncId) (caps : Array Value) (p : WorkD → Bool) (B : Nat) (w : World) (hB : B ≤ w.heap.size)
    (hr : Rd LWork w B A c xs) (hp : AskWork Try.prog k caps B w xs p) :
    Calls Try.prog 92 #[.slice A xs.length c, .func (.func k) #[] caps] w fun e w' => e = .returned (.int .i64 (fIdx p xs)) ∧ Below B w w' := by
  have hlen := hr.len63
  obtain ⟨eg, hp⟩ := hp
  go_enter Try.func92, Try.ntmps92
  go_wp2_with fail
  go_loopw [5,8] (fun i j wr => ∃ k : Nat, k ≤ xs.length ∧ j = .int .i64 k ∧ (∀ y ∈ xs.take k, p y = false) ∧ Below B w wr) (fun _ j _ => xs.length - (intOf j).toNat)
  case atStart => exact ⟨0, by omega, rfl, by simp, Below.refl _ _⟩
  case round =>
    obtain ⟨m, hk, rfl, hno, hbel⟩ := hrel
    have Hno := Lib.hid hno
    clear hno
    by_cases hlt : m < xs.length
    · obtain ⟨ad, rfl, hab, hc0, hc1, hc2, hc3⟩ := rdWork (hr.below hbel) hlt
      have hpx := hp xs[m] (List.getElem_mem _) wr hbel
      have HP := Lib.hid hp
      clear hp
      go_wp2_with fail
      refine hpx.mono ?_
      rintro e w1 ⟨rfl, hb1⟩
      by_cases hpt : p xs[m] = true
      · go_wp2_with fail
        go_ret
        exact ⟨ret_int (fIdx_hit hlt Hno.out hpt).symm, bthen hbel hB hb1⟩
      · have hpf : p xs[m] = false := by simpa using hpt
        clear hpt
        go_wp2_with fail
        go_roundw
        case rel =>
          refine ⟨m + 1, by omega, by go_num, ?_, bthen hbel hB hb1⟩
          rw [List.take_succ_eq_append_getElem hlt]
          intro y hy
          rcases List.mem_append.1 hy with h | h
          · exact Hno.out y h
          · simp at h; rw [h]; exact hpf
        case measure => simp [intOf]; omega
    · go_wp2_with fail
      go_ret
      refine ⟨ret_int (fIdx_none ?_).symm, hbel⟩
      have := Hno.out
      rw [List.take_of_length_le (by omega)] at this
      exact this
theorem containsWork_any (A : Option Addr) (c : Nat) (xs : List WorkD) (k : FuncId) (caps : Array Value) (p : WorkD → Bool) (B : Nat) (w : World) (hB : B ≤ w.heap.size)
    (hr : Rd LWork w B A c xs) (hp : AskWork Try.prog k caps B w xs p) :
    Calls Try.prog 74 #[.slice A xs.length c, .func (.func k) #[] caps] w fun e w' => e = .returned (.bool (xs.any p)) ∧ Below B w w' := by
  have hc := indexWork_any A c xs k caps p B w hB hr hp
  obtain ⟨eg, hp⟩ := hp
  clear hp
  go_enter Try.func74, Try.ntmps74
  go_wp2_with fail
  refine hc.mono ?_
  rintro e w1 ⟨rfl, hb1⟩
  go_wp2_with fail
  go_ret
  exact ⟨ret_bool (fIdx_any p xs), hb1⟩

def atWork (k : Int) : WorkD := (k, k + 1, k + 1 + 1, k + 1 + 1 + 1)
def upWork (k : Int) (n : Nat) : List WorkD := (List.range n).map fun (i : Nat) => atWork (k + 4 * (i : Int))
theorem upWork_len (k : Int) (n : Nat) : (upWork k n).length = n := by simp [upWork]
theorem upWork_get (k : Int) (n : Nat) {i : Nat} (h : i < (upWork k n).length) : (upWork k n)[i] = atWork (k + 4 * (i : Int)) := by simp [upWork]
set_option maxHeartbeats 800000 in
theorem markWorkS_any (A : Option Addr) (c : Nat) (xs : List WorkD) (k : Int) (base : Nat) (w : World) (hown : Own LWork 68 w base A c xs) (hk0 : 0 ≤ k) (hk1 : k + 4 * xs.length ≤ 4611686018427387904) :
    Calls Try.prog 16 #[.slice A xs.length c, .int .i64 k] w fun e w' => e = .returned (.int .i64 (k + 4 * xs.length)) ∧ Own LWork 68 w' base A c (upWork k xs.length) ∧
      Kept (fun b => blk A = some b) w w' := by
  have hlen := hown.len63
  go_enter Try.func16, Try.ntmps16
  go_wp2_with fail
  go_loopw [1, 5] (fun j i wr => ∃ m : Nat, m ≤ xs.length ∧ i = .int .i64 m ∧ j = .int .i64 (k + 4 * m) ∧ Own LWork 68 wr base A c ((upWork k xs.length).take m ++ xs.drop m) ∧
      Kept (fun b => blk A = some b) w wr) (fun _ i _ => xs.length - (intOf i).toNat)
  case atStart => exact ⟨0, by omega, rfl, by simp, by simpa using hown, Kept.refl _ _⟩
  case round =>
    obtain ⟨m, hm, rfl, rfl, hown', HF⟩ := hrel
    have hkm : k + 4 * (m : Int) ≤ 4611686018427387904 := by omega
    have hkm0 : 0 ≤ k + 4 * (m : Int) := by omega
    by_cases hlt : m < xs.length
    · have hkm2 : k + 4 * (m : Int) + 4 ≤ 4611686018427387904 := by omega
      have hl0 : m < ((upWork k xs.length).take m ++ xs.drop m).length := by simp [upWork_len]; omega
      obtain ⟨g, rfl, hbg, hgl, ⟨hd0, hd1, hd2, hd3⟩, hfz⟩ := ownWork hown' hl0
      have hpx : List.set ((upWork k xs.length).take m ++ xs.drop m) m (atWork (k + 4 * (m : Int))) = (upWork k xs.length).take (m + 1) ++ xs.drop (m + 1) := by
        rw [← upWork_get k xs.length (i := m) (by rw [upWork_len]; exact hlt)]
        exact paint_step _ _ (upWork_len _ _) hlt
      have hst := setWork hown' hl0 (atWork (k + 4 * (m : Int)))
      rw [hpx] at hst
      simp only [atWork] at hst
      have Hst := Lib.hid hst
      clear hst hpx
      go_wp2_with fail
      go_roundw
      case rel =>
        refine ⟨m + 1, by omega, by go_num, by go_num, Hst.out, HF.trans ⟨rfl, rfl, rfl, by simp, fun b hb hne => ?_⟩⟩
        have hbg : b ≠ g := fun e => hne (by rw [e]; rfl)
        exact (Below.heap_setCell _ ⟨g, _, none⟩ _ b hbg) |>.trans (Below.heap_setCell _ ⟨g, _, none⟩ _ b hbg) |>.trans (Below.heap_setCell _ ⟨g, _, none⟩ _ b hbg) |>.trans (Below.heap_setCell _ ⟨g, _, none⟩ _ b hbg)
      case measure => simp [intOf]; omega
    · have hmm : m = xs.length := by omega
      subst hmm
      go_wp2_with fail
      go_ret
      refine ⟨rfl, ?_, HF⟩
      rw [List.take_of_length_le (by rw [upWork_len]; exact Nat.le_refl _), List.drop_of_length_le (Nat.le_refl _), List.append_nil] at hown'
      exact hown'


def eqfWork (a b : WorkD) : Bool := a.1 == b.1 && a.2.1 == b.2.1 && a.2.2.1 == b.2.2.1 && a.2.2.2 == b.2.2.2

end Go.Proofs.Ytofcmljnckdknaa
