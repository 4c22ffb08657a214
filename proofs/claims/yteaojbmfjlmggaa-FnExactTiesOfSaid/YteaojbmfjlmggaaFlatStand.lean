/-
  The struct Stand and slices of it: how it lies in memory, and the laws' own functions on it.
-/
import Derived.Test.YteaojbmfjlmggaaFlat0
import Derived.Deep.RegionHeld3
namespace Go.Proofs.Yteaojbmfjlmggaa
open Go.ChangeShapes Go.WideShapes Go.RowKit

abbrev StandD := Int × Int × Int
def LStand : Lay StandD := ⟨3, fun x => [.int .i64 (x.1), .int .i64 (x.2.1), .int .i64 (x.2.2)], fun _ => rfl, by decide, fun x u hu => by simp at hu; rcases hu with rfl | rfl | rfl <;> rfl⟩
def OkStand (n : StandD) : Prop := I64 n.1 ∧ I64 n.2.1 ∧ I64 n.2.2
theorem rowStand : TyRow Try.prog 58 55 (.agg #[.int .i64 (0), .int .i64 (0), .int .i64 (0)]) LStand.sz 24 := ⟨Try.underlying58, by kernel_rfl⟩
section
variable {T : TypeId} {w : World} {base B c k : Nat} {A : Option Addr} {xs : List StandD}
theorem rdStand (h : Rd LStand w B A c xs) (hk : k < xs.length) : ∃ ad, A = some ad ∧ ad.block < B ∧ w.cell? (ad.add (k * 3)) = some (.int .i64 (xs[k].1)) ∧ w.cell? ⟨(ad.add (k * 3)).block, (ad.add (k * 3)).off + 1, none⟩ = some (.int .i64 (xs[k].2.1)) ∧ w.cell? ⟨(ad.add (k * 3)).block, (ad.add (k * 3)).off + 2, none⟩ = some (.int .i64 (xs[k].2.2)) := by
  obtain ⟨ad, e, hb, h0, h1⟩ := h.field hk
  exact ⟨ad, e, hb, h0 _ rfl, h1 1 _ (by decide) rfl, h1 2 _ (by decide) rfl⟩
theorem ownStand (h : Own LStand T w base A c xs) (hk : k < xs.length) : ∃ g, A = some ⟨g, 0, none⟩ ∧ base ≤ g ∧ g < w.heap.size ∧ (w.cell? ⟨g, k * 3, none⟩ = some (.int .i64 (xs[k].1)) ∧ w.cell? ⟨g, k * 3 + 1, none⟩ = some (.int .i64 (xs[k].2.1)) ∧ w.cell? ⟨g, k * 3 + 2, none⟩ = some (.int .i64 (xs[k].2.2))) ∧ ∀ j, w.frozen? ⟨g, j, none⟩ = false := by
  obtain ⟨g, e, hb, hl, h0, h1⟩ := h.field hk
  exact ⟨g, e, hb, hl, ⟨h0 0 _ rfl, h0 1 _ rfl, h0 2 _ rfl⟩, h1⟩
theorem setStand {g : Nat} (h : Own LStand T w base (some ⟨g, 0, none⟩) c xs) (hk : k < xs.length) (x : StandD) :
    Own LStand T (((w.setCell ⟨g, k * 3, none⟩ (.int .i64 (x.1))).setCell ⟨g, k * 3 + 1, none⟩ (.int .i64 (x.2.1))).setCell ⟨g, k * 3 + 2, none⟩ (.int .i64 (x.2.2))) base (some ⟨g, 0, none⟩) c (xs.set k x) := by
  have h0 := h.setField (k := k) (by simpa using hk) 0 (by decide) (.int .i64 (x.1)) (x.1, xs[k].2.1, xs[k].2.2) (by simp [LStand])
  have h1 := h0.setField (k := k) (by simpa using hk) 1 (by decide) (.int .i64 (x.2.1)) (x.1, x.2.1, xs[k].2.2) (by simp [LStand])
  have h2 := h1.setField (k := k) (by simpa using hk) 2 (by decide) (.int .i64 (x.2.2)) (x.1, x.2.1, x.2.2) (by simp [LStand])
  simp only [List.set_set, Nat.add_zero] at h2
  exact h2
theorem setStand_0 {g : Nat} (h : Own LStand T w base (some ⟨g, 0, none⟩) c xs) (hk : k < xs.length) (u : Int) : Own LStand T (w.setCell ⟨g, k * 3, none⟩ (.int .i64 (u))) base (some ⟨g, 0, none⟩) c (xs.set k (u, xs[k].2.1, xs[k].2.2)) :=
  h.setField hk 0 (by decide) _ _ (by simp [LStand])
theorem setStand_1 {g : Nat} (h : Own LStand T w base (some ⟨g, 0, none⟩) c xs) (hk : k < xs.length) (u : Int) : Own LStand T (w.setCell ⟨g, k * 3 + 1, none⟩ (.int .i64 (u))) base (some ⟨g, 0, none⟩) c (xs.set k (xs[k].1, u, xs[k].2.2)) :=
  h.setField hk 1 (by decide) _ _ (by simp [LStand])
theorem setStand_2 {g : Nat} (h : Own LStand T w base (some ⟨g, 0, none⟩) c xs) (hk : k < xs.length) (u : Int) : Own LStand T (w.setCell ⟨g, k * 3 + 2, none⟩ (.int .i64 (u))) base (some ⟨g, 0, none⟩) c (xs.set k (xs[k].1, xs[k].2.1, u)) :=
  h.setField hk 2 (by decide) _ _ (by simp [LStand])
end

theorem toStand_any (f0 : Int) (f1 : Int) (f2 : Int) (w : World) :
    Calls Try.prog 67 #[.agg #[.int .i64 (f0), .int .i64 (f1), .int .i64 (f2)]] w fun e w' => e = .returned (.agg #[.int .i64 (f0), .int .i64 (f1), .int .i64 (f2)]) ∧ Below w.heap.size w w' := by
  go_enter Try.func67, Try.ntmps67
  go_wp2_with fail
  refine bodyPost_ret (v := .agg #[.int .i64 (f0), .int .i64 (f1), .int .i64 (f2)]) (by simp [results, Try.results67, go_sem]) rfl ⟨rfl, ?_⟩
  exact (((Below.refl _ _).alloc (Nat.le_refl _) _).alloc (by simp) _).alloc (by simp <;> omega) _

theorem toStandS_any (A : Option Addr) (c : Nat) (xs : List StandD) (w : World) (hr : Rd LStand w w.heap.size A c xs) (hn : xs.length ≤ 1048576) :
    Calls Try.prog 45 #[.slice A xs.length c] w fun e w' => ∃ A' c', e = .returned (.slice A' xs.length c') ∧ Own LStand 55 w' w.heap.size A' c' xs ∧ Below w.heap.size w w' := by
  have hlen := hr.len63
  go_enter Try.func45, Try.ntmps45
  go_wp2_with (at_make; refine wpL_make (L := LStand) rowStand rfl _ _ rfl .i64 .i64 _ _ xs.length rfl rfl rfl rfl (by omega) (by unfold maxLen; omega) (0, 0, 0) rfl ?_; intro w1 hown hb)
  go_loopw [4] (fun i wr => ∃ k : Nat, k ≤ xs.length ∧ i = .int .i64 k ∧ Own LStand 55 wr w.heap.size (some ⟨w.heap.size, 0, none⟩) xs.length (xs.take k ++ List.replicate (xs.length - k) (0, 0, 0)) ∧ Below w.heap.size w wr) (fun i _ => xs.length - (intOf i).toNat)
  case atStart => exact ⟨0, by omega, rfl, by simpa using hown, hb⟩
  case round =>
    obtain ⟨k, hk, rfl, hown, hbel⟩ := hrel
    by_cases hlt : k < xs.length
    · obtain ⟨ad, rfl, hab, hc0, hc1, hc2⟩ := rdStand (hr.below hbel) hlt
      have hl0 : k < (xs.take k ++ List.replicate (xs.length - k) ((0, 0, 0) : StandD)).length := by simp; omega
      go_wp2_with fail
      refine (toStand_any _ _ _ _).mono ?_
      rintro e w2 ⟨rfl, hb2⟩
      have hown2 := hown.below hb2
      obtain ⟨g, hg, hbg, hgl, ⟨hd0, hd1, hd2⟩, hfz⟩ := ownStand hown2 hl0
      cases hg
      go_wp2_with fail
      go_roundw
      case rel =>
        have hst := setStand hown2 hl0 xs[k]
        rw [fill_step xs (0, 0, 0) hlt] at hst
        exact ⟨k + 1, by omega, by go_num, hst, (((bthen hbel (Nat.le_refl _) hb2).setCell (Nat.le_refl _) _).setCell (Nat.le_refl _) _).setCell (Nat.le_refl _) _⟩
      case measure => simp [intOf]; omega
    · have hkk : k = xs.length := by omega
      go_wp2_with fail
      go_ret
      refine ⟨_, _, rfl, ?_, hbel⟩
      subst hkk
      simpa using hown

theorem eqStand_any (f0 : Int) (f1 : Int) (f2 : Int) (w : World) :
    Calls Try.prog 47 #[.agg #[.int .i64 (f0), .int .i64 (f1), .int .i64 (f2)], .agg #[.int .i64 (f0), .int .i64 (f1), .int .i64 (f2)]] w fun e w' => e = .returned (.bool true) ∧ Below w.heap.size w w' := by
  go_enter Try.func47, Try.ntmps47
  go_wp2_with fail
  go_ret
  exact ⟨rfl, ((Below.refl _ _).alloc (Nat.le_refl _) _).alloc (by simp) _⟩

theorem eqStandS_same (A : Option Addr) (c : Nat) (A2 : Option Addr) (c2 : Nat) (xs : List StandD) (w : World) (hr : Rd LStand w w.heap.size A c xs) (hr2 : Rd LStand w w.heap.size A2 c2 xs) :
    Calls Try.prog 48 #[.slice A xs.length c, .slice A2 xs.length c2] w fun e w' => e = .returned (.bool true) ∧ Below w.heap.size w w' := by
  have hlen := hr.len63
  have hn : ((xs.length : Int) != (xs.length : Int)) = false := by simp
  go_enter Try.func48, Try.ntmps48
  go_wp2_with fail
  go_loopw [5] (fun i wr => ∃ k : Nat, k ≤ xs.length ∧ i = .int .i64 k ∧ Below w.heap.size w wr) (fun i _ => xs.length - (intOf i).toNat)
  case atStart => exact ⟨0, by omega, rfl, Below.refl _ _⟩
  case round =>
    obtain ⟨k, hk, rfl, hbel⟩ := hrel
    by_cases hlt : k < xs.length
    · obtain ⟨ad, rfl, hab, hc0, hc1, hc2⟩ := rdStand (hr.below hbel) hlt
      obtain ⟨ad2, rfl, hab2, hd0, hd1, hd2⟩ := rdStand (hr2.below hbel) hlt
      have hk0 : (k : Int) < xs.length := by omega
      have hs := hbel.size
      have ha1 : (ad.add (k * 3)).block < wr.heap.size := by rw [block_of_add]; omega
      have ha2 : (ad2.add (k * 3)).block < wr.heap.size := by rw [block_of_add]; omega
      go_wp2_with fail
      go_region_held3 (fun W => W.cell? (ad.add (k * 3)) = some (.int .i64 (xs[k].1)) ∧ W.cell? ⟨(ad.add (k * 3)).block, (ad.add (k * 3)).off + 1, none⟩ = some (.int .i64 (xs[k].2.1)) ∧ W.cell? ⟨(ad.add (k * 3)).block, (ad.add (k * 3)).off + 2, none⟩ = some (.int .i64 (xs[k].2.2)) ∧ W.cell? (ad2.add (k * 3)) = some (.int .i64 (xs[k].1)) ∧ W.cell? ⟨(ad2.add (k * 3)).block, (ad2.add (k * 3)).off + 1, none⟩ = some (.int .i64 (xs[k].2.1)) ∧ W.cell? ⟨(ad2.add (k * 3)).block, (ad2.add (k * 3)).off + 2, none⟩ = some (.int .i64 (xs[k].2.2)))
        (first | go_keep | (go_split_ands; refine ⟨?_, ?_, ?_, ?_, ?_, ?_⟩ <;> (refine (hc.cell ?_).trans ?_; (focus (first | exact ha1 | exact ha2)); assumption)))
        ((first | (go_at_call 47; (with_reducible refine (eqStand_any _ _ _ _).mono ?_); rintro e w3 ⟨rfl, hc⟩)))
      go_wp2_with fail
      go_roundw
      case rel => exact ⟨k + 1, by omega, by go_num, bthen hbel.drew (Nat.le_refl _) hc⟩
      case measure => simp [intOf]; omega
    · go_wp2_with fail
      go_ret
      exact ⟨rfl, hbel⟩

theorem szStandS_any (A : Option Addr) (c : Nat) (n : Nat) (left : Int) (w : World) (h0 : 0 ≤ left) (h1 : left ≤ 1048576) (hn : n ≤ 9223372036854775807) :
    Calls Try.prog 43 #[.slice A n c, .int .i64 left] w fun e w' => e = .returned (.int .i64 (szN left n)) ∧ w = w' := by
  by_cases h : (n : Int) ≤ left
  · have HV : Hid (szN left n = left - n) := Lib.hid (by unfold szN; rw [if_pos h])
    go_enter Try.func43, Try.ntmps43
    go_wp2_with fail
    go_ret
    exact ⟨ret_int HV.out.symm, rfl⟩
  · have HV : Hid (szN left n = -1) := Lib.hid (by unfold szN; rw [if_neg h])
    go_enter Try.func43, Try.ntmps43
    go_wp2_with fail
    go_ret
    exact ⟨ret_int HV.out.symm, rfl⟩

def AskStand (P : Program) (k : FuncId) (caps : Array Value) (B : Nat) (w : World) (xs : List StandD) (p : StandD → Bool) : Prop :=
  (∀ args w, (callFunc k args).run P w = .ok (.enter k args) w) ∧
  ∀ x ∈ xs, ∀ w', Below B w w' → Calls P k (#[.agg #[.int .i64 (x.1), .int .i64 (x.2.1), .int .i64 (x.2.2)]] ++ caps) w' fun e w'' => e = .returned (.bool (p x)) ∧ Below w'.heap.size w' w''
theorem indexStand_any (A : Option Addr) (c : Nat) (xs : List StandD) (k : FuncId) (caps : Array Value) (p : StandD → Bool) (B : Nat) (w : World) (hB : B ≤ w.heap.size)
    (hr : Rd LStand w B A c xs) (hp : AskStand Try.prog k caps B w xs p) :
    Calls Try.prog 75 #[.slice A xs.length c, .func (.func k) #[] caps] w fun e w' => e = .returned (.int .i64 (fIdx p xs)) ∧ Below B w w' := by
  have hlen := hr.len63
  obtain ⟨eg, hp⟩ := hp
  go_enter Try.func75, Try.ntmps75
  go_wp2_with fail
  go_loopw [5,8] (fun i j wr => ∃ k : Nat, k ≤ xs.length ∧ j = .int .i64 k ∧ (∀ y ∈ xs.take k, p y = false) ∧ Below B w wr) (fun _ j _ => xs.length - (intOf j).toNat)
  case atStart => exact ⟨0, by omega, rfl, by simp, Below.refl _ _⟩
  case round =>
    obtain ⟨m, hk, rfl, hno, hbel⟩ := hrel
    have Hno := Lib.hid hno
    clear hno
    by_cases hlt : m < xs.length
    · obtain ⟨ad, rfl, hab, hc0, hc1, hc2⟩ := rdStand (hr.below hbel) hlt
      have hpx := hp xs[m] (List.getElem_mem _) wr hbel
      have HP := Lib.hid hp
      clear hp
      go_wp2_with fail
      refine hpx.mono ?_
      rintro e w1 ⟨rfl, hb1⟩
      by_cases hpt : p xs[m] = true
      · go_wp2_with fail
        go_ret
        exact ⟨ret_int (fIdx_hit hlt Hno.out hpt).symm, bthen hbel hB hb1⟩
      · have hpf : p xs[m] = false := by simpa using hpt
        clear hpt
        go_wp2_with fail
        go_roundw
        case rel =>
          refine ⟨m + 1, by omega, by go_num, ?_, bthen hbel hB hb1⟩
          rw [List.take_succ_eq_append_getElem hlt]
          intro y hy
          rcases List.mem_append.1 hy with h | h
          · exact Hno.out y h
          · simp at h; rw [h]; exact hpf
        case measure => simp [intOf]; omega
    · go_wp2_with fail
      go_ret
      refine ⟨ret_int (fIdx_none ?_).symm, hbel⟩
      have := Hno.out
      rw [List.take_of_length_le (by omega)] at this
      exact this
theorem containsStand_any (A : Option Addr) (c : Nat) (xs : List StandD) (k : FuncId) (caps : Array Value) (p : StandD → Bool) (B : Nat) (w : World) (hB : B ≤ w.heap.size)
    (hr : Rd LStand w B A c xs) (hp : AskStand Try.prog k caps B w xs p) :
    Calls Try.prog 72 #[.slice A xs.length c, .func (.func k) #[] caps] w fun e w' => e = .returned (.bool (xs.any p)) ∧ Below B w w' := by
  have hc := indexStand_any A c xs k caps p B w hB hr hp
  obtain ⟨eg, hp⟩ := hp
  clear hp
  go_enter Try.func72, Try.ntmps72
  go_wp2_with fail
  refine hc.mono ?_
  rintro e w1 ⟨rfl, hb1⟩
  go_wp2_with fail
  go_ret
  exact ⟨ret_bool (fIdx_any p xs), hb1⟩

def atStand (k : Int) : StandD := (k, k + 1, k + 1 + 1)
def upStand (k : Int) (n : Nat) : List StandD := (List.range n).map fun (i : Nat) => atStand (k + 3 * (i : Int))
theorem upStand_len (k : Int) (n : Nat) : (upStand k n).length = n := by simp [upStand]
theorem upStand_get (k : Int) (n : Nat) {i : Nat} (h : i < (upStand k n).length) : (upStand k n)[i] = atStand (k + 3 * (i : Int)) := by simp [upStand]
set_option maxHeartbeats 800000 in
theorem markStandS_any (A : Option Addr) (c : Nat) (xs : List StandD) (k : Int) (base : Nat) (w : World) (hown : Own LStand 55 w base A c xs) (hk0 : 0 ≤ k) (hk1 : k + 3 * xs.length ≤ 4611686018427387904) :
    Calls Try.prog 51 #[.slice A xs.length c, .int .i64 k] w fun e w' => e = .returned (.int .i64 (k + 3 * xs.length)) ∧ Own LStand 55 w' base A c (upStand k xs.length) ∧
      Kept (fun b => blk A = some b) w w' := by
  have hlen := hown.len63
  go_enter Try.func51, Try.ntmps51
  go_wp2_with fail
  go_loopw [1, 5] (fun j i wr => ∃ m : Nat, m ≤ xs.length ∧ i = .int .i64 m ∧ j = .int .i64 (k + 3 * m) ∧ Own LStand 55 wr base A c ((upStand k xs.length).take m ++ xs.drop m) ∧
      Kept (fun b => blk A = some b) w wr) (fun _ i _ => xs.length - (intOf i).toNat)
  case atStart => exact ⟨0, by omega, rfl, by simp, by simpa using hown, Kept.refl _ _⟩
  case round =>
    obtain ⟨m, hm, rfl, rfl, hown', HF⟩ := hrel
    have hkm : k + 3 * (m : Int) ≤ 4611686018427387904 := by omega
    have hkm0 : 0 ≤ k + 3 * (m : Int) := by omega
    by_cases hlt : m < xs.length
    · have hkm2 : k + 3 * (m : Int) + 3 ≤ 4611686018427387904 := by omega
      have hl0 : m < ((upStand k xs.length).take m ++ xs.drop m).length := by simp [upStand_len]; omega
      obtain ⟨g, rfl, hbg, hgl, ⟨hd0, hd1, hd2⟩, hfz⟩ := ownStand hown' hl0
      have hpx : List.set ((upStand k xs.length).take m ++ xs.drop m) m (atStand (k + 3 * (m : Int))) = (upStand k xs.length).take (m + 1) ++ xs.drop (m + 1) := by
        rw [← upStand_get k xs.length (i := m) (by rw [upStand_len]; exact hlt)]
        exact paint_step _ _ (upStand_len _ _) hlt
      have hst := setStand hown' hl0 (atStand (k + 3 * (m : Int)))
      rw [hpx] at hst
      simp only [atStand] at hst
      have Hst := Lib.hid hst
      clear hst hpx
      go_wp2_with fail
      go_roundw
      case rel =>
        refine ⟨m + 1, by omega, by go_num, by go_num, Hst.out, HF.trans ⟨rfl, rfl, rfl, by simp, fun b hb hne => ?_⟩⟩
        have hbg : b ≠ g := fun e => hne (by rw [e]; rfl)
        exact (Below.heap_setCell _ ⟨g, _, none⟩ _ b hbg) |>.trans (Below.heap_setCell _ ⟨g, _, none⟩ _ b hbg) |>.trans (Below.heap_setCell _ ⟨g, _, none⟩ _ b hbg)
      case measure => simp [intOf]; omega
    · have hmm : m = xs.length := by omega
      subst hmm
      go_wp2_with fail
      go_ret
      refine ⟨rfl, ?_, HF⟩
      rw [List.take_of_length_le (by rw [upStand_len]; exact Nat.le_refl _), List.drop_of_length_le (Nat.le_refl _), List.append_nil] at hown'
      exact hown'

def eqfStand (a b : StandD) : Bool := a.1 == b.1 && a.2.1 == b.2.1 && a.2.2 == b.2.2

end Go.Proofs.Yteaojbmfjlmggaa
