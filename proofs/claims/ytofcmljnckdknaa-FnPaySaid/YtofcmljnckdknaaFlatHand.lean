/-
  The struct Hand and slices of it: how it lies in memory, and the laws' own functions on it.
-/
import Derived.Test.YtofcmljnckdknaaFlat0
import Derived.Deep.RegionHeld3
import Derived.Test.YtofcmljnckdknaaMark
namespace Go.Proofs.Ytofcmljnckdknaa
open Go.ChangeShapes Go.WideShapes Go.RowKit

abbrev HandD := ByteArray × Int × Bool
def LHand : Lay HandD := ⟨3, fun x => [.string x.1, .int .i64 (x.2.1), .bool x.2.2], fun _ => rfl, by decide, fun x u hu => by simp at hu; rcases hu with rfl | rfl | rfl <;> rfl⟩
def OkHand (n : HandD) : Prop := n.1.size ≤ 9223372036854775807 ∧ I64 n.2.1
theorem rowHand : TyRow Try.prog 29 58 (.agg #[.string ByteArray.empty, .int .i64 (0), .bool false]) LHand.sz 32 := ⟨Try.underlying29, by kernel_rfl⟩
section
variable {T : TypeId} {w : World} {base B c k : Nat} {A : Option Addr} {xs : List HandD}
theorem rdHand (h : Rd LHand w B A c xs) (hk : k < xs.length) : ∃ ad, A = some ad ∧ ad.block < B ∧ w.cell? (ad.add (k * 3)) = some (.string xs[k].1) ∧ w.cell? ⟨(ad.add (k * 3)).block, (ad.add (k * 3)).off + 1, none⟩ = some (.int .i64 (xs[k].2.1)) ∧ w.cell? ⟨(ad.add (k * 3)).block, (ad.add (k * 3)).off + 2, none⟩ = some (.bool xs[k].2.2) := by
  obtain ⟨ad, e, hb, h0, h1⟩ := h.field hk
  exact ⟨ad, e, hb, h0 _ rfl, h1 1 _ (by decide) rfl, h1 2 _ (by decide) rfl⟩
theorem ownHand (h : Own LHand T w base A c xs) (hk : k < xs.length) : ∃ g, A = some ⟨g, 0, none⟩ ∧ base ≤ g ∧ g < w.heap.size ∧ (w.cell? ⟨g, k * 3, none⟩ = some (.string xs[k].1) ∧ w.cell? ⟨g, k * 3 + 1, none⟩ = some (.int .i64 (xs[k].2.1)) ∧ w.cell? ⟨g, k * 3 + 2, none⟩ = some (.bool xs[k].2.2)) ∧ ∀ j, w.frozen? ⟨g, j, none⟩ = false := by
  obtain ⟨g, e, hb, hl, h0, h1⟩ := h.field hk
  exact ⟨g, e, hb, hl, ⟨h0 0 _ rfl, h0 1 _ rfl, h0 2 _ rfl⟩, h1⟩
theorem setHand {g : Nat} (h : Own LHand T w base (some ⟨g, 0, none⟩) c xs) (hk : k < xs.length) (x : HandD) :
    Own LHand T (((w.setCell ⟨g, k * 3, none⟩ (.string x.1)).setCell ⟨g, k * 3 + 1, none⟩ (.int .i64 (x.2.1))).setCell ⟨g, k * 3 + 2, none⟩ (.bool x.2.2)) base (some ⟨g, 0, none⟩) c (xs.set k x) := by
  have h0 := h.setField (k := k) (by simpa using hk) 0 (by decide) (.string x.1) (x.1, xs[k].2.1, xs[k].2.2) (by simp [LHand])
  have h1 := h0.setField (k := k) (by simpa using hk) 1 (by decide) (.int .i64 (x.2.1)) (x.1, x.2.1, xs[k].2.2) (by simp [LHand])
  have h2 := h1.setField (k := k) (by simpa using hk) 2 (by decide) (.bool x.2.2) (x.1, x.2.1, x.2.2) (by simp [LHand])
  simp only [List.set_set, Nat.add_zero] at h2
  exact h2
theorem setHand_0 {g : Nat} (h : Own LHand T w base (some ⟨g, 0, none⟩) c xs) (hk : k < xs.length) (u : ByteArray) : Own LHand T (w.setCell ⟨g, k * 3, none⟩ (.string u)) base (some ⟨g, 0, none⟩) c (xs.set k (u, xs[k].2.1, xs[k].2.2)) :=
  h.setField hk 0 (by decide) _ _ (by simp [LHand])
theorem setHand_1 {g : Nat} (h : Own LHand T w base (some ⟨g, 0, none⟩) c xs) (hk : k < xs.length) (u : Int) : Own LHand T (w.setCell ⟨g, k * 3 + 1, none⟩ (.int .i64 (u))) base (some ⟨g, 0, none⟩) c (xs.set k (xs[k].1, u, xs[k].2.2)) :=
  h.setField hk 1 (by decide) _ _ (by simp [LHand])
theorem setHand_2 {g : Nat} (h : Own LHand T w base (some ⟨g, 0, none⟩) c xs) (hk : k < xs.length) (u : Bool) : Own LHand T (w.setCell ⟨g, k * 3 + 2, none⟩ (.bool u)) base (some ⟨g, 0, none⟩) c (xs.set k (xs[k].1, xs[k].2.1, u)) :=
  h.setField hk 2 (by decide) _ _ (by simp [LHand])
end

theorem toHand_any (f0 : ByteArray) (f1 : Int) (f2 : Bool) (w : World) :
    Calls Try.prog 41 #[.agg #[.string f0, .int .i64 (f1), .bool f2]] w fun e w' => e = .returned (.agg #[.string f0, .int .i64 (f1), .bool f2]) ∧ Below w.heap.size w w' := by
  go_enter Try.func41, Try.ntmps41
  go_wp2_with fail
  refine bodyPost_ret (v := .agg #[.string f0, .int .i64 (f1), .bool f2]) (by simp [results, Try.results41, go_sem]) rfl ⟨rfl, ?_⟩
  exact (((Below.refl _ _).alloc (Nat.le_refl _) _).alloc (by simp) _).alloc (by simp <;> omega) _

theorem toHandS_any (A : Option Addr) (c : Nat) (xs : List HandD) (w : World) (hr : Rd LHand w w.heap.size A c xs) (hn : xs.length ≤ 1048576) :
    Calls Try.prog 9 #[.slice A xs.length c] w fun e w' => ∃ A' c', e = .returned (.slice A' xs.length c') ∧ Own LHand 58 w' w.heap.size A' c' xs ∧ Below w.heap.size w w' := by
  have hlen := hr.len63
  go_enter Try.func9, Try.ntmps9
  go_wp2_with (at_make; refine wpL_make (L := LHand) rowHand rfl _ _ rfl .i64 .i64 _ _ xs.length rfl rfl rfl rfl (by omega) (by unfold maxLen; omega) (ByteArray.empty, 0, false) rfl ?_; intro w1 hown hb)
  go_loopw [4] (fun i wr => ∃ k : Nat, k ≤ xs.length ∧ i = .int .i64 k ∧ Own LHand 58 wr w.heap.size (some ⟨w.heap.size, 0, none⟩) xs.length (xs.take k ++ List.replicate (xs.length - k) (ByteArray.empty, 0, false)) ∧ Below w.heap.size w wr) (fun i _ => xs.length - (intOf i).toNat)
  case atStart => exact ⟨0, by omega, rfl, by simpa using hown, hb⟩
  case round =>
    obtain ⟨k, hk, rfl, hown, hbel⟩ := hrel
    by_cases hlt : k < xs.length
    · obtain ⟨ad, rfl, hab, hc0, hc1, hc2⟩ := rdHand (hr.below hbel) hlt
      have hl0 : k < (xs.take k ++ List.replicate (xs.length - k) ((ByteArray.empty, 0, false) : HandD)).length := by simp; omega
      go_wp2_with fail
      refine (toHand_any _ _ _ _).mono ?_
      rintro e w2 ⟨rfl, hb2⟩
      have hown2 := hown.below hb2
      obtain ⟨g, hg, hbg, hgl, ⟨hd0, hd1, hd2⟩, hfz⟩ := ownHand hown2 hl0
      cases hg
      go_wp2_with fail
      go_roundw
      case rel =>
        have hst := setHand hown2 hl0 xs[k]
        rw [fill_step xs (ByteArray.empty, 0, false) hlt] at hst
        exact ⟨k + 1, by omega, by go_num, hst, (((bthen hbel (Nat.le_refl _) hb2).setCell (Nat.le_refl _) _).setCell (Nat.le_refl _) _).setCell (Nat.le_refl _) _⟩
      case measure => simp [intOf]; omega
    · have hkk : k = xs.length := by omega
      go_wp2_with fail
      go_ret
      refine ⟨_, _, rfl, ?_, hbel⟩
      subst hkk
      simpa using hown

theorem eqHand_any (f0 : ByteArray) (f1 : Int) (f2 : Bool) (w : World) :
    Calls Try.prog 47 #[.agg #[.string f0, .int .i64 (f1), .bool f2], .agg #[.string f0, .int .i64 (f1), .bool f2]] w fun e w' => e = .returned (.bool true) ∧ Below w.heap.size w w' := by
  go_enter Try.func47, Try.ntmps47
  go_wp2_with fail
  go_ret
  exact ⟨rfl, ((Below.refl _ _).alloc (Nat.le_refl _) _).alloc (by simp) _⟩

theorem eqHandS_same (A : Option Addr) (c : Nat) (A2 : Option Addr) (c2 : Nat) (xs : List HandD) (w : World) (hr : Rd LHand w w.heap.size A c xs) (hr2 : Rd LHand w w.heap.size A2 c2 xs) :
    Calls Try.prog 13 #[.slice A xs.length c, .slice A2 xs.length c2] w fun e w' => e = .returned (.bool true) ∧ Below w.heap.size w w' := by
  have hlen := hr.len63
  have hn : ((xs.length : Int) != (xs.length : Int)) = false := by simp
  go_enter Try.func13, Try.ntmps13
  go_wp2_with fail
  go_loopw [5] (fun i wr => ∃ k : Nat, k ≤ xs.length ∧ i = .int .i64 k ∧ Below w.heap.size w wr) (fun i _ => xs.length - (intOf i).toNat)
  case atStart => exact ⟨0, by omega, rfl, Below.refl _ _⟩
  case round =>
    obtain ⟨k, hk, rfl, hbel⟩ := hrel
    by_cases hlt : k < xs.length
    · obtain ⟨ad, rfl, hab, hc0, hc1, hc2⟩ := rdHand (hr.below hbel) hlt
      obtain ⟨ad2, rfl, hab2, hd0, hd1, hd2⟩ := rdHand (hr2.below hbel) hlt
      have hk0 : (k : Int) < xs.length := by omega
      have hs := hbel.size
      have ha1 : (ad.add (k * 3)).block < wr.heap.size := by rw [block_of_add]; omega
      have ha2 : (ad2.add (k * 3)).block < wr.heap.size := by rw [block_of_add]; omega
      go_wp2_with fail
      go_region_held3 (fun W => W.cell? (ad.add (k * 3)) = some (.string xs[k].1) ∧ W.cell? ⟨(ad.add (k * 3)).block, (ad.add (k * 3)).off + 1, none⟩ = some (.int .i64 (xs[k].2.1)) ∧ W.cell? ⟨(ad.add (k * 3)).block, (ad.add (k * 3)).off + 2, none⟩ = some (.bool xs[k].2.2) ∧ W.cell? (ad2.add (k * 3)) = some (.string xs[k].1) ∧ W.cell? ⟨(ad2.add (k * 3)).block, (ad2.add (k * 3)).off + 1, none⟩ = some (.int .i64 (xs[k].2.1)) ∧ W.cell? ⟨(ad2.add (k * 3)).block, (ad2.add (k * 3)).off + 2, none⟩ = some (.bool xs[k].2.2))
        (first | go_keep | (go_split_ands; refine ⟨?_, ?_, ?_, ?_, ?_, ?_⟩ <;> (refine (hc.cell ?_).trans ?_; (focus (first | exact ha1 | exact ha2)); assumption)))
        ((first | (go_at_call 47; (with_reducible refine (eqHand_any _ _ _ _).mono ?_); rintro e w3 ⟨rfl, hc⟩)))
      go_wp2_with fail
      go_roundw
      case rel => exact ⟨k + 1, by omega, by go_num, bthen hbel.drew (Nat.le_refl _) hc⟩
      case measure => simp [intOf]; omega
    · go_wp2_with fail
      go_ret
      exact ⟨rfl, hbel⟩

theorem szHand_any (f0 : ByteArray) (f1 : Int) (f2 : Bool) (left : Int) (w : World) (h0 : 0 ≤ left) (h1 : left ≤ 1048576) (hok : OkHand (f0, f1, f2)) :
    Calls Try.prog 37 #[.agg #[.string f0, .int .i64 (f1), .bool f2], .int .i64 left] w fun e w' => e = .returned (.int .i64 (szN left f0.size)) ∧ Below w.heap.size w w' := by
  have hs : f0.size ≤ 9223372036854775807 := hok.1
  by_cases h : (f0.size : Int) ≤ left
  · have HV : Hid (szN left f0.size = left - f0.size) := Lib.hid (by unfold szN; rw [if_pos h])
    go_enter Try.func37, Try.ntmps37
    go_wp2_with fail
    go_ret
    exact ⟨ret_int HV.out.symm, (Below.refl _ _).alloc (Nat.le_refl _) _⟩
  · have HV : Hid (szN left f0.size = -1) := Lib.hid (by unfold szN; rw [if_neg h])
    go_enter Try.func37, Try.ntmps37
    go_wp2_with fail
    go_ret
    exact ⟨ret_int HV.out.symm, (Below.refl _ _).alloc (Nat.le_refl _) _⟩
theorem szHandS_any (A : Option Addr) (c : Nat) (xs : List HandD) (left : Int) (w : World) (hr : Rd LHand w w.heap.size A c xs) (h0 : 0 ≤ left) (h1 : left ≤ 1048576) (hok : ∀ n ∈ xs, OkHand n) :
    Calls Try.prog 6 #[.slice A xs.length c, .int .i64 left] w fun e w' => e = .returned (.int .i64 (szNm left (xs.map fun x => x.1))) ∧ Below w.heap.size w w' := by
  have hlen := hr.len63
  by_cases h : (xs.length : Int) ≤ left
  · have HS : Hid (szNm left (xs.map fun x => x.1) = szNs (left - xs.length) (xs.map fun x => x.1)) := Lib.hid (by unfold szNm; rw [if_pos (by simpa using h)]; simp)
    go_enter Try.func6, Try.ntmps6
    go_wp2_with fail
    go_loopw [1, 5] (fun l i wr => ∃ (k : Nat) (m : Int), k ≤ xs.length ∧ i = .int .i64 k ∧ l = .int .i64 m ∧ 0 ≤ m ∧ m ≤ left ∧ szNm left (xs.map fun x => x.1) = szNs m ((xs.drop k).map fun x => x.1) ∧ Below w.heap.size w wr) (fun _ i _ => xs.length - (intOf i).toNat)
    case atStart => exact ⟨0, left - xs.length, by omega, rfl, rfl, by omega, by omega, by rw [HS.out]; rfl, Below.refl _ _⟩
    case round =>
      obtain ⟨k, m, hk, rfl, rfl, hm0, hm1, heq, hbel⟩ := hrel
      have Heq := Lib.hid heq
      clear heq
      by_cases hlt : k < xs.length
      · obtain ⟨ad, rfl, hab, hc0, hc1, hc2⟩ := rdHand (hr.below hbel) hlt
        have hokk := hok _ (List.getElem_mem hlt)
        have hcall := szHand_any xs[k].1 xs[k].2.1 xs[k].2.2 m wr hm0 (by omega) hokk
        have HT : Hid (szNs m ((xs.drop k).map fun x => x.1) = if (xs[k].1.size : Int) ≤ m then szNs (m - xs[k].1.size) ((xs.drop (k + 1)).map fun x => x.1) else -1) := Lib.hid (by
          rw [List.drop_eq_getElem_cons hlt]; rfl)
        by_cases hle : (xs[k].1.size : Int) ≤ m
        · rw [show szN m xs[k].1.size = m - xs[k].1.size by unfold szN; rw [if_pos hle]] at hcall
          go_wp2_with fail
          refine hcall.mono ?_
          rintro e w2 ⟨rfl, hb2⟩
          go_wp2_with fail
          go_roundw
          case rel => exact ⟨k + 1, m - xs[k].1.size, by omega, by go_num, rfl, by omega, by omega, by rw [Heq.out, HT.out, if_pos hle], bthen hbel (Nat.le_refl _) hb2⟩
          case measure => simp [intOf]; omega
        · rw [show szN m xs[k].1.size = -1 by unfold szN; rw [if_neg hle]] at hcall
          go_wp2_with fail
          refine hcall.mono ?_
          rintro e w2 ⟨rfl, hb2⟩
          go_wp2_with fail
          go_ret
          exact ⟨ret_int (by rw [Heq.out, HT.out, if_neg (by omega)]), bthen hbel (Nat.le_refl _) hb2⟩
      · go_wp2_with fail
        go_ret
        exact ⟨ret_int (by rw [Heq.out, List.drop_of_length_le (by omega)]; rfl), hbel⟩
  · have HS : Hid (szNm left (xs.map fun x => x.1) = -1) := Lib.hid (by unfold szNm; rw [if_neg (by simpa using h)])
    rw [HS.out]
    go_enter Try.func6, Try.ntmps6
    go_wp2_with fail
    go_ret
    exact ⟨rfl, Below.refl _ _⟩

def AskHand (P : Program) (k : FuncId) (caps : Array Value) (B : Nat) (w : World) (xs : List HandD) (p : HandD → Bool) : Prop :=
  (∀ args w, (callFunc k args).run P w = .ok (.enter k args) w) ∧
  ∀ x ∈ xs, ∀ w', Below B w w' → Calls P k (#[.agg #[.string x.1, .int .i64 (x.2.1), .bool x.2.2]] ++ caps) w' fun e w'' => e = .returned (.bool (p x)) ∧ Below w'.heap.size w' w''
theorem indexHand_any (A : Option Addr) (c : Nat) (xs : List HandD) (k : FuncId) (caps : Array Value) (p : HandD → Bool) (B : Nat) (w : World) (hB : B ≤ w.heap.size)
    (hr : Rd LHand w B A c xs) (hp : AskHand Try.prog k caps B w xs p) :
    Calls Try.prog 102 #[.slice A xs.length c, .func (.func k) #[] caps] w fun e w' => e = .returned (.int .i64 (fIdx p xs)) ∧ Below B w w' := by
  have hlen := hr.len63
  obtain ⟨eg, hp⟩ := hp
  go_enter Try.func102, Try.ntmps102
  go_wp2_with fail
  go_loopw [5,8] (fun i j wr => ∃ k : Nat, k ≤ xs.length ∧ j = .int .i64 k ∧ (∀ y ∈ xs.take k, p y = false) ∧ Below B w wr) (fun _ j _ => xs.length - (intOf j).toNat)
  case atStart => exact ⟨0, by omega, rfl, by simp, Below.refl _ _⟩
  case round =>
    obtain ⟨m, hk, rfl, hno, hbel⟩ := hrel
    have Hno := Lib.hid hno
    clear hno
    by_cases hlt : m < xs.length
    · obtain ⟨ad, rfl, hab, hc0, hc1, hc2⟩ := rdHand (hr.below hbel) hlt
      have hpx := hp xs[m] (List.getElem_mem _) wr hbel
      have HP := Lib.hid hp
      clear hp
      go_wp2_with fail
      refine hpx.mono ?_
      rintro e w1 ⟨rfl, hb1⟩
      by_cases hpt : p xs[m] = true
      · go_wp2_with fail
        go_ret
        exact ⟨ret_int (fIdx_hit hlt Hno.out hpt).symm, bthen hbel hB hb1⟩
      · have hpf : p xs[m] = false := by simpa using hpt
        clear hpt
        go_wp2_with fail
        go_roundw
        case rel =>
          refine ⟨m + 1, by omega, by go_num, ?_, bthen hbel hB hb1⟩
          rw [List.take_succ_eq_append_getElem hlt]
          intro y hy
          rcases List.mem_append.1 hy with h | h
          · exact Hno.out y h
          · simp at h; rw [h]; exact hpf
        case measure => simp [intOf]; omega
    · go_wp2_with fail
      go_ret
      refine ⟨ret_int (fIdx_none ?_).symm, hbel⟩
      have := Hno.out
      rw [List.take_of_length_le (by omega)] at this
      exact this
theorem containsHand_any (A : Option Addr) (c : Nat) (xs : List HandD) (k : FuncId) (caps : Array Value) (p : HandD → Bool) (B : Nat) (w : World) (hB : B ≤ w.heap.size)
    (hr : Rd LHand w B A c xs) (hp : AskHand Try.prog k caps B w xs p) :
    Calls Try.prog 95 #[.slice A xs.length c, .func (.func k) #[] caps] w fun e w' => e = .returned (.bool (xs.any p)) ∧ Below B w w' := by
  have hc := indexHand_any A c xs k caps p B w hB hr hp
  obtain ⟨eg, hp⟩ := hp
  clear hp
  go_enter Try.func95, Try.ntmps95
  go_wp2_with fail
  refine hc.mono ?_
  rintro e w1 ⟨rfl, hb1⟩
  go_wp2_with fail
  go_ret
  exact ⟨ret_bool (fIdx_any p xs), hb1⟩

def atHand (k : Int) : HandD := (mkT (k), k + 1, ((k + 1 + 1) % 3 == 0))
def upHand (k : Int) (n : Nat) : List HandD := (List.range n).map fun (i : Nat) => atHand (k + 3 * (i : Int))
theorem upHand_len (k : Int) (n : Nat) : (upHand k n).length = n := by simp [upHand]
theorem upHand_get (k : Int) (n : Nat) {i : Nat} (h : i < (upHand k n).length) : (upHand k n)[i] = atHand (k + 3 * (i : Int)) := by simp [upHand]
set_option maxHeartbeats 800000 in
theorem markHandS_any (A : Option Addr) (c : Nat) (xs : List HandD) (k : Int) (base : Nat) (w : World) (hown : Own LHand 58 w base A c xs) (hk0 : 0 ≤ k) (hk1 : k + 3 * xs.length ≤ 4611686018427387904) :
    Calls Try.prog 15 #[.slice A xs.length c, .int .i64 k] w fun e w' => e = .returned (.int .i64 (k + 3 * xs.length)) ∧ Own LHand 58 w' base A c (upHand k xs.length) ∧
      Kept (fun b => blk A = some b) w w' := by
  have hlen := hown.len63
  go_enter Try.func15, Try.ntmps15
  go_wp2_with fail
  go_loopw [1, 5] (fun j i wr => ∃ m : Nat, m ≤ xs.length ∧ i = .int .i64 m ∧ j = .int .i64 (k + 3 * m) ∧ Own LHand 58 wr base A c ((upHand k xs.length).take m ++ xs.drop m) ∧
      Kept (fun b => blk A = some b) w wr) (fun _ i _ => xs.length - (intOf i).toNat)
  case atStart => exact ⟨0, by omega, rfl, by simp, by simpa using hown, Kept.refl _ _⟩
  case round =>
    obtain ⟨m, hm, rfl, rfl, hown', HF⟩ := hrel
    have hkm : k + 3 * (m : Int) ≤ 4611686018427387904 := by omega
    have hkm0 : 0 ≤ k + 3 * (m : Int) := by omega
    by_cases hlt : m < xs.length
    · have hkm2 : k + 3 * (m : Int) + 3 ≤ 4611686018427387904 := by omega
      have hl0 : m < ((upHand k xs.length).take m ++ xs.drop m).length := by simp [upHand_len]; omega
      have hpx : List.set ((upHand k xs.length).take m ++ xs.drop m) m (atHand (k + 3 * (m : Int))) = (upHand k xs.length).take (m + 1) ++ xs.drop (m + 1) := by
        rw [← upHand_get k xs.length (i := m) (by rw [upHand_len]; exact hlt)]
        exact paint_step _ _ (upHand_len _ _) hlt
      have hmt := markText_any (k + 3 * (m : Int)) wr hkm
      have Hpx := Lib.hid hpx
      clear hpx
      go_wp2_with fail
      refine hmt.mono ?_
      rintro e w2 ⟨rfl, hb2⟩
      have hown2 := hown'.below hb2
      obtain ⟨g, rfl, hbg, hgl, ⟨hd0, hd1, hd2⟩, hfz⟩ := ownHand hown2 hl0
      have hpx := Hpx.out
      have hst := setHand hown2 hl0 (atHand (k + 3 * (m : Int)))
      rw [hpx] at hst
      simp only [atHand] at hst
      have Hst := Lib.hid hst
      clear hst hpx
      go_wp2_with fail
      go_roundw
      case rel =>
        refine ⟨m + 1, by omega, by go_num, by go_num, Hst.out, (HF.trans (Kept.of_below hb2)).trans ⟨rfl, rfl, rfl, by simp, fun b hb hne => ?_⟩⟩
        have hbg : b ≠ g := fun e => hne (by rw [e]; rfl)
        exact (Below.heap_setCell _ ⟨g, _, none⟩ _ b hbg) |>.trans (Below.heap_setCell _ ⟨g, _, none⟩ _ b hbg) |>.trans (Below.heap_setCell _ ⟨g, _, none⟩ _ b hbg)
      case measure => simp [intOf]; omega
    · have hmm : m = xs.length := by omega
      subst hmm
      go_wp2_with fail
      go_ret
      refine ⟨rfl, ?_, HF⟩
      rw [List.take_of_length_le (by rw [upHand_len]; exact Nat.le_refl _), List.drop_of_length_le (Nat.le_refl _), List.append_nil] at hown'
      exact hown'


def eqfHand (a b : HandD) : Bool := a.1.toList == b.1.toList && a.2.1 == b.2.1 && a.2.2 == b.2.2


end Go.Proofs.Ytofcmljnckdknaa
