/-
  The struct Class and slices of it: how it lies in memory, and the laws' own functions on it.
-/
import Derived.Test.YtpafdnclhenklaaFlat0
import Derived.Deep.RegionHeld3
import Derived.Test.YtpafdnclhenklaaMark
namespace Go.Proofs.Ytpafdnclhenklaa
open Go.ChangeShapes Go.WideShapes Go.RowKit

abbrev ClassD := ByteArray × Int × Int × Int
def LClass : Lay ClassD := ⟨4, fun x => [.string x.1, .int .i64 (x.2.1), .int .i64 (x.2.2.1), .int .i64 (x.2.2.2)], fun _ => rfl, by decide, fun x u hu => by simp at hu; rcases hu with rfl | rfl | rfl | rfl <;> rfl⟩
def OkClass (n : ClassD) : Prop := n.1.size ≤ 9223372036854775807 ∧ I64 n.2.1 ∧ I64 n.2.2.1 ∧ I64 n.2.2.2
theorem rowClass : TyRow Try.prog 50 43 (.agg #[.string ByteArray.empty, .int .i64 (0), .int .i64 (0), .int .i64 (0)]) LClass.sz 40 := ⟨Try.underlying50, by kernel_rfl⟩
section
variable {T : TypeId} {w : World} {base B c k : Nat} {A : Option Addr} {xs : List ClassD}
theorem rdClass (h : Rd LClass w B A c xs) (hk : k < xs.length) : ∃ ad, A = some ad ∧ ad.block < B ∧ w.cell? (ad.add (k * 4)) = some (.string xs[k].1) ∧ w.cell? ⟨(ad.add (k * 4)).block, (ad.add (k * 4)).off + 1, none⟩ = some (.int .i64 (xs[k].2.1)) ∧ w.cell? ⟨(ad.add (k * 4)).block, (ad.add (k * 4)).off + 2, none⟩ = some (.int .i64 (xs[k].2.2.1)) ∧ w.cell? ⟨(ad.add (k * 4)).block, (ad.add (k * 4)).off + 3, none⟩ = some (.int .i64 (xs[k].2.2.2)) := by
  obtain ⟨ad, e, hb, h0, h1⟩ := h.field hk
  exact ⟨ad, e, hb, h0 _ rfl, h1 1 _ (by decide) rfl, h1 2 _ (by decide) rfl, h1 3 _ (by decide) rfl⟩
theorem ownClass (h : Own LClass T w base A c xs) (hk : k < xs.length) : ∃ g, A = some ⟨g, 0, none⟩ ∧ base ≤ g ∧ g < w.heap.size ∧ (w.cell? ⟨g, k * 4, none⟩ = some (.string xs[k].1) ∧ w.cell? ⟨g, k * 4 + 1, none⟩ = some (.int .i64 (xs[k].2.1)) ∧ w.cell? ⟨g, k * 4 + 2, none⟩ = some (.int .i64 (xs[k].2.2.1)) ∧ w.cell? ⟨g, k * 4 + 3, none⟩ = some (.int .i64 (xs[k].2.2.2))) ∧ ∀ j, w.frozen? ⟨g, j, none⟩ = false := by
  obtain ⟨g, e, hb, hl, h0, h1⟩ := h.field hk
  exact ⟨g, e, hb, hl, ⟨h0 0 _ rfl, h0 1 _ rfl, h0 2 _ rfl, h0 3 _ rfl⟩, h1⟩
theorem setClass {g : Nat} (h : Own LClass T w base (some ⟨g, 0, none⟩) c xs) (hk : k < xs.length) (x : ClassD) :
    Own LClass T ((((w.setCell ⟨g, k * 4, none⟩ (.string x.1)).setCell ⟨g, k * 4 + 1, none⟩ (.int .i64 (x.2.1))).setCell ⟨g, k * 4 + 2, none⟩ (.int .i64 (x.2.2.1))).setCell ⟨g, k * 4 + 3, none⟩ (.int .i64 (x.2.2.2))) base (some ⟨g, 0, none⟩) c (xs.set k x) := by
  have h0 := h.setField (k := k) (by simpa using hk) 0 (by decide) (.string x.1) (x.1, xs[k].2.1, xs[k].2.2.1, xs[k].2.2.2) (by simp [LClass])
  have h1 := h0.setField (k := k) (by simpa using hk) 1 (by decide) (.int .i64 (x.2.1)) (x.1, x.2.1, xs[k].2.2.1, xs[k].2.2.2) (by simp [LClass])
  have h2 := h1.setField (k := k) (by simpa using hk) 2 (by decide) (.int .i64 (x.2.2.1)) (x.1, x.2.1, x.2.2.1, xs[k].2.2.2) (by simp [LClass])
  have h3 := h2.setField (k := k) (by simpa using hk) 3 (by decide) (.int .i64 (x.2.2.2)) (x.1, x.2.1, x.2.2.1, x.2.2.2) (by simp [LClass])
  simp only [List.set_set, Nat.add_zero] at h3
  exact h3
theorem setClass_0 {g : Nat} (h : Own LClass T w base (some ⟨g, 0, none⟩) c xs) (hk : k < xs.length) (u : ByteArray) : Own LClass T (w.setCell ⟨g, k * 4, none⟩ (.string u)) base (some ⟨g, 0, none⟩) c (xs.set k (u, xs[k].2.1, xs[k].2.2.1, xs[k].2.2.2)) :=
  h.setField hk 0 (by decide) _ _ (by simp [LClass])
theorem setClass_1 {g : Nat} (h : Own LClass T w base (some ⟨g, 0, none⟩) c xs) (hk : k < xs.length) (u : Int) : Own LClass T (w.setCell ⟨g, k * 4 + 1, none⟩ (.int .i64 (u))) base (some ⟨g, 0, none⟩) c (xs.set k (xs[k].1, u, xs[k].2.2.1, xs[k].2.2.2)) :=
  h.setField hk 1 (by decide) _ _ (by simp [LClass])
theorem setClass_2 {g : Nat} (h : Own LClass T w base (some ⟨g, 0, none⟩) c xs) (hk : k < xs.length) (u : Int) : Own LClass T (w.setCell ⟨g, k * 4 + 2, none⟩ (.int .i64 (u))) base (some ⟨g, 0, none⟩) c (xs.set k (xs[k].1, xs[k].2.1, u, xs[k].2.2.2)) :=
  h.setField hk 2 (by decide) _ _ (by simp [LClass])
theorem setClass_3 {g : Nat} (h : Own LClass T w base (some ⟨g, 0, none⟩) c xs) (hk : k < xs.length) (u : Int) : Own LClass T (w.setCell ⟨g, k * 4 + 3, none⟩ (.int .i64 (u))) base (some ⟨g, 0, none⟩) c (xs.set k (xs[k].1, xs[k].2.1, xs[k].2.2.1, u)) :=
  h.setField hk 3 (by decide) _ _ (by simp [LClass])
end

theorem toClass_any (f0 : ByteArray) (f1 : Int) (f2 : Int) (f3 : Int) (w : World) :
    Calls Try.prog 21 #[.agg #[.string f0, .int .i64 (f1), .int .i64 (f2), .int .i64 (f3)]] w fun e w' => e = .returned (.agg #[.string f0, .int .i64 (f1), .int .i64 (f2), .int .i64 (f3)]) ∧ Below w.heap.size w w' := by
  go_enter Try.func21, Try.ntmps21
  go_wp2_with fail
  refine bodyPost_ret (v := .agg #[.string f0, .int .i64 (f1), .int .i64 (f2), .int .i64 (f3)]) (by simp [results, Try.results21, go_sem]) rfl ⟨rfl, ?_⟩
  exact (((Below.refl _ _).alloc (Nat.le_refl _) _).alloc (by simp) _).alloc (by simp <;> omega) _

theorem toClassS_any (A : Option Addr) (c : Nat) (xs : List ClassD) (w : World) (hr : Rd LClass w w.heap.size A c xs) (hn : xs.length ≤ 1048576) :
    Calls Try.prog 26 #[.slice A xs.length c] w fun e w' => ∃ A' c', e = .returned (.slice A' xs.length c') ∧ Own LClass 43 w' w.heap.size A' c' xs ∧ Below w.heap.size w w' := by
  have hlen := hr.len63
  go_enter Try.func26, Try.ntmps26
  go_wp2_with (at_make; refine wpL_make (L := LClass) rowClass rfl _ _ rfl .i64 .i64 _ _ xs.length rfl rfl rfl rfl (by omega) (by unfold maxLen; omega) (ByteArray.empty, 0, 0, 0) rfl ?_; intro w1 hown hb)
  go_loopw [4] (fun i wr => ∃ k : Nat, k ≤ xs.length ∧ i = .int .i64 k ∧ Own LClass 43 wr w.heap.size (some ⟨w.heap.size, 0, none⟩) xs.length (xs.take k ++ List.replicate (xs.length - k) (ByteArray.empty, 0, 0, 0)) ∧ Below w.heap.size w wr) (fun i _ => xs.length - (intOf i).toNat)
  case atStart => exact ⟨0, by omega, rfl, by simpa using hown, hb⟩
  case round =>
    obtain ⟨k, hk, rfl, hown, hbel⟩ := hrel
    by_cases hlt : k < xs.length
    · obtain ⟨ad, rfl, hab, hc0, hc1, hc2, hc3⟩ := rdClass (hr.below hbel) hlt
      have hl0 : k < (xs.take k ++ List.replicate (xs.length - k) ((ByteArray.empty, 0, 0, 0) : ClassD)).length := by simp; omega
      go_wp2_with fail
      refine (toClass_any _ _ _ _ _).mono ?_
      rintro e w2 ⟨rfl, hb2⟩
      have hown2 := hown.below hb2
      obtain ⟨g, hg, hbg, hgl, ⟨hd0, hd1, hd2, hd3⟩, hfz⟩ := ownClass hown2 hl0
      cases hg
      go_wp2_with fail
      go_roundw
      case rel =>
        have hst := setClass hown2 hl0 xs[k]
        rw [fill_step xs (ByteArray.empty, 0, 0, 0) hlt] at hst
        exact ⟨k + 1, by omega, by go_num, hst, ((((bthen hbel (Nat.le_refl _) hb2).setCell (Nat.le_refl _) _).setCell (Nat.le_refl _) _).setCell (Nat.le_refl _) _).setCell (Nat.le_refl _) _⟩
      case measure => simp [intOf]; omega
    · have hkk : k = xs.length := by omega
      go_wp2_with fail
      go_ret
      refine ⟨_, _, rfl, ?_, hbel⟩
      subst hkk
      simpa using hown

theorem eqClass_any (f0 : ByteArray) (f1 : Int) (f2 : Int) (f3 : Int) (w : World) :
    Calls Try.prog 57 #[.agg #[.string f0, .int .i64 (f1), .int .i64 (f2), .int .i64 (f3)], .agg #[.string f0, .int .i64 (f1), .int .i64 (f2), .int .i64 (f3)]] w fun e w' => e = .returned (.bool true) ∧ Below w.heap.size w w' := by
  go_enter Try.func57, Try.ntmps57
  go_wp2_with fail
  go_ret
  exact ⟨rfl, ((Below.refl _ _).alloc (Nat.le_refl _) _).alloc (by simp) _⟩

theorem eqClassS_same (A : Option Addr) (c : Nat) (A2 : Option Addr) (c2 : Nat) (xs : List ClassD) (w : World) (hr : Rd LClass w w.heap.size A c xs) (hr2 : Rd LClass w w.heap.size A2 c2 xs) :
    Calls Try.prog 28 #[.slice A xs.length c, .slice A2 xs.length c2] w fun e w' => e = .returned (.bool true) ∧ Below w.heap.size w w' := by
  have hlen := hr.len63
  have hn : ((xs.length : Int) != (xs.length : Int)) = false := by simp
  go_enter Try.func28, Try.ntmps28
  go_wp2_with fail
  go_loopw [5] (fun i wr => ∃ k : Nat, k ≤ xs.length ∧ i = .int .i64 k ∧ Below w.heap.size w wr) (fun i _ => xs.length - (intOf i).toNat)
  case atStart => exact ⟨0, by omega, rfl, Below.refl _ _⟩
  case round =>
    obtain ⟨k, hk, rfl, hbel⟩ := hrel
    by_cases hlt : k < xs.length
    · obtain ⟨ad, rfl, hab, hc0, hc1, hc2, hc3⟩ := rdClass (hr.below hbel) hlt
      obtain ⟨ad2, rfl, hab2, hd0, hd1, hd2, hd3⟩ := rdClass (hr2.below hbel) hlt
      have hk0 : (k : Int) < xs.length := by omega
      have hs := hbel.size
      have ha1 : (ad.add (k * 4)).block < wr.heap.size := by rw [block_of_add]; omega
      have ha2 : (ad2.add (k * 4)).block < wr.heap.size := by rw [block_of_add]; omega
      go_wp2_with fail
      go_region_held3 (fun W => W.cell? (ad.add (k * 4)) = some (.string xs[k].1) ∧ W.cell? ⟨(ad.add (k * 4)).block, (ad.add (k * 4)).off + 1, none⟩ = some (.int .i64 (xs[k].2.1)) ∧ W.cell? ⟨(ad.add (k * 4)).block, (ad.add (k * 4)).off + 2, none⟩ = some (.int .i64 (xs[k].2.2.1)) ∧ W.cell? ⟨(ad.add (k * 4)).block, (ad.add (k * 4)).off + 3, none⟩ = some (.int .i64 (xs[k].2.2.2)) ∧ W.cell? (ad2.add (k * 4)) = some (.string xs[k].1) ∧ W.cell? ⟨(ad2.add (k * 4)).block, (ad2.add (k * 4)).off + 1, none⟩ = some (.int .i64 (xs[k].2.1)) ∧ W.cell? ⟨(ad2.add (k * 4)).block, (ad2.add (k * 4)).off + 2, none⟩ = some (.int .i64 (xs[k].2.2.1)) ∧ W.cell? ⟨(ad2.add (k * 4)).block, (ad2.add (k * 4)).off + 3, none⟩ = some (.int .i64 (xs[k].2.2.2)))
        (first | go_keep | (go_split_ands; refine ⟨?_, ?_, ?_, ?_, ?_, ?_, ?_, ?_⟩ <;> (refine (hc.cell ?_).trans ?_; (focus (first | exact ha1 | exact ha2)); assumption)))
        ((first | (go_at_call 57; (with_reducible refine (eqClass_any _ _ _ _ _).mono ?_); rintro e w3 ⟨rfl, hc⟩)))
      go_wp2_with fail
      go_roundw
      case rel => exact ⟨k + 1, by omega, by go_num, bthen hbel.drew (Nat.le_refl _) hc⟩
      case measure => simp [intOf]; omega
    · go_wp2_with fail
      go_ret
      exact ⟨rfl, hbel⟩

theorem szClass_any (f0 : ByteArray) (f1 : Int) (f2 : Int) (f3 : Int) (left : Int) (w : World) (h0 : 0 ≤ left) (h1 : left ≤ 1048576) (hok : OkClass (f0, f1, f2, f3)) :
    Calls Try.prog 18 #[.agg #[.string f0, .int .i64 (f1), .int .i64 (f2), .int .i64 (f3)], .int .i64 left] w fun e w' => e = .returned (.int .i64 (szN left f0.size)) ∧ Below w.heap.size w w' := by
  have hs : f0.size ≤ 9223372036854775807 := hok.1
  by_cases h : (f0.size : Int) ≤ left
  · have HV : Hid (szN left f0.size = left - f0.size) := Lib.hid (by unfold szN; rw [if_pos h])
    go_enter Try.func18, Try.ntmps18
    go_wp2_with fail
    go_ret
    exact ⟨ret_int HV.out.symm, (Below.refl _ _).alloc (Nat.le_refl _) _⟩
  · have HV : Hid (szN left f0.size = -1) := Lib.hid (by unfold szN; rw [if_neg h])
    go_enter Try.func18, Try.ntmps18
    go_wp2_with fail
    go_ret
    exact ⟨ret_int HV.out.symm, (Below.refl _ _).alloc (Nat.le_refl _) _⟩
theorem szClassS_any (A : Option Addr) (c : Nat) (xs : List ClassD) (left : Int) (w : World) (hr : Rd LClass w w.heap.size A c xs) (h0 : 0 ≤ left) (h1 : left ≤ 1048576) (hok : ∀ n ∈ xs, OkClass n) :
    Calls Try.prog 24 #[.slice A xs.length c, .int .i64 left] w fun e w' => e = .returned (.int .i64 (szNm left (xs.map fun x => x.1))) ∧ Below w.heap.size w w' := by
  have hlen := hr.len63
  by_cases h : (xs.length : Int) ≤ left
  · have HS : Hid (szNm left (xs.map fun x => x.1) = szNs (left - xs.length) (xs.map fun x => x.1)) := Lib.hid (by unfold szNm; rw [if_pos (by simpa using h)]; simp)
    go_enter Try.func24, Try.ntmps24
    go_wp2_with fail
    go_loopw [1, 5] (fun l i wr => ∃ (k : Nat) (m : Int), k ≤ xs.length ∧ i = .int .i64 k ∧ l = .int .i64 m ∧ 0 ≤ m ∧ m ≤ left ∧ szNm left (xs.map fun x => x.1) = szNs m ((xs.drop k).map fun x => x.1) ∧ Below w.heap.size w wr) (fun _ i _ => xs.length - (intOf i).toNat)
    case atStart => exact ⟨0, left - xs.length, by omega, rfl, rfl, by omega, by omega, by rw [HS.out]; rfl, Below.refl _ _⟩
    case round =>
      obtain ⟨k, m, hk, rfl, rfl, hm0, hm1, heq, hbel⟩ := hrel
      have Heq := Lib.hid heq
      clear heq
      by_cases hlt : k < xs.length
      · obtain ⟨ad, rfl, hab, hc0, hc1, hc2, hc3⟩ := rdClass (hr.below hbel) hlt
        have hokk := hok _ (List.getElem_mem hlt)
        have hcall := szClass_any xs[k].1 xs[k].2.1 xs[k].2.2.1 xs[k].2.2.2 m wr hm0 (by omega) hokk
        have HT : Hid (szNs m ((xs.drop k).map fun x => x.1) = if (xs[k].1.size : Int) ≤ m then szNs (m - xs[k].1.size) ((xs.drop (k + 1)).map fun x => x.1) else -1) := Lib.hid (by
          rw [List.drop_eq_getElem_cons hlt]; rfl)
        by_cases hle : (xs[k].1.size : Int) ≤ m
        · rw [show szN m xs[k].1.size = m - xs[k].1.size by unfold szN; rw [if_pos hle]] at hcall
          go_wp2_with fail
          refine hcall.mono ?_
          rintro e w2 ⟨rfl, hb2⟩
          go_wp2_with fail
          go_roundw
          case rel => exact ⟨k + 1, m - xs[k].1.size, by omega, by go_num, rfl, by omega, by omega, by rw [Heq.out, HT.out, if_pos hle], bthen hbel (Nat.le_refl _) hb2⟩
          case measure => simp [intOf]; omega
        · rw [show szN m xs[k].1.size = -1 by unfold szN; rw [if_neg hle]] at hcall
          go_wp2_with fail
          refine hcall.mono ?_
          rintro e w2 ⟨rfl, hb2⟩
          go_wp2_with fail
          go_ret
          exact ⟨ret_int (by rw [Heq.out, HT.out, if_neg (by omega)]), bthen hbel (Nat.le_refl _) hb2⟩
      · go_wp2_with fail
        go_ret
        exact ⟨ret_int (by rw [Heq.out, List.drop_of_length_le (by omega)]; rfl), hbel⟩
  · have HS : Hid (szNm left (xs.map fun x => x.1) = -1) := Lib.hid (by unfold szNm; rw [if_neg (by simpa using h)])
    rw [HS.out]
    go_enter Try.func24, Try.ntmps24
    go_wp2_with fail
    go_ret
    exact ⟨rfl, Below.refl _ _⟩

def AskClass (P : Program) (k : FuncId) (caps : Array Value) (B : Nat) (w : World) (xs : List ClassD) (p : ClassD → Bool) : Prop :=
  (∀ args w, (callFunc k args).run P w = .ok (.enter k args) w) ∧
  ∀ x ∈ xs, ∀ w', Below B w w' → Calls P k (#[.agg #[.string x.1, .int .i64 (x.2.1), .int .i64 (x.2.2.1), .int .i64 (x.2.2.2)]] ++ caps) w' fun e w'' => e = .returned (.bool (p x)) ∧ Below w'.heap.size w' w''
theorem indexClass_any (A : Option Addr) (c : Nat) (xs : List ClassD) (k : FuncId) (caps : Array Value) (p : ClassD → Bool) (B : Nat) (w : World) (hB : B ≤ w.heap.size)
    (hr : Rd LClass w B A c xs) (hp : AskClass Try.prog k caps B w xs p) :
    Calls Try.prog 75 #[.slice A xs.length c, .func (.func k) #[] caps] w fun e w' => e = .returned (.int .i64 (fIdx p xs)) ∧ Below B w w' := by
  have hlen := hr.len63
  obtain ⟨eg, hp⟩ := hp
  go_enter Try.func75, Try.ntmps75
  go_wp2_with fail
  go_loopw [5,8] (fun i j wr => ∃ k : Nat, k ≤ xs.length ∧ j = .int .i64 k ∧ (∀ y ∈ xs.take k, p y = false) ∧ Below B w wr) (fun _ j _ => xs.length - (intOf j).toNat)
  case atStart => exact ⟨0, by omega, rfl, by simp, Below.refl _ _⟩
  case round =>
    obtain ⟨m, hk, rfl, hno, hbel⟩ := hrel
    have Hno := Lib.hid hno
    clear hno
    by_cases hlt : m < xs.length
    · obtain ⟨ad, rfl, hab, hc0, hc1, hc2, hc3⟩ := rdClass (hr.below hbel) hlt
      have hpx := hp xs[m] (List.getElem_mem _) wr hbel
      have HP := Lib.hid hp
      clear hp
      go_wp2_with fail
      refine hpx.mono ?_
      rintro e w1 ⟨rfl, hb1⟩
      by_cases hpt : p xs[m] = true
      · go_wp2_with fail
        go_ret
        exact ⟨ret_int (fIdx_hit hlt Hno.out hpt).symm, bthen hbel hB hb1⟩
      · have hpf : p xs[m] = false := by simpa using hpt
        clear hpt
        go_wp2_with fail
        go_roundw
        case rel =>
          refine ⟨m + 1, by omega, by go_num, ?_, bthen hbel hB hb1⟩
          rw [List.take_succ_eq_append_getElem hlt]
          intro y hy
          rcases List.mem_append.1 hy with h | h
          · exact Hno.out y h
          · simp at h; rw [h]; exact hpf
        case measure => simp [intOf]; omega
    · go_wp2_with fail
      go_ret
      refine ⟨ret_int (fIdx_none ?_).symm, hbel⟩
      have := Hno.out
      rw [List.take_of_length_le (by omega)] at this
      exact this
theorem containsClass_any (A : Option Addr) (c : Nat) (xs : List ClassD) (k : FuncId) (caps : Array Value) (p : ClassD → Bool) (B : Nat) (w : World) (hB : B ≤ w.heap.size)
    (hr : Rd LClass w B A c xs) (hp : AskClass Try.prog k caps B w xs p) :
    Calls Try.prog 55 #[.slice A xs.length c, .func (.func k) #[] caps] w fun e w' => e = .returned (.bool (xs.any p)) ∧ Below B w w' := by
  have hc := indexClass_any A c xs k caps p B w hB hr hp
  obtain ⟨eg, hp⟩ := hp
  clear hp
  go_enter Try.func55, Try.ntmps55
  go_wp2_with fail
  refine hc.mono ?_
  rintro e w1 ⟨rfl, hb1⟩
  go_wp2_with fail
  go_ret
  exact ⟨ret_bool (fIdx_any p xs), hb1⟩

def atClass (k : Int) : ClassD := (mkT (k), k + 1, k + 1 + 1, k + 1 + 1 + 1)
def upClass (k : Int) (n : Nat) : List ClassD := (List.range n).map fun (i : Nat) => atClass (k + 4 * (i : Int))
theorem upClass_len (k : Int) (n : Nat) : (upClass k n).length = n := by simp [upClass]
theorem upClass_get (k : Int) (n : Nat) {i : Nat} (h : i < (upClass k n).length) : (upClass k n)[i] = atClass (k + 4 * (i : Int)) := by simp [upClass]


def eqfClass (a b : ClassD) : Bool := a.1.toList == b.1.toList && a.2.1 == b.2.1 && a.2.2.1 == b.2.2.1 && a.2.2.2 == b.2.2.2

end Go.Proofs.Ytpafdnclhenklaa
