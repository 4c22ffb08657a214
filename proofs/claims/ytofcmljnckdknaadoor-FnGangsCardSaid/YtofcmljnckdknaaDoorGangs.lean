/-
  Gangs: isHand, hasHand, ValidGang, SameGang.
-/
import Derived.Test.YtofcmljnckdknaaDoorFlatHand
import Derived.Test.YtofcmljnckdknaaDoorNames
namespace Go.Proofs.YtofcmljnckdknaaDoor
open Go.ChangeShapes Go.WideShapes Go.RowKit

def strEq (a b : ByteArray) : Bool := a.toList == b.toList
def hdOk (h : HandD) : Bool := nmB h.1 && inB h.2.1 1 20
def dupB (xs : List HandD) (nm : ByteArray) : Bool := xs.any fun y => strEq y.1 nm
def gI (xs : List HandD) (k : Nat) : Bool := match xs[k]? with
  | some h => hdOk h && !dupB (xs.take k) h.1
  | none => true
def gangB (xs : List HandD) : Bool := (List.range xs.length).all (gI xs) && decide ((xs.length : Int) ≤ 20)
theorem gI_at {xs : List HandD} {k : Nat} (h : k < xs.length) : gI xs k = (hdOk xs[k] && !dupB (xs.take k) xs[k].1) := by simp [gI, h]
theorem gang_hit {xs : List HandD} {k : Nat} (h : k < xs.length) (hg : gI xs k = false) : gangB xs = false := by
  have : (List.range xs.length).all (gI xs) = false := List.all_eq_false.2 ⟨k, List.mem_range.2 h, by simp [hg]⟩
  simp [gangB, this]
theorem gang_all {xs : List HandD} (h : ∀ i < xs.length, gI xs i = true) : gangB xs = decide ((xs.length : Int) ≤ 20) := by
  have : (List.range xs.length).all (gI xs) = true := List.all_eq_true.2 fun x hx => h x (List.mem_range.1 hx)
  simp [gangB, this]
theorem dup_snoc {xs : List HandD} {k : Nat} (h : k < xs.length) (nm : ByteArray) : dupB (xs.take (k + 1)) nm = (dupB (xs.take k) nm || strEq xs[k].1 nm) := by
  unfold dupB
  rw [List.take_succ_eq_append_getElem h, List.any_append]
  simp
theorem dup_hit {xs : List HandD} {j k : Nat} (hj : j < k) (h : k ≤ xs.length) (nm : ByteArray) (he : strEq (xs[j]'(by omega)).1 nm = true) : dupB (xs.take k) nm = true := by
  refine List.any_eq_true.2 ⟨xs[j]'(by omega), ?_, he⟩
  rw [List.mem_take_iff_getElem]
  exact ⟨j, by omega, rfl⟩

theorem isHand_any (f0 : ByteArray) (f1 : Int) (f2 : Bool) (hs : f0.size ≤ 9223372036854775807) (w : World) :
    Calls Tryd.prog 38 #[.agg #[.string f0, .int .i64 f1, .bool f2]] w fun e w' => e = .returned (.bool (hdOk (f0, f1, f2))) ∧ Below w.heap.size w w' := by
  have hb0 := (Below.refl w.heap.size w).alloc (Nat.le_refl _) (.cells #[.string f0, .int .i64 f1, .bool f2] 26)
  have hn := implIsName_any f0 hs
  cases h1 : nmB f0
  · have HV : Hid (hdOk (f0, f1, f2) = false) := Lib.hid (by simp [hdOk, h1])
    rw [HV.out]
    rw [h1] at hn
    go_enter Tryd.func38, Tryd.ntmps38
    go_wp2_with fail
    refine (hn _).mono ?_
    rintro e w1 ⟨rfl, rfl⟩
    go_wp2_with fail
    go_ret
    exact ⟨rfl, hb0⟩
  · have HV : Hid (hdOk (f0, f1, f2) = inB f1 1 20) := Lib.hid (by simp [hdOk, h1])
    rw [HV.out]
    rw [h1] at hn
    go_enter Tryd.func38, Tryd.ntmps38
    go_wp2_with fail
    refine (hn _).mono ?_
    rintro e w1 ⟨rfl, rfl⟩
    go_wp2_with fail
    refine (within_any _ _ _ _).mono ?_
    rintro e w1 ⟨rfl, rfl⟩
    go_wp2_with fail
    go_ret
    exact ⟨rfl, hb0⟩

theorem hasHand1_any (f0 : ByteArray) (f1 : Int) (f2 : Bool) (nm : ByteArray) (g : Nat) (w : World) (hg : g < w.heap.size) (hc0 : w.cell? ⟨g, 0, none⟩ = some (.string nm)) :
    Calls Tryd.prog 67 #[.agg #[.string f0, .int .i64 f1, .bool f2], .pointer (some ⟨g, 0, none⟩)] w fun e w' => e = .returned (.bool (strEq f0 nm)) ∧ Below w.heap.size w w' := by
  have hb0 := (Below.refl w.heap.size w).alloc (Nat.le_refl _) (.cells #[.string f0, .int .i64 f1, .bool f2] 26)
  go_enter Tryd.func67, Tryd.ntmps67
  go_wp2_with fail
  go_ret
  exact ⟨rfl, hb0⟩
theorem eg_hasHand1 : ∀ args w, (callFunc 67 args).run Tryd.prog w = .ok (.enter 67 args) w := by
  intro args w
  kernel_rfl

theorem hasHand_any (A : Option Addr) (c : Nat) (xs : List HandD) (nm : ByteArray) (B : Nat) (w : World) (hB : B ≤ w.heap.size) (hr : Rd LHand w B A c xs) :
    Calls Tryd.prog 39 #[.slice A xs.length c, .string nm] w fun e w' => e = .returned (.bool (dupB xs nm)) ∧ Below B w w' := by
  have hb0 := (Below.refl B w).alloc hB (.cells #[.string nm] 9)
  have hcc := containsHand_any A c xs 67 #[.pointer (some ⟨w.heap.size, 0, none⟩)] (fun y => strEq y.1 nm) (w.heap.size + 1) (w.alloc (.cells #[.string nm] 9)) (by simp) ((hr.alloc hB _).more (by omega))
    ⟨eg_hasHand1, fun x _ W hW => hasHand1_any x.1 x.2.1 x.2.2 nm w.heap.size W (by have := hW.size; simp at this; omega) (by rw [hW.cell (by simp)]; go_simp)⟩
  go_enter Tryd.func39, Tryd.ntmps39
  go_wp2_with fail
  refine hcc.mono ?_
  rintro e w1 ⟨rfl, hb1⟩
  go_wp2_with fail
  go_ret
  exact ⟨rfl, hb0.trans (hb1.mono (by omega))⟩


set_option maxHeartbeats 1600000 in
theorem implValidGang_any (A : Option Addr) (c : Nat) (xs : List HandD) (w : World) (hr : Rd LHand w w.heap.size A c xs) (hok : ∀ n ∈ xs, OkHand n) :
    Calls Tryd.prog 28 #[.slice A xs.length c] w fun e w' => e = .returned (.bool (gangB xs)) ∧ Below w.heap.size w w' := by
  have hlen := hr.len63
  go_enter Tryd.func28, Tryd.ntmps28
  go_wp2_with fail
  go_loopw [7] (fun i wr => ∃ k : Nat, k ≤ xs.length ∧ i = .int .i64 k ∧ Hid (∀ j < k, gI xs j = true) ∧ Below w.heap.size w wr) (fun i _ => xs.length - (intOf i).toNat)
  case atStart => exact ⟨0, by omega, rfl, Lib.hid (by omega), Below.refl _ _⟩
  case round =>
    obtain ⟨k, hk, rfl, Hno, hbel⟩ := hrel
    have hsz := hbel.size
    by_cases hlt : k < xs.length
    · obtain ⟨ad, rfl, hab, hc0, hc1, hc2⟩ := rdHand (hr.below hbel) hlt
      have hn : xs[k].1.size ≤ 9223372036854775807 := (hok _ (List.getElem_mem hlt)).1
      have hlk : (xs.take k).length = k := by simp; omega
      have HG : Hid (gI xs k = (hdOk (xs[k].1, xs[k].2.1, xs[k].2.2) && !dupB (xs.take k) xs[k].1)) := Lib.hid (gI_at hlt)
      have hsl : k ≤ c := by have := hr.le; omega
      have hkl : (k : Int) ≤ c := by omega
      have hb0 : Below w.heap.size w (wr.alloc (.cells #[.string xs[k].1, .int .i64 xs[k].2.1, .bool xs[k].2.2] 26)) := hbel.alloc hsz _
      have hb0s := hb0.size
      have hwr : wr.heap.size < (wr.alloc (.cells #[.string xs[k].1, .int .i64 xs[k].2.1, .bool xs[k].2.2] 26)).heap.size := by simp
      have kb0 : (wr.alloc (.cells #[.string xs[k].1, .int .i64 xs[k].2.1, .bool xs[k].2.2] 26)).cell? ⟨wr.heap.size, 0, none⟩ = some (.string xs[k].1) := by go_simp
      have kb1 : (wr.alloc (.cells #[.string xs[k].1, .int .i64 xs[k].2.1, .bool xs[k].2.2] 26)).cell? ⟨wr.heap.size, 1, none⟩ = some (.int .i64 xs[k].2.1) := by go_simp
      have kb2 : (wr.alloc (.cells #[.string xs[k].1, .int .i64 xs[k].2.1, .bool xs[k].2.2] 26)).cell? ⟨wr.heap.size, 2, none⟩ = some (.bool xs[k].2.2) := by go_simp
      have hrW := ((hr.below hb0).take k)
      go_wp2_with fail
      generalize wr.alloc (.cells #[.string xs[k].1, .int .i64 xs[k].2.1, .bool xs[k].2.2] 26) = W0 at *
      clear hc0 hc1 hc2
      have hI := fun W => isHand_any xs[k].1 xs[k].2.1 xs[k].2.2 hn W
      cases h1 : hdOk (xs[k].1, xs[k].2.1, xs[k].2.2)
      · simp only [h1] at hI
        have HE : Hid (gangB xs = false) := Lib.hid (gang_hit hlt (by rw [HG.out, h1]; rfl))
        first
          | go_region_with (go_at_call 38; (with_reducible refine (hI _).mono ?_); rintro e w3 ⟨rfl, hc3⟩; have hb3 := bthen hb0.drew (Nat.le_refl _) hc3)
          | fail
        all_goals (go_wp2_with fail; go_ret; exact ⟨ret_bool HE.out.symm, hb3⟩)
      · simp only [h1] at hI
        cases h2 : dupB (xs.take k) xs[k].1
        · have HE : Hid (gI xs k = true) := Lib.hid (by rw [HG.out, h1, h2]; rfl)
          have hH := fun W h => hasHand_any (some ad) c (xs.take k) xs[k].1 W.heap.size W (Nat.le_refl _) h
          simp only [hlk, h2] at hH
          go_region_held3 (fun W => W.cell? ⟨wr.heap.size, 0, none⟩ = some (.string xs[k].1) ∧ W.cell? ⟨wr.heap.size, 1, none⟩ = some (.int .i64 xs[k].2.1) ∧ W.cell? ⟨wr.heap.size, 2, none⟩ = some (.bool xs[k].2.2))
            (first | go_keep | (go_split_ands; refine ⟨?_, ?_, ?_⟩ <;> (refine (hc3.cell ?_).trans ?_; (focus (simp <;> omega)); assumption)) | (go_split_ands; refine ⟨?_, ?_, ?_⟩ <;> (refine (hc4.cell ?_).trans ?_; (focus (simp <;> omega)); assumption)))
            ((first
              | (go_at_call 38; (with_reducible refine (hI _).mono ?_); rintro e w3 ⟨rfl, hc3⟩; have hb3 := bthen hb0.drew (Nat.le_refl _) hc3; have hs3 := hb3.size; have hz3 := hc3.size; (try simp at hz3))
              | (go_at_call 39; (with_reducible refine (hH _ ((hrW.drew.below (hc3.mono (by simp <;> omega))).more hs3)).mono ?_); rintro e w4 ⟨rfl, hc4⟩; have hb4 := bthen hb3 (Nat.le_refl _) hc4)))
          go_wp2_with fail
          go_roundw
          case rel => exact ⟨k + 1, by omega, by go_num, Lib.hid (fun j hj => by rcases Nat.lt_succ_iff_lt_or_eq.1 hj with h | h; exact Hno.out j h; rw [h]; exact HE.out), hb4⟩
          case measure => simp [intOf]; omega
        · have HE : Hid (gangB xs = false) := Lib.hid (gang_hit hlt (by rw [HG.out, h1, h2]; rfl))
          have hH := fun W h => hasHand_any (some ad) c (xs.take k) xs[k].1 W.heap.size W (Nat.le_refl _) h
          simp only [hlk, h2] at hH
          go_region_held3 (fun W => W.cell? ⟨wr.heap.size, 0, none⟩ = some (.string xs[k].1) ∧ W.cell? ⟨wr.heap.size, 1, none⟩ = some (.int .i64 xs[k].2.1) ∧ W.cell? ⟨wr.heap.size, 2, none⟩ = some (.bool xs[k].2.2))
            (first | go_keep | (go_split_ands; refine ⟨?_, ?_, ?_⟩ <;> (refine (hc3.cell ?_).trans ?_; (focus (simp <;> omega)); assumption)) | (go_split_ands; refine ⟨?_, ?_, ?_⟩ <;> (refine (hc4.cell ?_).trans ?_; (focus (simp <;> omega)); assumption)))
            ((first
              | (go_at_call 38; (with_reducible refine (hI _).mono ?_); rintro e w3 ⟨rfl, hc3⟩; have hb3 := bthen hb0.drew (Nat.le_refl _) hc3; have hs3 := hb3.size; have hz3 := hc3.size; (try simp at hz3))
              | (go_at_call 39; (with_reducible refine (hH _ ((hrW.drew.below (hc3.mono (by simp <;> omega))).more hs3)).mono ?_); rintro e w4 ⟨rfl, hc4⟩; have hb4 := bthen hb3 (Nat.le_refl _) hc4)))
          go_wp2_with fail
          go_ret
          exact ⟨ret_bool HE.out.symm, hb4⟩
    · go_wp2_with fail
      go_ret
      exact ⟨ret_bool (by rw [gang_all (fun i hi => Hno.out i (by omega))]), hbel⟩

/-- l23One, at a hand in memory -/
theorem l23One_any (f0 : ByteArray) (f1 : Int) (p : Addr) (hs : f0.size ≤ 9223372036854775807) (w : World)
    (hc0 : w.cell? p = some (.string f0)) (hc1 : w.cell? ⟨p.block, p.off + 1, none⟩ = some (.int .i64 f1)) (f2 : Bool) :
    Calls Tryd.prog 42 #[.pointer (some p)] w fun e w' => e = .returned (.bool (hdOk (f0, f1, f2))) ∧ w = w' := by
  have hn := specIsName_any f0 hs
  cases h1 : nmB f0
  · have HV : Hid (hdOk (f0, f1, f2) = false) := Lib.hid (by simp [hdOk, h1])
    rw [HV.out]
    rw [h1] at hn
    go_enter Tryd.func42, Tryd.ntmps42
    go_wp2_with fail
    refine (hn _).mono ?_
    rintro e w1 ⟨rfl, rfl⟩
    go_wp2_with fail
    go_ret
    exact ⟨rfl, rfl⟩
  · have HV : Hid (hdOk (f0, f1, f2) = inB f1 1 20) := Lib.hid (by simp [hdOk, h1])
    rw [HV.out]
    rw [h1] at hn
    go_enter Tryd.func42, Tryd.ntmps42
    go_wp2_with fail
    refine (hn _).mono ?_
    rintro e w1 ⟨rfl, rfl⟩
    go_wp2_with fail
    refine (l00In_any _ _ _ _).mono ?_
    rintro e w1 ⟨rfl, rfl⟩
    go_wp2_with fail
    go_ret
    exact ⟨rfl, rfl⟩

set_option maxHeartbeats 1600000 in
theorem l23Ok_any (A : Option Addr) (c : Nat) (xs : List HandD) (B : Nat) (w : World) (hr : Rd LHand w B A c xs) (hok : ∀ n ∈ xs, OkHand n) :
    Calls Tryd.prog 41 #[.slice A xs.length c] w fun e w' => e = .returned (.bool (gangB xs)) ∧ Dr w w' := by
  have hlen := hr.len63
  go_enter Tryd.func41, Tryd.ntmps41
  go_wp2_with fail
  go_loopw [3] (fun i wr => ∃ k : Nat, k ≤ xs.length ∧ i = .int .i64 k ∧ Hid (∀ j < k, gI xs j = true) ∧ Dr w wr) (fun i _ => xs.length - (intOf i).toNat)
  case atStart => exact ⟨0, by omega, rfl, Lib.hid (by omega), Dr.refl _⟩
  case round =>
    obtain ⟨k, hk, rfl, Hno, hdr⟩ := hrel
    by_cases hlt : k < xs.length
    · obtain ⟨ad, rfl, hab, hc0, hc1, hc2⟩ := rdHand (hr.below hdr.below) hlt
      have hn : xs[k].1.size ≤ 9223372036854775807 := (hok _ (List.getElem_mem hlt)).1
      have HG : Hid (gI xs k = (hdOk (xs[k].1, xs[k].2.1, xs[k].2.2) && !dupB (xs.take k) xs[k].1)) := Lib.hid (gI_at hlt)
      have hI := l23One_any xs[k].1 xs[k].2.1 (ad.add (k * 3)) hn wr hc0 hc1 xs[k].2.2
      cases h1 : hdOk (xs[k].1, xs[k].2.1, xs[k].2.2)
      · have HE : Hid (gangB xs = false) := Lib.hid (gang_hit hlt (by rw [HG.out, h1]; rfl))
        rw [h1] at hI
        go_wp2_with fail
        refine hI.mono ?_
        rintro e w3 ⟨rfl, rfl⟩
        go_wp2_with fail
        go_ret
        exact ⟨ret_bool HE.out.symm, hdr⟩
      · have H1 := Lib.hid h1
        rw [h1] at hI
        go_wp2_with fail
        refine hI.mono ?_
        rintro e w3 ⟨rfl, rfl⟩
        clear hI h1 hc1 hc2
        go_wp2_with fail
        go_loopw [4] (fun i wr => ∃ j : Nat, j ≤ k ∧ i = .int .i64 j ∧ Hid (dupB (xs.take j) xs[k].1 = false) ∧ Dr w wr) (fun i _ => k - (intOf i).toNat)
        case atStart => exact ⟨0, by omega, rfl, Lib.hid rfl, hdr⟩
        case round =>
          obtain ⟨j, hj, rfl, Hd, hdr⟩ := hrel
          by_cases hjk : j < k
          · obtain ⟨ad1, he1, _, hd0, _, _⟩ := rdHand (hr.below hdr.below) (show j < xs.length by omega)
            obtain ⟨ad2, he2, _, he0, _, _⟩ := rdHand (hr.below hdr.below) hlt
            cases he1; cases he2
            have hj0 : (j : Int) < xs.length := by omega
            have hk0 : (k : Int) < xs.length := by omega
            have hjl : j < xs.length := by omega
            cases h3 : strEq xs[j].1 xs[k].1
            · have HS : Hid (dupB (xs.take (j + 1)) xs[k].1 = false) := Lib.hid (by rw [dup_snoc hjl, Hd.out, h3]; rfl)
              have h4 : (xs[j].1.toList == xs[k].1.toList) = false := h3
              clear h3
              go_wp2_with fail
              go_quiet (fail)
              go_wp2_with fail
              go_roundw
              case rel => exact ⟨j + 1, by omega, by go_num, HS, hdr.step _⟩
              case measure => simp [intOf]; omega
            · have HE : Hid (gangB xs = false) := Lib.hid (gang_hit hlt (by rw [HG.out, H1.out, dup_hit hjk hk _ h3]; rfl))
              have h4 : (xs[j].1.toList == xs[k].1.toList) = true := h3
              clear h3
              go_wp2_with fail
              go_quiet (fail)
              go_wp2_with fail
              go_ret
              exact ⟨ret_bool HE.out.symm, hdr.step _⟩
          · have hjk' : j = k := by omega
            subst hjk'
            have HE : Hid (gI xs j = true) := Lib.hid (by rw [HG.out, H1.out, Hd.out]; rfl)
            go_wp2_with fail
            go_roundw
            case rel => exact ⟨j + 1, by omega, by go_num, Lib.hid (fun i hi => by rcases Nat.lt_succ_iff_lt_or_eq.1 hi with h | h; exact Hno.out i h; rw [h]; exact HE.out), hdr⟩
            case measure => simp [intOf]; omega
    · go_wp2_with fail
      go_ret
      exact ⟨ret_bool (by rw [gang_all (fun i hi => Hno.out i (by omega))]), hdr⟩

theorem specValidGang_any (A : Option Addr) (c : Nat) (xs : List HandD) (w : World) (hr : Rd LHand w w.heap.size A c xs) (hok : ∀ n ∈ xs, OkHand n) :
    Calls Tryd.prog 29 #[.slice A xs.length c] w fun e w' => e = .returned (.bool (gangB xs)) ∧ Below w.heap.size w w' := by
  go_enter Tryd.func29, Tryd.ntmps29
  go_wp2_with fail
  refine (l23Ok_any A c xs _ _ hr hok).mono ?_
  rintro e w1 ⟨rfl, hd⟩
  go_wp2_with fail
  go_ret
  exact ⟨rfl, hd.below⟩

theorem implSameGang_any (A : Option Addr) (c : Nat) (xs : List HandD) (A2 : Option Addr) (c2 : Nat) (ys : List HandD) (w : World) (hr : Rd LHand w w.heap.size A c xs) (hr2 : Rd LHand w w.heap.size A2 c2 ys) :
    Calls Tryd.prog 25 #[.slice A xs.length c, .slice A2 ys.length c2] w fun e w' => e = .returned (.bool (allEq eqfHand xs ys)) ∧ Below w.heap.size w w' := by
  go_enter Tryd.func25, Tryd.ntmps25
  go_wp2_with fail
  refine (equalHand_quiet A A2 c c2 xs ys _ _ hr hr2).mono ?_
  rintro e w1 ⟨rfl, hd⟩
  go_wp2_with fail
  go_ret
  exact ⟨rfl, hd.below⟩
theorem specSameGang_any (A : Option Addr) (c : Nat) (xs : List HandD) (A2 : Option Addr) (c2 : Nat) (ys : List HandD) (w : World) (hr : Rd LHand w w.heap.size A c xs) (hr2 : Rd LHand w w.heap.size A2 c2 ys) :
    Calls Tryd.prog 23 #[.slice A xs.length c, .slice A2 ys.length c2] w fun e w' => e = .returned (.bool (allEq eqfHand xs ys)) ∧ Below w.heap.size w w' :=
  (sameHand_quiet A A2 c c2 xs ys _ _ hr hr2).mono fun _ _ ⟨h, hd⟩ => ⟨h, hd.below⟩
end Go.Proofs.YtofcmljnckdknaaDoor
