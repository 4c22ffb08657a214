/-
  Gangs: sums of the work by hand: LaidBy, HoursBy, PayFor.
-/
import Derived.Test.YtofcmljnckdknaaDoorGangsW
import Derived.Test.YtofcmljnckdknaaDoorSteps
import Derived.Deep.RegionWith
namespace Go.Proofs.YtofcmljnckdknaaDoor
open Go.ChangeShapes Go.WideShapes Go.RowKit

theorem getD_mem' {l : List Int} {i : Nat} (h : i < l.length) : l.getD i 0 ∈ l := by rw [getD_lt l 0 h]; exact List.getElem_mem h
def wbS (f : WorkD → Int) (acc : List Int) (x : WorkD) : List Int := acc.set x.1.toNat (acc.getD x.1.toNat 0 + f x)
def wbG (f : WorkD → Int) (n : Nat) (ws : List WorkD) : List Int := ws.foldl (wbS f) (List.replicate n 0)
theorem wbG_succ (f : WorkD → Int) (n : Nat) (ws : List WorkD) {k : Nat} (h : k < ws.length) : wbG f n (ws.take (k + 1)) = wbS f (wbG f n (ws.take k)) ws[k] := by
  unfold wbG
  rw [List.take_succ_eq_append_getElem h, List.foldl_append]
  rfl
theorem wbG_len (f : WorkD → Int) (n : Nat) (ws : List WorkD) : (wbG f n ws).length = n := by
  have : ∀ acc : List Int, (ws.foldl (wbS f) acc).length = acc.length := by
    induction ws with
    | nil => intro acc; rfl
    | cons x xs ih => intro acc; rw [List.foldl_cons, ih]; simp [wbS]
  unfold wbG
  rw [this]
  simp
theorem wbG_bd {f : WorkD → Int} {M : Int} (n : Nat) {ws : List WorkD} (hM : 0 ≤ M) (hf : ∀ x ∈ ws, 0 ≤ f x ∧ f x ≤ M) (k : Nat) (hk : k ≤ ws.length) : ∀ y ∈ wbG f n (ws.take k), 0 ≤ y ∧ y ≤ (k : Int) * M := by
  induction k with
  | zero =>
    intro y hy
    simp [wbG] at hy
    omega
  | succ k ih =>
    intro y hy
    have ih' := ih (by omega)
    rw [wbG_succ f n ws (by omega)] at hy
    have hx := hf _ (List.getElem_mem (show k < ws.length by omega))
    have e : ((k + 1 : Nat) : Int) * M = k * M + M := by rw [Int.natCast_succ, Int.add_mul]; omega
    rcases List.mem_or_eq_of_mem_set hy with h | h
    · have := ih' y h
      omega
    · subst h
      by_cases hl : ws[k].1.toNat < (wbG f n (ws.take k)).length
      · have := ih' _ (getD_mem' hl)
        omega
      · rw [List.getD_eq_getElem?_getD, List.getElem?_eq_none (by omega)]
        have : 0 ≤ (k : Int) * M := Int.mul_nonneg (by omega) hM
        simp only [Option.getD_none]
        omega
def wbP (f : WorkD → Int) (xs : List HandD) (ws : List WorkD) : List Int × Int := if vwB xs ws = true then (wbG f xs.length ws, 0) else ([], 1)
theorem wbP_len (f : WorkD → Int) (xs : List HandD) (ws : List WorkD) : (wbP f xs ws).1.length ≤ 1048576 := by
  unfold wbP
  split
  · rename_i h
    rw [wbG_len]
    have := gang_len (vw_parts h).1
    omega
  · simp
def fLaid (x : WorkD) : Int := x.2.2.1
def fHours (x : WorkD) : Int := x.2.2.2

theorem wbS_set {f : WorkD → Int} {acc : List Int} {x : WorkD} {h : Nat} (hx : x.1 = h) (hl : h < acc.length) : wbS f acc x = acc.set h (acc[h] + f x) := by
  unfold wbS
  rw [hx, Int.toNat_natCast, getD_lt acc 0 hl]
set_option maxHeartbeats 1600000 in
theorem sumBy_any (A : Option Addr) (c : Nat) (xs : List HandD) (A2 : Option Addr) (c2 : Nat) (ws : List WorkD) (K : FuncId) (f : WorkD → Int) (w : World) (hr2 : Rd LWork w w.heap.size A2 c2 ws) (hx : xs.length ≤ 20) (hw : ws.length ≤ 100)
    (hh : ∀ x ∈ ws, 0 ≤ x.1 ∧ x.1 ≤ (xs.length : Int) - 1) (hf : ∀ x ∈ ws, 0 ≤ f x ∧ f x ≤ 100000)
    (eg : ∀ args w, (callFunc K args).run Tryd.prog w = .ok (.enter K args) w)
    (hp : ∀ x ∈ ws, ∀ W : World, Calls Tryd.prog K #[.agg #[.int .i64 x.1, .int .i64 x.2.1, .int .i64 x.2.2.1, .int .i64 x.2.2.2]] W fun e w' => e = .returned (.int .i64 (f x)) ∧ Below W.heap.size W w') :
    Calls Tryd.prog 69 #[.slice A xs.length c, .slice A2 ws.length c2, .func (.func K) #[] #[]] w fun e w' => ∃ B d, e = .returned (.slice B (wbG f xs.length ws).length d) ∧ Own LI 2 w' w.heap.size B d (wbG f xs.length ws) ∧ Below w.heap.size w w' := by
  have HL := Lib.hid (wbG_len f xs.length ws)
  rw [HL.out]
  have HB := Lib.hid (fun k hk => wbG_bd (f := f) (M := 100000) xs.length (ws := ws) (by omega) hf k hk)
  have HF := Lib.hid hf
  have HH := Lib.hid hh
  have HPc := Lib.hid hp
  clear hf hh hp
  go_enter Tryd.func69, Tryd.ntmps69
  go_wp2_with (at_make; refine wpL_make (L := LI) rowI rfl _ _ rfl .i64 .i64 _ _ xs.length rfl rfl rfl rfl (by omega) (by unfold maxLen; omega) 0 rfl ?_; intro w1 hown hb)
  go_loopw [9, 15] (fun _ i wr => ∃ k : Nat, k ≤ ws.length ∧ i = .int .i64 k ∧ Own LI 2 wr w.heap.size (some ⟨w.heap.size, 0, none⟩) xs.length (wbG f xs.length (ws.take k)) ∧ Below w.heap.size w wr ∧ w.heap.size < wr.heap.size) (fun _ i _ => ws.length - (intOf i).toNat)
  case atStart => exact ⟨0, by omega, rfl, by simpa [wbG] using hown, hb, by have := hown.blk_lt w.heap.size rfl; omega⟩
  case round =>
    obtain ⟨k, hk, rfl, ho, hbel, hgt⟩ := hrel
    have hsz := hbel.size
    by_cases hlt : k < ws.length
    · obtain ⟨ad, rfl, hab, d0, d1, d2, d3⟩ := rdWork (hr2.below hbel) hlt
      have hmem : ws[k] ∈ ws := List.getElem_mem hlt
      obtain ⟨h0, h1⟩ := HH.out _ hmem
      obtain ⟨f0, f1⟩ := HF.out _ hmem
      obtain ⟨h, hhe⟩ : ∃ h : Nat, ws[k].1 = h := ⟨ws[k].1.toNat, by omega⟩
      have hhl : h < (wbG f xs.length (ws.take k)).length := by rw [wbG_len]; omega
      have hhx : h < xs.length := by omega
      have hhx0 : (h : Int) < xs.length := by omega
      have HS := Lib.hid ((wbG_succ f xs.length ws hlt).trans (wbS_set hhe hhl))
      obtain ⟨v0, v1⟩ := HB.out k hk _ (List.getElem_mem hhl)
      have hk1 : (k : Int) ≤ 100 := by omega
      obtain ⟨g, hg, _, _, hc, hfz⟩ := ho.int hhl
      cases hg
      rw [hhe] at d0
      have hcall := HPc.out _ hmem
      rw [hhe] at hcall
      generalize ws[k].2.1 = z1 at *
      generalize ws[k].2.2.1 = z2 at *
      generalize ws[k].2.2.2 = z3 at *
      generalize f ws[k] = fx at *
      clear hhe h0 h1 HB hab
      generalize wbG f xs.length (ws.take k) = acc at *
      generalize acc[h] = old at *
      have hwr : IntKind.i64.wrap (old + fx) = old + fx := wrapS (by omega) (by omega)
      go_wp2_with fail
      go_region_law (first
        | (go_simp; refine (hcall _).mono ?_; rintro e w3 ⟨rfl, hc3⟩; have hs3 := hc3.size; (try simp at hs3); have hcc := (hc3.cell (p := ⟨w.heap.size, h, none⟩) (by simp; omega)).trans (show _ = some (Value.int .i64 old) by go_simp); have hff := (hc3.frozen (p := ⟨w.heap.size, h, none⟩) (by simp; omega)).trans (show _ = false by go_simp); have hc0 := (hc3.cell (p := ⟨wr.heap.size, 0, none⟩) (by simp)).trans (show _ = some (Value.int .i64 h) by go_simp)))
      all_goals
        go_wp2_with fail
        go_roundw
        case rel =>
          have ho3 := Own.setInt (Own.below ((ho.alloc _).drew) hc3) h (old + fx)
          have hb3 := (bthen ((hbel.alloc hsz _).drew) (Nat.le_refl _) hc3).setCell (p := ⟨w.heap.size, h, none⟩) (Nat.le_refl _) (Value.int .i64 (old + fx))
          exact ⟨k + 1, by omega, by go_num, by rw [HS.out]; exact ho3, hb3, by simp; omega⟩
        case measure => simp [intOf]; omega
    · go_wp2_with fail
      go_ret
      rw [List.take_of_length_le (by omega)] at ho
      exact ⟨_, _, rfl, ho, hbel⟩

theorem any1_Laid (x : WorkD) (w : World) : Calls Tryd.prog 70 #[.agg #[.int .i64 x.1, .int .i64 x.2.1, .int .i64 x.2.2.1, .int .i64 x.2.2.2]] w fun e w' => e = .returned (.int .i64 (fLaid x)) ∧ Below w.heap.size w w' := by
  go_enter Tryd.func70, Tryd.ntmps70
  go_wp2_with fail
  go_ret
  exact ⟨rfl, (Below.refl _ _).alloc (Nat.le_refl _) _⟩
theorem eg1_Laid : ∀ args w, (callFunc 70 args).run Tryd.prog w = .ok (.enter 70 args) w := by
  intro args w
  kernel_rfl
theorem any1_Hours (x : WorkD) (w : World) : Calls Tryd.prog 71 #[.agg #[.int .i64 x.1, .int .i64 x.2.1, .int .i64 x.2.2.1, .int .i64 x.2.2.2]] w fun e w' => e = .returned (.int .i64 (fHours x)) ∧ Below w.heap.size w w' := by
  go_enter Tryd.func71, Tryd.ntmps71
  go_wp2_with fail
  go_ret
  exact ⟨rfl, (Below.refl _ _).alloc (Nat.le_refl _) _⟩
theorem eg1_Hours : ∀ args w, (callFunc 71 args).run Tryd.prog w = .ok (.enter 71 args) w := by
  intro args w
  kernel_rfl
theorem vw_bds {xs : List HandD} {ws : List WorkD} (h : vwB xs ws = true) : xs.length ≤ 20 ∧ ws.length ≤ 100 ∧ (∀ x ∈ ws, 0 ≤ x.1 ∧ x.1 ≤ (xs.length : Int) - 1) ∧ (∀ x ∈ ws, 0 ≤ fLaid x ∧ fLaid x ≤ 100000) ∧ ∀ x ∈ ws, 0 ≤ fHours x ∧ fHours x ≤ 100000 := by
  obtain ⟨h1, h2, h3⟩ := vw_parts h
  refine ⟨gang_len h1, h2, fun x hx => (wk_parts (h3 x hx)).1, fun x hx => (wk_parts (h3 x hx)).2.2.1, fun x hx => ?_⟩
  have := (wk_parts (h3 x hx)).2.2.2
  unfold fHours
  omega
theorem laidBy_any (A : Option Addr) (c : Nat) (xs : List HandD) (A2 : Option Addr) (c2 : Nat) (ws : List WorkD) (w : World) (hr2 : Rd LWork w w.heap.size A2 c2 ws) (hv : vwB xs ws = true) :
    Calls Tryd.prog 45 #[.slice A xs.length c, .slice A2 ws.length c2] w fun e w' => ∃ B d, e = .returned (.slice B (wbG fLaid xs.length ws).length d) ∧ Own LI 2 w' w.heap.size B d (wbG fLaid xs.length ws) ∧ Below w.heap.size w w' := by
  obtain ⟨h1, h2, h3, h4, h5⟩ := vw_bds hv
  have hcc := sumBy_any A c xs A2 c2 ws 70 fLaid w hr2 h1 h2 h3 (by first | exact h4 | exact h5) eg1_Laid (fun x _ W => any1_Laid x W)
  go_enter Tryd.func45, Tryd.ntmps45
  go_wp2_with fail
  refine hcc.mono ?_
  rintro e w1 ⟨B, d, rfl, ho, hb⟩
  go_wp2_with fail
  go_ret
  exact ⟨B, d, rfl, ho, hb⟩
theorem hoursBy_any (A : Option Addr) (c : Nat) (xs : List HandD) (A2 : Option Addr) (c2 : Nat) (ws : List WorkD) (w : World) (hr2 : Rd LWork w w.heap.size A2 c2 ws) (hv : vwB xs ws = true) :
    Calls Tryd.prog 47 #[.slice A xs.length c, .slice A2 ws.length c2] w fun e w' => ∃ B d, e = .returned (.slice B (wbG fHours xs.length ws).length d) ∧ Own LI 2 w' w.heap.size B d (wbG fHours xs.length ws) ∧ Below w.heap.size w w' := by
  obtain ⟨h1, h2, h3, h4, h5⟩ := vw_bds hv
  have hcc := sumBy_any A c xs A2 c2 ws 71 fHours w hr2 h1 h2 h3 (by first | exact h4 | exact h5) eg1_Hours (fun x _ W => any1_Hours x W)
  go_enter Tryd.func47, Tryd.ntmps47
  go_wp2_with fail
  refine hcc.mono ?_
  rintro e w1 ⟨B, d, rfl, ho, hb⟩
  go_wp2_with fail
  go_ret
  exact ⟨B, d, rfl, ho, hb⟩
end Go.Proofs.YtofcmljnckdknaaDoor
