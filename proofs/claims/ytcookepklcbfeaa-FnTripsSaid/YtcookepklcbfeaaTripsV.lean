/-
  FewestTrips and BestTrips: the reference.
-/
import Derived.Test.YtcookepklcbfeaaTripsU
import Derived.Test.YtcookepklcbfeaaTripsDP
import Derived.Test.YtcookepklcbfeaaFirstFit
namespace Go.Proofs.Ytcookepklcbfeaa
open Go.ChangeShapes Go.WideShapes Go.RowKit

def bestL (most : Int) (xs : List Int) : Int × List Int := (lvs most xs [] []).foldl upd (-1, [])
theorem TS.start (w : World) {A : Option Addr} {c : Nat} {xs : List Int} (most : Int) (tt : TypeId) (hr : Rd LI w w.heap.size A c xs) :
    TS (((w.alloc (.cells #[] 2)).alloc (.cells #[] 2)).alloc (.cells #[.slice A xs.length c, .int .i64 most, .slice (some ⟨w.heap.size, 0, none⟩) 0 0, .slice (some ⟨w.heap.size + 1, 0, none⟩) 0 0, .slice none 0 0, .int .i64 (-1)] tt)) w.heap.size (w.heap.size + 2) A c xs most
      (some ⟨w.heap.size, 0, none⟩) 0 [] (some ⟨w.heap.size + 1, 0, none⟩) 0 [] none 0 [] (-1) := by
  have hs : ((w.alloc (.cells #[] 2)).alloc (.cells #[] 2)).heap.size = w.heap.size + 2 := by simp
  refine ⟨?_, ?_, ?_, ?_, ?_, ?_, ?_, ?_, ?_, ?_, ((hr.alloc (Nat.le_refl _) _).alloc (by simp) _).alloc (by simp; omega) _, ((Own.lit0 w (Nat.le_refl _) rfl).alloc _).alloc _, (Own.lit0 (w.alloc (.cells #[] 2)) (by simp) (by simp)).alloc _, Own.none_, ?_, ?_, ?_, ?_, ?_, ?_, by omega, by simp⟩
  all_goals first
    | (rw [World.cell?_alloc_at (hn := hs.symm)]; rfl)
    | (rw [World.frozen?_alloc_at (hn := hs.symm)])
    | (simp [blk]; done)
    | (intro g h1 h2; simp [blk] at h1 h2; omega)
    | (intro g h1 h2; simp [blk] at h1 h2)

set_option maxHeartbeats 800000 in
theorem l21Best_any (A : Option Addr) (c : Nat) (xs : List Int) (most : Int) (w : World) (hr : Rd LI w w.heap.size A c xs) (hx : ∀ x ∈ xs, 1 ≤ x ∧ x ≤ most) (hm : most ≤ 1000000) (hn : xs.length ≤ 10) :
    Calls Try.prog 40 #[.slice A xs.length c, .int .i64 most] w fun e w' => ∃ As cs Aw cw Ab cb, e = .returned (.pointer (some ⟨w.heap.size + 2, 0, none⟩)) ∧ TS w' w.heap.size (w.heap.size + 2) A c xs most As cs [] Aw cw [] Ab cb (bestL most xs).2 (bestL most xs).1 ∧ Below w.heap.size w w' := by
  have hT := fun tt => TS.start w most tt hr
  have hb : ∀ o1 o2 o3 : Obj, Below w.heap.size w (((w.alloc o1).alloc o2).alloc o3) := fun o1 o2 o3 => (((Below.refl _ w).alloc (Nat.le_refl _) _).alloc (by simp) _).alloc (by simp; omega) _
  have HX := Lib.hid hx
  clear hx
  go_enter Try.func40, Try.ntmps40
  go_wp2_with fail
  refine (walk_any w.heap.size (w.heap.size + 2) A c xs most HX.out hm hn xs.length _ _ _ [] _ _ [] _ _ [] (-1) (by simp) (hT _) (by simp) (by simp) (by omega)).mono ?_
  rintro e w1 ⟨rfl, As, cs, Aw, cw, Ab, cb, hT1, hb1⟩
  have HT1 := Lib.hid hT1
  have HB1 := Lib.hid ((hb _ _ _).trans hb1)
  clear hT1 hb1 hT hb
  go_wp2_with fail
  go_ret
  exact ⟨As, cs, Aw, cw, Ab, cb, rfl, HT1.out, HB1.out⟩

def ftP (xs : List Int) (most : Int) : Int × Int := if vlB xs most = true then ((bestL most xs).1, 0) else (0, 1)
def btP (xs : List Int) (most : Int) : List Int × Int := if vlB xs most = true then ((bestL most xs).2, 0) else ([], 1)
set_option maxHeartbeats 800000 in
theorem specFewestTrips_any (A : Option Addr) (c : Nat) (xs : List Int) (most : Int) (w : World) (hr : Rd LI w w.heap.size A c xs) :
    Calls Try.prog 10 #[.slice A xs.length c, .int .i64 most] w fun e w' => e = .returned (.tuple #[.int .i64 (ftP xs most).1, .int .i64 (ftP xs most).2]) ∧ Below w.heap.size w w' := by
  have hc := l21Ok_any A c xs most w hr
  cases hv : vlB xs most
  · have HP : Hid (ftP xs most = (0, 1)) := Lib.hid (by simp [ftP, hv])
    rw [hv] at hc
    rw [HP.out]
    clear hv HP
    go_enter Try.func10, Try.ntmps10
    go_wp2_with fail
    refine hc.mono ?_
    rintro e w1 ⟨rfl, hb1⟩
    go_wp2_with fail
    go_ret2
    exact ⟨rfl, hb1⟩
  · have HP : Hid (ftP xs most = ((bestL most xs).1, 0)) := Lib.hid (by simp [ftP, hv])
    rw [hv] at hc
    rw [HP.out]
    obtain ⟨⟨hm1, hm2⟩, hl, hx⟩ := vlB_parts hv
    clear hv HP
    go_enter Try.func10, Try.ntmps10
    go_wp2_with fail
    refine hc.mono ?_
    rintro e w1 ⟨rfl, hb1⟩
    have hbest := l21Best_any A c xs most w1 ((hr.below hb1).more hb1.size) hx (by omega) hl
    clear hr hx
    go_wp2_with fail
    refine hbest.mono ?_
    rintro e w2 ⟨As, cs, Aw, cw, Ab, cb, rfl, hT, hb2⟩
    have k5 := hT.c5
    have HB := Lib.hid (hb1.trans (hb2.mono hb1.size))
    clear hT hb1 hb2 hbest
    go_wp2_with fail
    go_ret2
    exact ⟨rfl, HB.out⟩
set_option maxHeartbeats 800000 in
theorem specBestTrips_any (A : Option Addr) (c : Nat) (xs : List Int) (most : Int) (w : World) (hr : Rd LI w w.heap.size A c xs) :
    Calls Try.prog 8 #[.slice A xs.length c, .int .i64 most] w fun e w' => ∃ A' c', e = .returned (.tuple #[.slice A' (btP xs most).1.length c', .int .i64 (btP xs most).2]) ∧ Own LI 2 w' w.heap.size A' c' (btP xs most).1 ∧ Below w.heap.size w w' := by
  have hc := l21Ok_any A c xs most w hr
  cases hv : vlB xs most
  · have HP : Hid (btP xs most = ([], 1)) := Lib.hid (by simp [btP, hv])
    rw [hv] at hc
    rw [HP.out]
    clear hv HP
    go_enter Try.func8, Try.ntmps8
    go_wp2_with fail
    refine hc.mono ?_
    rintro e w1 ⟨rfl, hb1⟩
    go_wp2_with fail
    go_ret2
    exact ⟨none, 0, rfl, Own.none_, hb1⟩
  · have HP : Hid (btP xs most = ((bestL most xs).2, 0)) := Lib.hid (by simp [btP, hv])
    rw [hv] at hc
    rw [HP.out]
    obtain ⟨⟨hm1, hm2⟩, hl, hx⟩ := vlB_parts hv
    clear hv HP
    go_enter Try.func8, Try.ntmps8
    go_wp2_with fail
    refine hc.mono ?_
    rintro e w1 ⟨rfl, hb1⟩
    have hbest := l21Best_any A c xs most w1 ((hr.below hb1).more hb1.size) hx (by omega) hl
    clear hr hx
    go_wp2_with fail
    refine hbest.mono ?_
    rintro e w2 ⟨As, cs, Aw, cw, Ab, cb, rfl, hT, hb2⟩
    have k4 := hT.c4
    have HO := Lib.hid (hT.ob.lower hb1.size)
    have HB := Lib.hid (hb1.trans (hb2.mono hb1.size))
    clear hT hb1 hb2 hbest
    go_wp2_with fail
    go_ret2
    exact ⟨Ab, cb, rfl, HO.out, HB.out⟩
end Go.Proofs.Ytcookepklcbfeaa
