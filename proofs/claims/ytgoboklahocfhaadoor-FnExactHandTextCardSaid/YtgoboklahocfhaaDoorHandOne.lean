/-
  One hand: isHand, l23One.
-/
import Derived.Test.YtgoboklahocfhaaDoorFlatHand
import Derived.Test.YtgoboklahocfhaaDoorNames
namespace Go.Proofs.YtgoboklahocfhaaDoor
open Go.ChangeShapes Go.WideShapes Go.RowKit

def hdOk (h : HandD) : Bool := nmB h.1 && inB h.2.1 1 20
theorem isHand_any (f0 : ByteArray) (f1 : Int) (f2 : Bool) (hs : f0.size ≤ 9223372036854775807) (w : World) :
    Calls Tryd.prog 28 #[.agg #[.string f0, .int .i64 f1, .bool f2]] w fun e w' => e = .returned (.bool (hdOk (f0, f1, f2))) ∧ Below w.heap.size w w' := by
  have hb0 := (Below.refl w.heap.size w).alloc (Nat.le_refl _) (.cells #[.string f0, .int .i64 f1, .bool f2] 26)
  have hn := implIsName_any f0 hs
  cases h1 : nmB f0
  · have HV : Hid (hdOk (f0, f1, f2) = false) := Lib.hid (by simp [hdOk, h1])
    rw [HV.out]
    rw [h1] at hn
    go_enter Tryd.func28, Tryd.ntmps28
    go_wp2_with fail
    refine (hn _).mono ?_
    rintro e w1 ⟨rfl, rfl⟩
    go_wp2_with fail
    go_ret
    exact ⟨rfl, hb0⟩
  · have HV : Hid (hdOk (f0, f1, f2) = inB f1 1 20) := Lib.hid (by simp [hdOk, h1])
    rw [HV.out]
    rw [h1] at hn
    go_enter Tryd.func28, Tryd.ntmps28
    go_wp2_with fail
    refine (hn _).mono ?_
    rintro e w1 ⟨rfl, rfl⟩
    go_wp2_with fail
    refine (within_any _ _ _ _).mono ?_
    rintro e w1 ⟨rfl, rfl⟩
    go_wp2_with fail
    go_ret
    exact ⟨rfl, hb0⟩

theorem l23One_any (f0 : ByteArray) (f1 : Int) (p : Addr) (hs : f0.size ≤ 9223372036854775807) (w : World)
    (hc0 : w.cell? p = some (.string f0)) (hc1 : w.cell? ⟨p.block, p.off + 1, none⟩ = some (.int .i64 f1)) (f2 : Bool) :
    Calls Tryd.prog 26 #[.pointer (some p)] w fun e w' => e = .returned (.bool (hdOk (f0, f1, f2))) ∧ w = w' := by
  have hn := specIsName_any f0 hs
  cases h1 : nmB f0
  · have HV : Hid (hdOk (f0, f1, f2) = false) := Lib.hid (by simp [hdOk, h1])
    rw [HV.out]
    rw [h1] at hn
    go_enter Tryd.func26, Tryd.ntmps26
    go_wp2_with fail
    refine (hn _).mono ?_
    rintro e w1 ⟨rfl, rfl⟩
    go_wp2_with fail
    go_ret
    exact ⟨rfl, rfl⟩
  · have HV : Hid (hdOk (f0, f1, f2) = inB f1 1 20) := Lib.hid (by simp [hdOk, h1])
    rw [HV.out]
    rw [h1] at hn
    go_enter Tryd.func26, Tryd.ntmps26
    go_wp2_with fail
    refine (hn _).mono ?_
    rintro e w1 ⟨rfl, rfl⟩
    go_wp2_with fail
    refine (l00In_any _ _ _ _).mono ?_
    rintro e w1 ⟨rfl, rfl⟩
    go_wp2_with fail
    go_ret
    exact ⟨rfl, rfl⟩

end Go.Proofs.YtgoboklahocfhaaDoor
