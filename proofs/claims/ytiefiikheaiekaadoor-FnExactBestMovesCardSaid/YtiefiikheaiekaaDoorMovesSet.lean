/-
  yardState.settled: all is loaded that is the next one and on top.
-/
import Derived.Test.YtiefiikheaiekaaDoorMovesMem
import Derived.Test.YtiefiikheaiekaaDoorMovesSome
namespace Go.Proofs.YtiefiikheaiekaaDoor
open Go.ChangeShapes Go.WideShapes Go.RowKit

set_option maxRecDepth 100000 in
theorem set1_any (A : Option Addr) (c : Nat) (r : List Int) (d : Nat) (Ao : Option Addr) (co : Nat) (o : List Int) (g1 g2 B : Nat) (w : World) (h1 : w.cell? ⟨g1, 0, none⟩ = some (.slice Ao o.length co)) (h2 : w.cell? ⟨g2, 1, none⟩ = some (.int .i64 d)) (hr : Rd LI w w.heap.size A c r) (ho : Rd LI w B Ao co o) (hd : d < o.length) :
    Calls Tryd.prog 70 #[.slice A r.length c, .pointer (some ⟨g1, 0, none⟩), .pointer (some ⟨g2, 0, none⟩)] w fun e w' => e = .returned (.bool (topL r == o[d])) ∧ Dr w w' := by
  have htp := fun n => topY_any A c r w.heap.size (w.drewN n) (hr.drewN n)
  have hol := ho.len63
  have hdi : (d : Int) < o.length := by omega
  obtain ⟨ad, rfl, _, hc⟩ := ho.int hd
  obtain ⟨od, hod⟩ : ∃ p, p = o[d] := ⟨_, rfl⟩
  rw [← hod] at hc ⊢
  obtain ⟨tz, htz⟩ : ∃ tz, tz = topL r := ⟨_, rfl⟩
  rw [← htz] at htp ⊢
  clear hod htz
  by_cases he : tz = od
  · have hb : (tz == od) = true := by rw [beq_iff_eq]; exact he
    rw [hb]
    clear he
    go_enter Tryd.func70, Tryd.ntmps70
    go_wp2_with fail
    go_quiet ((go_at_call 48; exact quiet_left (htp _)))
    go_wp2_with fail
    go_ret
    exact ⟨rfl, (Dr.refl w).step _⟩
  · have hb : (tz == od) = false := by rw [beq_eq_false_iff_ne]; exact he
    rw [hb]
    clear he
    go_enter Tryd.func70, Tryd.ntmps70
    go_wp2_with fail
    go_quiet ((go_at_call 48; exact quiet_left (htp _)))
    go_wp2_with fail
    go_ret
    exact ⟨rfl, (Dr.refl w).step _⟩
theorem eg_set1 : ∀ args w, (callFunc 70 args).run Tryd.prog w = .ok (.enter 70 args) w := by
  intro args w
  kernel_rfl
theorem fIdxY_next (X : List (List Int)) (p : Int) : (∃ k, nextK X p = some k ∧ fIdxY (fun r => topL r == p) X = (k : Int)) ∨ (nextK X p = none ∧ fIdxY (fun r => topL r == p) X = -1) := by
  unfold nextK fIdxY
  cases h : X.findIdx? (fun r => topL r == p) with
  | none => exact .inr ⟨rfl, rfl⟩
  | some k => exact .inl ⟨k, rfl, rfl⟩
def MS.st (s : MS) : St := ⟨dat s.rs, s.d, s.M⟩
theorem settle_len {o : List Int} (s : St) : (settle o s).M.length + s.d = s.M.length + (settle o s).d := by
  obtain ⟨T, h1, _, h3, _⟩ := settle_shape o s
  rw [h1, h3, List.length_append]
  omega
end Go.Proofs.YtiefiikheaiekaaDoor
