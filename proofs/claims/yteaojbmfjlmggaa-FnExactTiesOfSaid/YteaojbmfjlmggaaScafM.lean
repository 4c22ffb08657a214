/-
  Scaffolds: the marks.
-/
import Derived.Test.YteaojbmfjlmggaaScafLaw
namespace Go.Proofs.Yteaojbmfjlmggaa
open Go.ChangeShapes Go.WideShapes Go.RowKit

theorem OwnR.alloc {α : Type} {Li : Lay α} {T1 T2 : TypeId} {w : World} {base c : Nat} {A : Option Addr} {rs : List (Row α)} (h : OwnR Li T1 T2 w base A c rs) (o : Obj) : OwnR Li T1 T2 (w.alloc o) base A c rs := h.below ((Below.refl _ _).alloc (Nat.le_refl _) o)
theorem OwnR.drew {α : Type} {Li : Lay α} {T1 T2 : TypeId} {w : World} {base c : Nat} {A : Option Addr} {rs : List (Row α)} (h : OwnR Li T1 T2 w base A c rs) : OwnR Li T1 T2 w.drew base A c rs := ⟨h.out, h.inn, h.ap⟩
theorem Kept.cell {S : Nat → Prop} {w w' : World} (h : Kept S w w') (p : Addr) (hlt : p.block < w.heap.size) (hne : ¬ S p.block) : w'.cell? p = w.cell? p := World.cell?_of_block (h.block p.block hlt hne)

theorem markScaffold_any (A0b : Option Addr) (c0b : Nat) (x0b : List Int) (A0t : Option Addr) (c0t : Nat) (x0t : List Int) (n0 : Int) (k : Int) (base base2 : Nat) (w : World) (hob : Own LI 2 w base A0b c0b x0b) (hot : Own LI 2 w base2 A0t c0t x0t) (hap : Ap A0b A0t) (hk0 : 0 ≤ k) (hk1 : k + x0b.length + x0t.length ≤ 4611686018427387904) :
    Calls Try.prog 40 #[.agg #[.slice A0b x0b.length c0b, .slice A0t x0t.length c0t, .int .i64 n0], .int .i64 k] w fun e w' => e = .returned (.int .i64 (k + x0b.length + x0t.length)) ∧ Own LI 2 w' base A0b c0b (upFrom k x0b.length) ∧ Own LI 2 w' base2 A0t c0t (upFrom (k + x0b.length) x0t.length) ∧
      Kept (fun b => blk A0b = some b ∨ blk A0t = some b) w w' := by
  have hl1 := hob.len63
  have hl2 := hot.len63
  have hm1 := markInt64S_any A0b c0b x0b k base (w.alloc (.cells #[.slice A0b x0b.length c0b, .slice A0t x0t.length c0t, .int .i64 n0] 27)) (hob.alloc _) hk0 (by omega)
  go_enter Try.func40, Try.ntmps40
  go_wp2_with fail
  refine hm1.mono ?_
  rintro e w1 ⟨rfl, ho1, hk1'⟩
  clear hm1
  have hs1 := hk1'.size
  simp at hs1
  have q1 : w1.cell? ⟨w.heap.size, 1, none⟩ = some (.slice A0t x0t.length c0t) := (hk1'.cell _ (by simp) (fun e => by have := hob.blk_lt _ e; simp at this)).trans (by go_simp)
  have ho2 := hk1'.own (hot.alloc (.cells #[.slice A0b x0b.length c0b, .slice A0t x0t.length c0t, .int .i64 n0] 27)) (fun g hg hS => hap g hS hg)
  have hm2 := markInt64S_any A0t c0t x0t (k + x0b.length) base2 w1 ho2 (by omega) (by omega)
  go_wp2_with fail
  refine hm2.mono ?_
  rintro e w2 ⟨rfl, ho3, hk2⟩
  clear hm2
  have ho4 := hk2.own ho1 (fun g hg hS => hap g hg hS)
  go_wp2_with fail
  go_ret
  refine ⟨rfl, ho4, ho3, ?_⟩
  have ha : Kept (fun b => blk A0b = some b ∨ blk A0t = some b) w (w.alloc (.cells #[.slice A0b x0b.length c0b, .slice A0t x0t.length c0t, .int .i64 n0] 27)) := Kept.of_below ((Below.refl _ w).alloc (Nat.le_refl _) _)
  exact (ha.trans (hk1'.mono fun b h => .inl h)).trans (hk2.mono fun b h => .inr h)
end Go.Proofs.Yteaojbmfjlmggaa
