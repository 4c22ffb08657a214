/-
  yardState.settled: all is loaded that is the next one and on top.
-/
import Derived.Test.YtiefiikheaiekaaDoorYardG
import Derived.Test.YtiefiikheaiekaaDoorFlatMove
import Derived.Test.YtiefiikheaiekaaDoorClone
import Derived.Test.YtiefiikheaiekaaDoorMovesSome
/-
  States of the search in memory: what reads apart from the blocks that are written.
-/
namespace Go.Proofs.YtiefiikheaiekaaDoor
open Go.ChangeShapes Go.WideShapes Go.RowKit

theorem cell_blk {w w' : World} {p : Addr} (e : w'.heap[p.block]? = w.heap[p.block]?) : w'.cell? p = w.cell? p := by
  unfold World.cell?
  rw [e]
theorem frozen_blk {w w' : World} {p : Addr} (e : w'.heap[p.block]? = w.heap[p.block]?) : w'.frozen? p = w.frozen? p := by
  unfold World.frozen?
  rw [e]
/-- a slice that reads as xs, in blocks that are not of G -/
structure RdN {α : Type} (L : Lay α) (G : Nat → Prop) (w : World) (A : Option Addr) (c : Nat) (xs : List α) : Prop where
  le : xs.length ≤ c
  cap : c ≤ maxLen
  at_ : ∀ i (h : i < xs.length), ∃ ad, A = some ad ∧ ad.block < w.heap.size ∧ ¬ G ad.block ∧ ∀ j u, (L.f xs[i])[j]? = some u → w.cell? (ad.add (i * L.sz + j)) = some u
section
variable {α : Type} {L : Lay α} {G G' : Nat → Prop} {w w' : World} {A : Option Addr} {c : Nat} {xs : List α}
theorem RdN.rd (h : RdN L G w A c xs) : Rd L w w.heap.size A c xs := ⟨h.le, h.cap, fun i hi => by
  obtain ⟨ad, e, h1, _, h2⟩ := h.at_ i hi
  exact ⟨ad, e, h1, h2⟩⟩
theorem RdN.of_rd {B : Nat} (h : Rd L w B A c xs) (hB : B ≤ w.heap.size) (hG : ∀ b, G b → B ≤ b) : RdN L G w A c xs := ⟨h.le, h.cap, fun i hi => by
  obtain ⟨ad, e, h1, h2⟩ := h.at_ i hi
  exact ⟨ad, e, by omega, fun hg => by have := hG _ hg; omega, h2⟩⟩
theorem RdN.of_own {T : TypeId} {base : Nat} (h : Own L T w base A c xs) (hG : ∀ b, blk A = some b → ¬ G b) : RdN L G w A c xs := ⟨h.le, h.cap, fun i hi => by
  obtain ⟨ad, e, h1, h2⟩ := h.rd.at_ i hi
  exact ⟨ad, e, h1, hG _ (by rw [e]; rfl), h2⟩⟩
theorem RdN.turn (h : RdN L G w A c xs) (hs : w.heap.size ≤ w'.heap.size) (hb : ∀ b, b < w.heap.size → ¬ G b → w'.heap[b]? = w.heap[b]?) (hG : ∀ b, b < w.heap.size → G' b → G b) : RdN L G' w' A c xs := ⟨h.le, h.cap, fun i hi => by
  obtain ⟨ad, e, h1, h2, h3⟩ := h.at_ i hi
  exact ⟨ad, e, by omega, fun hg => h2 (hG _ h1 hg), fun j u hu => (cell_blk (by rw [block_of_add]; exact hb _ h1 h2)).trans (h3 j u hu)⟩⟩
theorem RdN.below (h : RdN L G w A c xs) (hb : Below w.heap.size w w') : RdN L G w' A c xs := h.turn hb.size (fun b hlt _ => hb.block b hlt) (fun _ _ h => h)
theorem RdN.nil (hc : c ≤ maxLen) : RdN L G w A c ([] : List α) := ⟨by simp, hc, fun i hi => by simp at hi⟩
end
structure HY (G : Nat → Prop) (w : World) (A : Option Addr) (c : Nat) (rs : List (Row Int)) : Prop where
  out : RdN LV G w A c (rs.map hd)
  inn : ∀ r ∈ rs, RdN LI G w r.1 r.2.1 r.2.2
section
variable {G G' : Nat → Prop} {w w' : World} {A : Option Addr} {c : Nat} {rs : List (Row Int)}
theorem HY.rd (h : HY G w A c rs) : RdR LI w w.heap.size A c rs := ⟨h.out.rd, fun r hr => (h.inn r hr).rd⟩
theorem HY.of_rd {B : Nat} (h : RdR LI w B A c rs) (hB : B ≤ w.heap.size) (hG : ∀ b, G b → B ≤ b) : HY G w A c rs := ⟨RdN.of_rd h.out hB hG, fun r hr => RdN.of_rd (h.inn r hr) hB hG⟩
theorem HY.of_own {T1 T2 : TypeId} {base : Nat} (h : OwnR LI T1 T2 w base A c rs) (hG : ∀ b, base ≤ b → b < w.heap.size → ¬ G b) : HY G w A c rs :=
  ⟨RdN.of_own h.out fun b e => hG b (h.blk_lt.1 b e).1 (h.blk_lt.1 b e).2, fun r hr => RdN.of_own (h.inn r hr) fun b e => hG b (h.blk_lt.2 r hr b e).1 (h.blk_lt.2 r hr b e).2⟩
theorem HY.turn (h : HY G w A c rs) (hs : w.heap.size ≤ w'.heap.size) (hb : ∀ b, b < w.heap.size → ¬ G b → w'.heap[b]? = w.heap[b]?) (hG : ∀ b, b < w.heap.size → G' b → G b) : HY G' w' A c rs :=
  ⟨h.out.turn hs hb hG, fun r hr => (h.inn r hr).turn hs hb hG⟩
theorem HY.below (h : HY G w A c rs) (hb : Below w.heap.size w w') : HY G w' A c rs := ⟨h.out.below hb, fun r hr => (h.inn r hr).below hb⟩
end
/-- a state as it lies in memory -/
structure MS where
  A : Option Addr
  c : Nat
  rs : List (Row Int)
  d : Nat
  Am : Option Addr
  cm : Nat
  M : List (Int × Int)
def MS.val (s : MS) : Value := .agg #[.slice s.A s.rs.length s.c, .int .i64 s.d, .slice s.Am s.M.length s.cm]
structure MSok (G : Nat → Prop) (base : Nat) (w : World) (s : MS) : Prop where
  y : HY G w s.A s.c s.rs
  m : Own LMove 45 w base s.Am s.cm s.M
  ap : ∀ b, blk s.Am = some b → ¬ G b
theorem MSok.turn {G G' : Nat → Prop} {base : Nat} {w w' : World} {s : MS} (h : MSok G base w s) (hs : w.heap.size ≤ w'.heap.size) (hb : ∀ b, b < w.heap.size → ¬ G b → w'.heap[b]? = w.heap[b]?) (hG : ∀ b, b < w.heap.size → G' b → G b) : MSok G' base w' s :=
  ⟨h.y.turn hs hb hG, h.m.keepBlk (fun g hg => hb g (h.m.blk_lt g hg).2 (h.ap g hg)), fun b e hg => h.ap b e (hG b (h.m.blk_lt b e).2 hg)⟩
theorem MSok.below {G : Nat → Prop} {base : Nat} {w w' : World} {s : MS} (h : MSok G base w s) (hb : Below w.heap.size w w') : MSok G base w' s := ⟨h.y.below hb, h.m.below hb, h.ap⟩
abbrev Hdr := (Option Addr × Nat × Nat) × Int × (Option Addr × Nat × Nat)
/-- states as elements -/
def LSt : Lay Hdr := ⟨3, fun x => [.slice x.1.1 x.1.2.1 x.1.2.2, .int .i64 x.2.1, .slice x.2.2.1 x.2.2.2.1 x.2.2.2.2], fun _ => rfl, by decide, fun x u hu => by simp at hu; rcases hu with rfl | rfl | rfl <;> rfl⟩
def MS.hdr (s : MS) : Hdr := ((s.A, s.rs.length, s.c), (s.d : Int), (s.Am, s.M.length, s.cm))
theorem rowYs : TyRow Tryd.prog 75 73 (.agg #[.slice none 0 0, .int .i64 0, .slice none 0 0]) LSt.sz 56 := ⟨Tryd.underlying75, by kernel_rfl⟩

theorem rowMv : TyRow Tryd.prog 32 45 (.agg #[.int .i64 (0), .int .i64 (0)]) LMove.sz 16 := ⟨Tryd.underlying32, by kernel_rfl⟩

/-! ## slices.Clone of moves -/
set_option maxRecDepth 100000 in
theorem cloneM_any (A : Option Addr) (c : Nat) (xs : List (Int × Int)) (B : Nat) (w : World) (hr : Rd LMove w B A c xs) (hB : B ≤ w.heap.size) (hn : xs.length * 16 ≤ 140737488355328) :
    Calls Tryd.prog 57 #[.slice A xs.length c] w fun e w' => ∃ A' c', e = .returned (.slice A' xs.length c') ∧ Own LMove 45 w' w.heap.size A' c' xs ∧ Below w.heap.size w w' := by
  have hlen := hr.len63
  cases A with
  | none =>
    obtain rfl := hr.none_len
    have hq := fun W : World => Lib.run_eql_slice_nil (P := Tryd.prog) W 32 45 none 0 c 0 0 Tryd.underlying32
    go_enter Tryd.func57, Tryd.ntmps57
    go_wp2_with fail
    go_ret
    exact ⟨none, 0, rfl, Own.none_, Below.refl _ _⟩
  | some ad =>
    have hfl := Lib.hid ((hr.alloc hB (.cells #[] 45)).flat ad rfl)
    have hq := fun W : World => Lib.run_eql_slice_nil (P := Tryd.prog) W 32 45 (some ad) xs.length c 0 0 Tryd.underlying32
    go_enter Tryd.func57, Tryd.ntmps57
    go_wp2_with (at_builtin; go_loud (refine wpL_app (L := LMove) rowMv rfl rfl _ _ rfl rfl (Own.lit0 w (Nat.le_refl _) rfl) (some ad) xs.length c xs rfl rfl (fun h => by cases h) (fun ad' e => by cases e; exact hfl.out) (by unfold maxLen; simp; omega) (by simp; omega) (by simp) ?_); intro A4 c4 w4 ho4 hg4)
    go_ret
    refine ⟨A4, c4, by simp, by simpa using ho4, Grew.below ((Below.refl _ w).alloc (Nat.le_refl _) _) hg4 (by simp) fun g hg => ?_⟩
    simp [blk] at hg
    omega

/-! ## slices.IndexFunc of stacks -/
def AskY (P : Program) (k : FuncId) (caps : Array Value) (B : Nat) (w : World) (rs : List (Row Int)) (p : List Int → Bool) : Prop :=
  (∀ args w, (callFunc k args).run P w = .ok (.enter k args) w) ∧
  ∀ r ∈ rs, ∀ w', Below B w w' → Calls P k (#[.slice r.1 r.2.2.length r.2.1] ++ caps) w' fun e w'' => e = .returned (.bool (p r.2.2)) ∧ Below w'.heap.size w' w''
def fIdxY (p : List Int → Bool) (X : List (List Int)) : Int := match X.findIdx? p with | some k => (k : Int) | none => -1
theorem fIdxY_hit {p : List Int → Bool} {X : List (List Int)} {m : Nat} (h : m < X.length) (hno : ∀ y ∈ X.take m, p y = false) (hp : p X[m] = true) : fIdxY p X = m := by
  have : X.findIdx? p = some m := by
    rw [List.findIdx?_eq_some_iff_getElem]
    refine ⟨h, hp, fun j hj => ?_⟩
    rw [hno (X[j]'(by omega)) (by rw [List.mem_take_iff_getElem]; exact ⟨j, by omega, rfl⟩)]
    simp
  unfold fIdxY
  rw [this]
theorem fIdxY_none {p : List Int → Bool} {X : List (List Int)} (hno : ∀ y ∈ X, p y = false) : fIdxY p X = -1 := by
  have : X.findIdx? p = none := by
    rw [List.findIdx?_eq_none_iff]; exact hno
  unfold fIdxY
  rw [this]
set_option maxRecDepth 100000 in
theorem indexFuncY_any (A : Option Addr) (c : Nat) (rs : List (Row Int)) (k : FuncId) (caps : Array Value) (p : List Int → Bool) (B : Nat) (w : World) (hB : B ≤ w.heap.size)
    (hr : RdR LI w B A c rs) (hp : AskY Tryd.prog k caps B w rs p) :
    Calls Tryd.prog 69 #[.slice A rs.length c, .func (.func k) #[] caps] w fun e w' => e = .returned (.int .i64 (fIdxY p (dat rs))) ∧ Below B w w' := by
  have hlen := hr.len63
  have HDL := Lib.hid (dat_len rs)
  obtain ⟨eg, hp⟩ := hp
  go_enter Tryd.func69, Tryd.ntmps69
  go_wp2_with fail
  go_loopw [5,8] (fun i j wr => ∃ k : Nat, k ≤ rs.length ∧ j = .int .i64 k ∧ Hid (∀ y ∈ (dat rs).take k, p y = false) ∧ Below B w wr) (fun _ j _ => rs.length - (intOf j).toNat)
  case atStart => exact ⟨0, by omega, rfl, Lib.hid (by simp), Below.refl _ _⟩
  case round =>
    obtain ⟨m, hk, rfl, Hno, hbel⟩ := hrel
    by_cases hlt : m < rs.length
    · obtain ⟨ad, rfl, hab, hcell, _⟩ := (hr.below hbel).at_ hlt
      have hpx := hp rs[m] (List.getElem_mem _) wr hbel
      have HP := Lib.hid hp
      clear hp
      have HG := Lib.hid (dat_get rs m hlt)
      have hmd : m < (dat rs).length := by rw [HDL.out]; exact hlt
      go_wp2_with fail
      refine hpx.mono ?_
      rintro e w1 ⟨rfl, hb1⟩
      by_cases hpt : p rs[m].2.2 = true
      · go_wp2_with fail
        go_ret
        exact ⟨ret_int (fIdxY_hit hmd Hno.out (by rw [HG.out]; exact hpt)).symm, bthen hbel hB hb1⟩
      · have hpf : p rs[m].2.2 = false := by simpa using hpt
        clear hpt
        go_wp2_with fail
        go_roundw
        case rel =>
          refine ⟨m + 1, by omega, by go_num, Lib.hid ?_, bthen hbel hB hb1⟩
          rw [List.take_succ_eq_append_getElem hmd]
          intro y hy
          rcases List.mem_append.1 hy with h | h
          · exact Hno.out y h
          · simp at h; rw [h, HG.out]; exact hpf
        case measure => simp [intOf]; omega
    · go_wp2_with fail
      go_ret
      refine ⟨ret_int (fIdxY_none ?_).symm, hbel⟩
      have := Hno.out
      rw [List.take_of_length_le (by rw [HDL.out]; omega)] at this
      exact this
end Go.Proofs.YtiefiikheaiekaaDoor
/-
  yardState.settled: all is loaded that is the next one and on top.
-/
namespace Go.Proofs.YtiefiikheaiekaaDoor
open Go.ChangeShapes Go.WideShapes Go.RowKit

set_option maxRecDepth 100000 in
theorem set1_any (A : Option Addr) (c : Nat) (r : List Int) (d : Nat) (Ao : Option Addr) (co : Nat) (o : List Int) (g1 g2 B : Nat) (w : World) (h1 : w.cell? ⟨g1, 0, none⟩ = some (.slice Ao o.length co)) (h2 : w.cell? ⟨g2, 1, none⟩ = some (.int .i64 d)) (hr : Rd LI w w.heap.size A c r) (ho : Rd LI w B Ao co o) (hd : d < o.length) :
    Calls Tryd.prog 70 #[.slice A r.length c, .pointer (some ⟨g1, 0, none⟩), .pointer (some ⟨g2, 0, none⟩)] w fun e w' => e = .returned (.bool (topL r == o[d])) ∧ Dr w w' := by
  have htp := fun n => topY_any A c r w.heap.size (w.drewN n) (hr.drewN n)
  have hol := ho.len63
  have hdi : (d : Int) < o.length := by omega
  obtain ⟨ad, rfl, _, hc⟩ := ho.int hd
  obtain ⟨od, hod⟩ : ∃ p, p = o[d] := ⟨_, rfl⟩
  rw [← hod] at hc ⊢
  obtain ⟨tz, htz⟩ : ∃ tz, tz = topL r := ⟨_, rfl⟩
  rw [← htz] at htp ⊢
  clear hod htz
  by_cases he : tz = od
  · have hb : (tz == od) = true := by rw [beq_iff_eq]; exact he
    rw [hb]
    clear he
    go_enter Tryd.func70, Tryd.ntmps70
    go_wp2_with fail
    go_quiet ((go_at_call 48; exact quiet_left (htp _)))
    go_wp2_with fail
    go_ret
    exact ⟨rfl, (Dr.refl w).step _⟩
  · have hb : (tz == od) = false := by rw [beq_eq_false_iff_ne]; exact he
    rw [hb]
    clear he
    go_enter Tryd.func70, Tryd.ntmps70
    go_wp2_with fail
    go_quiet ((go_at_call 48; exact quiet_left (htp _)))
    go_wp2_with fail
    go_ret
    exact ⟨rfl, (Dr.refl w).step _⟩
theorem eg_set1 : ∀ args w, (callFunc 70 args).run Tryd.prog w = .ok (.enter 70 args) w := by
  intro args w
  kernel_rfl
theorem fIdxY_next (X : List (List Int)) (p : Int) : (∃ k, nextK X p = some k ∧ fIdxY (fun r => topL r == p) X = (k : Int)) ∨ (nextK X p = none ∧ fIdxY (fun r => topL r == p) X = -1) := by
  unfold nextK fIdxY
  cases h : X.findIdx? (fun r => topL r == p) with
  | none => exact .inr ⟨rfl, rfl⟩
  | some k => exact .inl ⟨k, rfl, rfl⟩
def MS.st (s : MS) : St := ⟨dat s.rs, s.d, s.M⟩
theorem settle_len {o : List Int} (s : St) : (settle o s).M.length + s.d = s.M.length + (settle o s).d := by
  obtain ⟨T, h1, _, h3, _⟩ := settle_shape o s
  rw [h1, h3, List.length_append]
  omega
end Go.Proofs.YtiefiikheaiekaaDoor
