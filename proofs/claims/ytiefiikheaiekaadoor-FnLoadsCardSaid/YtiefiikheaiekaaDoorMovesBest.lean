/-
  The program's search by levels: the walk.
-/
import Derived.Test.YtiefiikheaiekaaDoorMovesLev
import Derived.Test.YtiefiikheaiekaaDoorMovesSetB
import Derived.Test.YtiefiikheaiekaaDoorSched
import Derived.Deep.CutRange
namespace Go.Proofs.YtiefiikheaiekaaDoor
open Go.ChangeShapes Go.WideShapes Go.RowKit

def BmR (X : List (List Int)) (o : List Int) (w : World) (e : Ending) (w' : World) : Prop :=
  (∃ (A1 : Option Addr) (c1 : Nat) (L : List (Int × Int)) (n : Nat), bestP X o = some (L, n) ∧ e = .returned (.tuple #[.slice A1 L.length c1, .int .i64 n, .bool true]) ∧ Own LMove 45 w' w.heap.size A1 c1 L ∧ Below w.heap.size w w') ∨
  (bestP X o = none ∧ e = .returned (.tuple #[.slice none 0 0, .int .i64 0, .bool false]) ∧ Below w.heap.size w w')
theorem lv_one (A0 : Option Addr) (c0 : Nat) (rs0 : List (Row Int)) (d0 : Nat) (Am0 : Option Addr) (cm0 : Nat) (M0 : List (Int × Int)) (bm base : Nat) (G : Nat → Prop) (w1 : World) (h : MSok G base w1 ⟨A0, c0, rs0, d0, Am0, cm0, M0⟩) (hG : ∀ b, b < w1.heap.size → b = bm → G b) (hb : w1.heap.size < bm) :
    LvM (fun b => b = bm) base (w1.alloc (.cells #[.slice A0 rs0.length c0, .int .i64 d0, .slice Am0 M0.length cm0] 73)) (some ⟨w1.heap.size, 0, none⟩) 1 [⟨A0, c0, rs0, d0, Am0, cm0, M0⟩] := by
  have ho := Own.lit (L := LSt) (T := 73) (base := w1.heap.size) (g := w1.heap.size) w1 (Nat.le_refl _) rfl [MS.hdr ⟨A0, c0, rs0, d0, Am0, cm0, M0⟩] #[.slice A0 rs0.length c0, .int .i64 d0, .slice Am0 M0.length cm0] 1 rfl (by unfold maxLen; omega) rfl
  refine ⟨RdN.of_own ho (fun b e hg => ?_), fun s m => ?_⟩
  · simp [blk] at e
    omega
  · rw [List.mem_singleton] at m
    subst m
    exact h.turn (by simp) (fun b h1 _ => Below.heap_alloc _ _ b h1) hG
theorem st_one (A0 : Option Addr) (c0 : Nat) (rs0 : List (Row Int)) (d0 : Nat) (Am0 : Option Addr) (cm0 : Nat) (M0 : List (Int × Int)) (bm base : Nat) (An : Option Addr) (w1 : World) (h : MSok (GN bm An) base w1 ⟨A0, c0, rs0, d0, Am0, cm0, M0⟩) (hb : bm < w1.heap.size) (ha : ∀ b, blk An = some b → b < w1.heap.size) :
    LvM (GN bm An) base (w1.alloc (.cells #[.slice A0 rs0.length c0, .int .i64 d0, .slice Am0 M0.length cm0] 73)) (some ⟨w1.heap.size, 0, none⟩) 1 [⟨A0, c0, rs0, d0, Am0, cm0, M0⟩] := by
  have ho := Own.lit (L := LSt) (T := 73) (base := w1.heap.size) (g := w1.heap.size) w1 (Nat.le_refl _) rfl [MS.hdr ⟨A0, c0, rs0, d0, Am0, cm0, M0⟩] #[.slice A0 rs0.length c0, .int .i64 d0, .slice Am0 M0.length cm0] 1 rfl (by unfold maxLen; omega) rfl
  refine ⟨RdN.of_own ho (fun b e hg => ?_), fun s m => ?_⟩
  · simp [blk] at e
    rcases hg with hg | hg
    · omega
    · have := ha b hg
      omega
  · rw [List.mem_singleton] at m
    subst m
    exact h.turn (by simp) (fun b h1 _ => Below.heap_alloc _ _ b h1) (fun _ _ h => h)
theorem nx_start {X : List (List Int)} {w : World} {bm : Nat} {Al : Option Addr} {cl : Nat} {L : List MS} {K : List (List (List Int))} {wr : World} (hl : LvM (fun b => b = bm) w.heap.size wr Al cl L) (hk : Knows wr bm K.length (K.map ytL)) (hb : Below w.heap.size w wr) (hm : w.heap.size ≤ bm) (hv : ∀ Y ∈ K, YG X Y) (hnd : K.Nodup) :
    Nxt X w bm Al cl L K [] (wr.alloc (.cells #[] 73)) (some ⟨wr.heap.size, 0, none⟩) 0 [] K := by
  have hlt := hk.lt
  refine ⟨rfl, hk.at (Below.heap_alloc _ _ bm hlt), Own.lit0 wr hb.size rfl, (fun s m => by cases m), hl.turn (by simp) (fun b h1 _ => Below.heap_alloc _ _ b h1) (fun b h1 h2 => ?_), hb.alloc hb.size _, ?_, hm, hv, hnd⟩
  · rcases h2 with h2 | h2
    · exact h2
    · simp [blk] at h2
      omega
  · simp [blk]
    omega
theorem nx_end {X : List (List Int)} {w : World} {bm : Nat} {Al : Option Addr} {cl : Nat} {L : List MS} {K : List (List (List Int))} {cs : List St} {wr : World} {An : Option Addr} {cn : Nat} {Nx : List MS} {K' : List (List (List Int))} (h : Nxt X w bm Al cl L K cs wr An cn Nx K') : LvM (fun b => b = bm) w.heap.size wr An cn Nx :=
  ⟨RdN.of_own h.own (fun b e hb => h.ap (hb ▸ e)), fun s m => (h.nx s m).turn (Nat.le_refl _) (fun _ _ _ => rfl) (fun b _ hb => .inl hb)⟩
theorem lev_val {X : List (List Int)} {o : List Int} (hv : Inv X o) {c : Nat} {K : List (List (List Int))} {L : List St} (h : Lev X o c K L) : ∀ Y ∈ K, YG X Y := fun Y hY => by
  obtain ⟨c', s, _, hp, rfl⟩ := (h.know Y).1 hY
  exact (hp.good hv).yg

set_option maxRecDepth 100000 in
set_option maxHeartbeats 12800000 in
theorem bestMoves_any (A : Option Addr) (c : Nat) (rs : List (Row Int)) (Ao : Option Addr) (co : Nat) (o : List Int) (w : World) (hr : RdR LI w w.heap.size A c rs) (ho : Rd LI w w.heap.size Ao co o) (hv : Inv (dat rs) o) (ht : TabW w) :
    Calls Tryd.prog 30 #[.slice A rs.length c, .slice Ao o.length co] w (BmR (dat rs) o w) := by
  have hlen := hr.len63
  have ho6 := ord_len hv
  have HX := Lib.hid (dat_len rs)
  have hmm := @run_makeMap Tryd.prog
  have hset : Calls Tryd.prog 55 #[.agg #[.slice A rs.length c, .int .i64 0, .slice none 0 0], .slice Ao o.length co] w _ := settled_at (fun _ => False) w.heap.size o A c rs 0 none 0 [] Ao co w ⟨HY.of_rd hr (Nat.le_refl _) (fun _ h => h.elim), Own.none_, fun _ e => by cases e⟩ (Nat.le_refl _) (fun _ h => h.elim) ho hv (Nat.zero_le _) (by simp only [List.length_nil]; omega)
  obtain ⟨N, hN1, hN2, hN3⟩ := rounds_of hv
  have HN1 := Lib.hid hN1
  have HN2 := Lib.hid hN2
  have HV := Lib.hid hv
  have HT := Lib.hid ht
  have HRO := Lib.hid ho
  have hr4 : rs.length ≤ 4 := by have := (vy_rows hv.vy).1; rw [dat_len] at this; exact this
  clear hr ho hv ht hN1 hN2
  unfold BmR
  go_enter Tryd.func30, Tryd.ntmps30
  go_wp2_with fail
  refine hset.mono ?_
  rintro e w1 ⟨A0, c0, rs0, d0, Am0, cm0, M0, rfl, hst, hok, hb1⟩
  have HLev0 := Lib.hid (hst ▸ Lev.start (dat rs) o)
  have hs1 := hb1.size
  have HG0 : Hid (Good (dat rs) o ⟨dat rs0, d0, M0⟩) := Lib.hid (by rw [hst]; exact (Good.start HV.out).settle)
  have HLv := Lib.hid (lv_one A0 c0 rs0 d0 Am0 cm0 M0 (w1.heap.size + 1) w.heap.size _ w1 hok (fun b h1 h2 => by omega) (by omega))
  have hb2 : Below w1.heap.size w1 ((w1.alloc (.cells #[.slice A0 rs0.length c0, .int .i64 d0, .slice Am0 M0.length cm0] 73)).alloc (.map #[] 0)) := ((Below.refl _ w1).alloc (Nat.le_refl _) _).alloc (by simp) _
  have HB2 := Lib.hid (bthen hb1 (Nat.le_refl _) hb2)
  have HY0 := Lib.hid ((hok.y.below hb2).rd)
  have hyt := yardText_any A0 c0 rs0 ((w1.alloc (.cells #[.slice A0 rs0.length c0, .int .i64 d0, .slice Am0 M0.length cm0] 73)).alloc (.map #[] 0)) HY0.out (YB.of HG0.out.inv.vy) (tab_below HT.out HB2.out (Nat.le_refl _))
  have hkm := Knows.made (w1.alloc (.cells #[.slice A0 rs0.length c0, .int .i64 d0, .slice Am0 M0.length cm0] 73))
  have hbsz : (bs (ytL (dat rs0))).size ≤ maxLen := by have h : (bs (ytL (dat rs0))).size ≤ 1048576 := ytM_size HG0.out.inv.vy; unfold maxLen; omega
  have HBD : Hid ((bs (ytL (dat rs0))).data.toList = ytL (dat rs0)) := Lib.hid (bs_data _)
  obtain ⟨T0, hT0⟩ : ∃ T, T = bs (ytL (dat rs0)) := ⟨_, rfl⟩
  rw [← hT0] at hyt hbsz HBD
  have hn0 : rs0.length ≤ 9223372036854775807 := HY0.out.len63
  clear hset hst hok hb1 hb2 hT0
  go_wp2_with fail
  refine hyt.mono ?_
  rintro e w3 ⟨rfl, hb3⟩
  have hkm3 := hkm.at (hb3.block _ (by simp))
  have hs3 := hb3.size
  have HB3 := Lib.hid (bthen HB2.out (Nat.le_refl _) hb3)
  have HLv3 := Lib.hid ((HLv.out.below ((Below.refl _ _).alloc (Nat.le_refl _) _)).below hb3)
  simp only [World.size_alloc] at hkm3 hs3
  clear hyt hkm hb3
  go_wp2_with (refine wpL_ins rfl _ _ _ rfl rfl hkm3 T0 rfl rfl hbsz (by unfold maxLen; omega) ?_; intro w4 hk4 hg4)
  have HK4 : Hid (Knows w4 (w1.heap.size + 1) [dat rs0].length ([dat rs0].map ytL)) := Lib.hid (by rw [HBD.out] at hk4; exact hk4)
  have HLv4 := Lib.hid (HLv3.out.turn (G' := fun b => b = w1.heap.size + 1) (w' := w4) hg4.size (fun b h1 h2 => hg4.block b h1 (fun e => h2 (Option.some.inj e))) (fun _ _ h => h))
  have HB4 := Lib.hid (HB3.out.grown hg4 HB3.out.size (fun j hj => by cases hj; omega))
  have hbm4 : w1.heap.size + 1 < w4.heap.size := HK4.out.lt
  have hwbm : w.heap.size ≤ w1.heap.size + 1 := by omega
  clear hk4 hg4 hkm3 hbsz HBD
  generalize w1.heap.size + 1 = bm at *
  go_loopw [7, 9] (fun lv cnt wr => ∃ (k : Nat) (Al : Option Addr) (cl : Nat) (L : List MS) (K : List (List (List Int))), lv = .slice Al L.length cl ∧ cnt = .int .i64 k ∧ k ≤ N ∧ Hid (Lev (dat rs) o k K (L.map MS.st)) ∧ Hid (LvM (fun b => b = bm) w.heap.size wr Al cl L) ∧ Hid (Knows wr bm K.length (K.map ytL)) ∧ Hid (Below w.heap.size w wr))
    (fun _ cnt _ => N + 1 - (intOf cnt).toNat)
  case atStart => exact ⟨0, some ⟨w1.heap.size, 0, none⟩, 1, [⟨A0, c0, rs0, d0, Am0, cm0, M0⟩], [dat rs0], rfl, rfl, Nat.zero_le _, HLev0, HLv4, HK4, HB4⟩
  case round =>
    obtain ⟨k, Al, cl, L, K, rfl, rfl, hkN, HLev, HLM, HKn, HBk⟩ := hrel
    have hll := HLM.out.len63
    have hszk : w.heap.size ≤ wr.heap.size := HBk.out.size
    have hbmk : bm < wr.heap.size := HKn.out.lt
    by_cases hL0 : 0 < L.length
    rotate_left
    · have HNS := Lib.hid (bestP_none (HN2.out k K _ HLev.out hkN (by rw [List.length_map]; omega)))
      have hL0i : (L.length : Int) ≤ 0 := by omega
      go_wp2_with fail
      exact bodyPost_ret (v := .tuple #[.slice none 0 0, .int .i64 0, .bool false]) (by simp [results, Tryd.results30, go_sem]) rfl (.inr ⟨HNS.out, rfl, HBk.out⟩)
    have hL0i : (0 : Int) < L.length := by omega
    obtain ⟨wo, rfl⟩ : ∃ wo : World, wo = wr := ⟨_, rfl⟩
    have HNx0 := Lib.hid (nx_start HLM.out HKn.out HBk.out hwbm (lev_val HV.out HLev.out) HLev.out.nodup)
    go_wp2_with fail
    go_loopw [42] (fun idx wz => ∃ a : Nat, a ≤ L.length ∧ idx = .int .i64 a ∧ Hid (∀ m (hm : m < L.length), m < a → L[m].d ≠ o.length) ∧ Hid (Nxt (dat rs) w bm Al cl L K [] wz (some ⟨wo.heap.size, 0, none⟩) 0 [] K)) (fun idx _ => L.length - (intOf idx).toNat)
    case atStart => exact ⟨0, by omega, rfl, Lib.hid (fun m hm h => by omega), HNx0⟩
    case round =>
      obtain ⟨a, ha, rfl, Hnd, HNx⟩ := hrel
      by_cases hal : a < L.length
      · have hali : (a : Int) < L.length := by omega
        obtain ⟨ad, rfl, hadb, q0, q1, q2⟩ := HNx.out.lv.at_ hal
        have HSOK := Lib.hid (HNx.out.lv.ls L[a] (List.getElem_mem hal))
        obtain ⟨s, hs⟩ : ∃ s, s = L[a] := ⟨_, rfl⟩
        have HSE := Lib.hid hs
        rw [← hs] at q0 q1 q2 HSOK
        obtain ⟨sA, sc, srs, sd, sAm, scm, sM⟩ := s
        dsimp only at q0 q1 q2
        have HBox : ∀ ob : Obj, Hid (Below wr.heap.size wr (wr.alloc ob)) := fun ob => Lib.hid ((Below.refl _ wr).alloc (Nat.le_refl _) ob)
        clear hs
        by_cases hd : sd = o.length
        · have HBS := Lib.hid (bestP_some (HLev.out.best HV.out (j := a) (by rw [List.length_map]; exact hal) (by rw [List.getElem_map, ← HSE.out]; exact hd) (fun m hm hma => by rw [List.getElem_map]; exact Hnd.out m (by rw [List.length_map] at hm; exact hm) hma)))
          have HBS2 : Hid (bestP (dat rs) o = some (sM, k)) := Lib.hid (by rw [HBS.out, List.getElem_map, ← HSE.out]; rfl)
          have z1 : ((sd : Int) == (o.length : Int)) = true := by rw [beq_iff_eq]; omega
          have z2 : (sd == o.length) = true := by rw [beq_iff_eq]; exact hd
          clear hd HBS
          go_wp2_with fail
          exact bodyPost_ret (v := .tuple #[.slice sAm sM.length scm, .int .i64 k, .bool true]) (by simp [results, Tryd.results30, go_sem]) rfl (.inl ⟨sAm, scm, sM, k, HBS2.out, rfl, (HSOK.out.below (HBox _).out).m, bthen HNx.out.bel (Nat.le_refl _) (HBox _).out⟩)
        · have z1 : ((sd : Int) == (o.length : Int)) = false := by rw [beq_eq_false_iff_ne]; omega
          have z2 : (sd == o.length) = false := by rw [beq_eq_false_iff_ne]; exact hd
          have HSD := Lib.hid hd
          clear hd
          go_wp2_with fail
          go_roundw
          case rel =>
            refine ⟨a + 1, by omega, by go_num, Lib.hid (fun m hm h => ?_), Lib.hid (HNx.out.below (HBox _).out)⟩
            by_cases e : m = a
            · subst e
              rw [← HSE.out]
              exact HSD.out
            · exact Hnd.out m hm (by omega)
          case measure => simp [intOf]; omega
      · have HND : Hid (∀ s ∈ L, s.d ≠ o.length) := Lib.hid (fun s hs => by
          obtain ⟨m, hm, rfl⟩ := List.getElem_of_mem hs
          exact Hnd.out m hm (by omega))
        have hgL : (L.length : Int) ≤ a := by omega
        clear Hnd
        go_wp2_with fail
        go_loopw [10, 57] (fun nx idx wz => ∃ (a : Nat) (An : Option Addr) (cn : Nat) (Nx : List MS) (K' : List (List (List Int))), a ≤ L.length ∧ nx = .slice An Nx.length cn ∧ idx = .int .i64 a ∧ Hid (Nxt (dat rs) w bm Al cl L K (cands o rs.length ((L.take a).map MS.st)) wz An cn Nx K')) (fun _ idx _ => L.length - (intOf idx).toNat)
        case atStart => exact ⟨0, some ⟨wo.heap.size, 0, none⟩, 0, [], K, by omega, rfl, rfl, HNx⟩
        case round =>
          obtain ⟨a, An, cn, Nx, K', ha, rfl, rfl, HNy⟩ := hrel
          have hnl : Nx.length ≤ 9223372036854775807 := by have := HNy.out.own.len63; simpa using this
          by_cases hal : a < L.length
          · have hali : (a : Int) < L.length := by omega
            obtain ⟨ad, rfl, hadb, q0, q1, q2⟩ := HNy.out.lv.at_ hal
            have HSOK := Lib.hid (HNy.out.lv.ls L[a] (List.getElem_mem hal))
            have HCS := Lib.hid (cands_step o rs.length hal)
            have HSM : Hid (L[a].st ∈ L.map MS.st) := Lib.hid (List.mem_map.2 ⟨L[a], List.getElem_mem hal, rfl⟩)
            have HSD : Hid (L[a].d ≠ o.length) := Lib.hid (HND.out _ (List.getElem_mem hal))
            obtain ⟨s, hs⟩ : ∃ s, s = L[a] := ⟨_, rfl⟩
            rw [← hs] at q0 q1 q2 HSOK HCS HSM HSD
            obtain ⟨sA, sc, srs, sd, sAm, scm, sM⟩ := s
            dsimp only at q0 q1 q2
            clear hs
            obtain ⟨wp, rfl⟩ : ∃ wp : World, wp = wr := ⟨_, rfl⟩
            have hbmp : bm < wp.heap.size := HNy.out.kn.lt
            have HBX0 := Lib.hid (st_one sA sc srs sd sAm scm sM bm w.heap.size An wp HSOK.out hbmp (fun b e => (HNy.out.own.blk_lt b e).2))
            have HNy1 : ∀ ob : Obj, Hid (Nxt (dat rs) w bm (some ad) cl L K (cands o rs.length ((L.take a).map MS.st)) (wp.alloc ob) An cn Nx K') := fun ob => Lib.hid (HNy.out.below ((Below.refl _ wp).alloc (Nat.le_refl _) ob))
            obtain ⟨cs0, hcs0⟩ : ∃ cs0, cs0 = cands o rs.length ((L.take a).map MS.st) := ⟨_, rfl⟩
            rw [← hcs0] at HNy HNy1 HCS
            clear hcs0
            go_wp2_with fail
            go_loopw [10, 63] (fun nx idx wz => ∃ (i : Nat) (An : Option Addr) (cn : Nat) (Nx : List MS) (K' : List (List (List Int))), i ≤ rs.length ∧ nx = .slice An Nx.length cn ∧ idx = .int .i64 i ∧ Hid (Nxt (dat rs) w bm (some ad) cl L K (cs0 ++ candS o rs.length (MS.st ⟨sA, sc, srs, sd, sAm, scm, sM⟩) i) wz An cn Nx K') ∧ Hid (LvM (GN bm An) w.heap.size wz (some ⟨wp.heap.size, 0, none⟩) 1 [⟨sA, sc, srs, sd, sAm, scm, sM⟩])) (fun _ idx _ => rs.length - (intOf idx).toNat)
            case atStart => exact ⟨0, An, cn, Nx, K', by omega, rfl, rfl, Lib.hid (by have h := (HNy1 (.cells #[.slice sA srs.length sc, .int .i64 sd, .slice sAm sM.length scm] 73)).out; simpa [candS] using h), HBX0⟩
            case round =>
              clear HBX0 HNy1 HNy HSOK q0 q1 q2
              obtain ⟨i, An, cn, Nx, K', hi, rfl, rfl, HNz, HBX⟩ := hrel
              have hnl : Nx.length ≤ 9223372036854775807 := by have := HNz.out.own.len63; simpa using this
              by_cases hil : i < rs.length
              · have hili : (i : Int) < rs.length := by omega
                obtain ⟨wi, rfl⟩ : ∃ wi : World, wi = wr := ⟨_, rfl⟩
                go_wp2_with fail
                go_loopw [10, 68] (fun nx idx wz => ∃ (m : Nat) (An : Option Addr) (cn : Nat) (Nx : List MS) (K' : List (List (List Int))), m ≤ rs.length ∧ nx = .slice An Nx.length cn ∧ idx = .int .i64 m ∧ Hid (Nxt (dat rs) w bm (some ad) cl L K (cs0 ++ candS o rs.length (MS.st ⟨sA, sc, srs, sd, sAm, scm, sM⟩) i ++ candI o (MS.st ⟨sA, sc, srs, sd, sAm, scm, sM⟩) i m) wz An cn Nx K') ∧ Hid (LvM (GN bm An) w.heap.size wz (some ⟨wp.heap.size, 0, none⟩) 1 [⟨sA, sc, srs, sd, sAm, scm, sM⟩])) (fun _ idx _ => rs.length - (intOf idx).toNat)
                case atStart => exact ⟨0, An, cn, Nx, K', by omega, rfl, rfl, Lib.hid (by have h := HNz.out; simpa [candI] using h), HBX⟩
                case round =>
                  clear HNz HBX
                  obtain ⟨m, An, cn, Nx, K', hm, rfl, rfl, HNz, HBX⟩ := hrel
                  have hnl : Nx.length ≤ 9223372036854775807 := by have := HNz.out.own.len63; simpa using this
                  by_cases hml : m < rs.length
                  · have hmli : (m : Int) < rs.length := by omega
                    obtain ⟨hbx, x0, x1, x2, hsok⟩ := HBX.out.one
                    dsimp only at x0 x1 x2
                    have HCG := Lib.hid (fun hok => child_good HV.out HLev.out HSM.out HSD.out (i := i) (k := m) (by rw [HX.out]; exact hil) (by rw [HX.out]; exact hml) hok)
                    have hsg := ((HLev.out.path _ HSM.out).good HV.out)
                    obtain ⟨vs1, vs2⟩ := vy_rows hsg.inv.vy
                    have HSL : Hid (srs.length = rs.length) := Lib.hid (by have h := hsg.len; rw [MS.st_Y, dat_len, HX.out] at h; exact h)
                    have hsl4 : srs.length ≤ 4 := by rw [HSL.out]; exact hr4
                    have hsdl : sd < o.length := by have h1 : sd ≤ o.length := hsg.dle; have h2 : sd ≠ o.length := HSD.out; omega
                    have hsml : sM.length ≤ 100 := by have h : sM.length = k + sd := (HLev.out.path _ HSM.out).mlen; omega
                    have HRB : Hid (∀ r ∈ srs, r.2.2.length ≤ 6) := Lib.hid (fun r hr => vs2 _ (List.mem_map.2 ⟨r, hr, rfl⟩))
                    have hb1 : Below wr.heap.size wr (wr.alloc (.cells #[.int .i64 i, .int .i64 m] 45)) := (Below.refl _ wr).alloc (Nat.le_refl _) _
                    have hmv := movePack_any sA sc srs i m (wr.alloc (.cells #[.int .i64 i, .int .i64 m] 45)) ((hsok.y.rd.below hb1).more hb1.size) (by omega) (fun r hr => by have := HRB.out r hr; omega) (by unfold I64; omega) (by unfold I64; omega)
                    have HB1 := Lib.hid hb1
                    clear hsg vs1 vs2 hsok hb1
                    cases hok : mvOk (dat srs) i m
                    · have HCN := Lib.hid (cand_no (o := o) (s := MS.st ⟨sA, sc, srs, sd, sAm, scm, sM⟩) hok)
                      go_wp2_with fail
                      refine hmv.mono ?_
                      intro e w2 hm2
                      unfold MvR at hm2
                      rw [if_neg (by simp [hok])] at hm2
                      obtain ⟨rfl, hb2⟩ := hm2
                      have HB2 := Lib.hid (bthen HB1.out (Nat.le_refl _) hb2)
                      clear hmv hb2 hok
                      go_wp2_with fail
                      go_roundw
                      case rel => exact ⟨m + 1, An, cn, Nx, K', by omega, rfl, by go_num, Lib.hid (by rw [candI_succ, HCN.out, List.append_nil]; exact HNz.out.below HB2.out), Lib.hid (HBX.out.below HB2.out)⟩
                      case measure => simp [intOf]; omega
                    · have HOK := Lib.hid hok
                      go_wp2_with fail
                      refine hmv.mono ?_
                      intro e w2 hm2
                      unfold MvR at hm2
                      rw [if_pos hok] at hm2
                      obtain ⟨A5, c5, os, rfl, ho5, hd5, hb2⟩ := hm2
                      have HB2 := Lib.hid (bthen HB1.out (Nat.le_refl _) hb2)
                      have m0 : w2.cell? ⟨wr.heap.size, 0, none⟩ = some (.int .i64 i) := (hb2.cell (p := ⟨wr.heap.size, 0, none⟩) (by simp)).trans (by go_simp)
                      have m1 : w2.cell? ⟨wr.heap.size, 1, none⟩ = some (.int .i64 m) := (hb2.cell (p := ⟨wr.heap.size, 1, none⟩) (by simp)).trans (by go_simp)
                      have HNz2 := Lib.hid (HNz.out.below HB2.out)
                      have HBX2 := Lib.hid (HBX.out.below HB2.out)
                      have HO5 := Lib.hid ho5
                      have HD5 := Lib.hid hd5
                      have hs2 := hb2.size
                      simp at hs2
                      obtain ⟨hbx2, y0, y1, y2, _⟩ := HBX2.out.one
                      dsimp only at y0 y1 y2
                      clear hmv hb2 hok ho5 hd5 x0 x1 x2
                      go_upto_region 25 with fail
                      have HRM := Lib.hid (HBX2.out.one.2.2.2.2.m.rd)
                      have hmlt : wr.heap.size < w2.heap.size := by omega
                      have hplt : wp.heap.size < w2.heap.size := hbx2
                      have hbm2 : bm < w2.heap.size := HNz2.out.kn.lt
                      have HAn2 := Lib.hid (fun b e => (HNz2.out.own.blk_lt b e).2)
                      have HYO := Lib.hid (HY.of_own (G := GN bm An) HO5.out (fun b h1 h2 h3 => by simp at h1; rcases h3 with h3 | h3; (have := HNz.out.kn.lt; omega); (have := (HNz.out.own.blk_lt b h3).2; omega)))
                      have hcl := fun W h1 h2 => cloneM_any sAm scm sM w2.heap.size W h1 h2 (by omega)
                      have hol5 := HO5.out.len63
                      have hbase : w.heap.size ≤ w2.heap.size := HNz2.out.bel.size
                      have hset : ∀ (G : Nat → Prop) (A7 : Option Addr) (c7 : Nat) (W : World), MSok G w.heap.size W ⟨A5, c5, os, sd, A7, c7, sM ++ [((i : Int), (m : Int))]⟩ → w.heap.size ≤ W.heap.size → (∀ b, G b → b < W.heap.size) → Rd LI W W.heap.size Ao co o →
                          Calls Tryd.prog 55 #[.agg #[.slice A5 os.length c5, .int .i64 sd, .slice A7 (sM.length + 1) c7], .slice Ao o.length co] W fun e w' => ∃ (A1 : Option Addr) (c1 : Nat) (rs1 : List (Row Int)) (d1 : Nat) (Am1 : Option Addr) (cm1 : Nat) (M1 : List (Int × Int)), e = .returned (.agg #[.slice A1 rs1.length c1, .int .i64 d1, .slice Am1 M1.length cm1]) ∧ (⟨dat rs1, d1, M1⟩ : St) = child o (MS.st ⟨sA, sc, srs, sd, sAm, scm, sM⟩) i m ∧ MSok G w.heap.size w' ⟨A1, c1, rs1, d1, Am1, cm1, M1⟩ ∧ Below W.heap.size W w' := fun G A7 c7 W h1 h2 h3 h4 => by
                        have hg := (HCG.out HOK.out).1
                        have hi2 : Inv (dat os) (o.drop sd) := by rw [HD5.out]; exact hg.inv
                        have h := settled_at G w.heap.size o A5 c5 os sd A7 c7 (sM ++ [((i : Int), (m : Int))]) Ao co W h1 h2 h3 h4 hi2 (by omega) (by rw [List.length_append]; simp only [List.length_cons, List.length_nil]; omega)
                        rw [List.length_append, HD5.out] at h
                        exact h
                      have HSET := Lib.hid hset
                      have HCL := Lib.hid hcl
                      clear hset hcl
                      go_cut [20] from 83 to 94 (fun s wx => ∃ (A8 : Option Addr) (c8 : Nat) (rs8 : List (Row Int)) (d8 : Nat) (Am8 : Option Addr) (cm8 : Nat) (M8 : List (Int × Int)) (b8 : Nat), s = .pointer (some ⟨b8, 0, none⟩) ∧ Hid ((⟨dat rs8, d8, M8⟩ : St) = child o (MS.st ⟨sA, sc, srs, sd, sAm, scm, sM⟩) i m) ∧ Hid (LvM (GN bm An) w.heap.size wx (some ⟨b8, 0, none⟩) 1 [⟨A8, c8, rs8, d8, Am8, cm8, M8⟩]) ∧ Hid (Below w2.heap.size w2 wx))
                      case first =>
                        refine wp_region_noPanic ?_
                        refine startS (S := fun W => W.cell? ⟨wr.heap.size, 0, none⟩ = some (.int .i64 i) ∧ W.cell? ⟨wr.heap.size, 1, none⟩ = some (.int .i64 m) ∧ W.cell? ⟨wp.heap.size, 1, none⟩ = some (.int .i64 sd) ∧ W.cell? ⟨wp.heap.size, 2, none⟩ = some (.slice sAm sM.length scm)) 14 (by kernel_rfl) (by kernel_rfl) ⟨m0, m1, y1, y2⟩ (fun hHeld => ?_)
                        refine withS 14 [0, 1, 2, 3, 4, 6, 9, 10] (by as_aux_lemma => kernel_rfl) (by kernel_rfl) (by kernel_rfl) (fun _ _ _ _ _ h => h) ?_
                        intro HFR HNS HSZ HQP
                        focus
                          refine takeS (i := 0) (v := ?_) HFR.out HNS.out HSZ.out HQP.out rfl (by kernel_rfl) (by kernel_rfl) (by decide) (by kernel_rfl) (Or.inl ⟨by rfl, ?_⟩) hHeld rfl (by dsimp only [List.set_cons_succ, List.set_cons_zero]) ?_
                          rotate_left
                          · intro w hSw; clear hSw; go_simp; (try with_reducible rfl)
                        focus
                          refine takeS (i := 1) (v := ?_) HFR.out HNS.out HSZ.out HQP.out rfl (by kernel_rfl) (by kernel_rfl) (by decide) (by kernel_rfl) (Or.inl ⟨by rfl, ?_⟩) hHeld rfl (by dsimp only [List.set_cons_succ, List.set_cons_zero]) ?_
                          rotate_left
                          · intro w hSw; clear hSw; go_simp; (try with_reducible rfl)
                        focus
                          refine takeS (i := 2) (v := ?_) HFR.out HNS.out HSZ.out HQP.out rfl (by kernel_rfl) (by kernel_rfl) (by decide) (by kernel_rfl) (Or.inl ⟨by rfl, ?_⟩) hHeld rfl (by dsimp only [List.set_cons_succ, List.set_cons_zero]) ?_
                          rotate_left
                          · intro w hSw; obtain ⟨hS0, hS1, hS2, hS3⟩ := hSw; go_simp; (try with_reducible rfl)
                        focus
                          refine takeS (i := 3) (v := ?_) HFR.out HNS.out HSZ.out HQP.out rfl (by kernel_rfl) (by kernel_rfl) (by decide) (by kernel_rfl) (Or.inl ⟨by rfl, ?_⟩) hHeld rfl (by dsimp only [List.set_cons_succ, List.set_cons_zero]) ?_
                          rotate_left
                          · intro w hSw; clear hSw; go_simp; (try with_reducible rfl)
                        focus
                          refine takeS (i := 4) (v := ?_) HFR.out HNS.out HSZ.out HQP.out rfl (by kernel_rfl) (by kernel_rfl) (by decide) (by kernel_rfl) (Or.inl ⟨by rfl, ?_⟩) hHeld rfl (by dsimp only [List.set_cons_succ, List.set_cons_zero]) ?_
                          rotate_left
                          · intro w hSw; obtain ⟨hS0, hS1, hS2, hS3⟩ := hSw; go_simp; (try with_reducible rfl)
                        focus
                          refine takeS (i := 6) (v := ?_) HFR.out HNS.out HSZ.out HQP.out rfl (by kernel_rfl) (by kernel_rfl) (by decide) (by kernel_rfl) (Or.inl ⟨by rfl, ?_⟩) hHeld rfl (by dsimp only [List.set_cons_succ, List.set_cons_zero]) ?_
                          rotate_left
                          · intro w hSw; obtain ⟨hS0, hS1, hS2, hS3⟩ := hSw; go_simp; (try with_reducible rfl)
                        focus
                          refine takeS (i := 10) (v := ?_) HFR.out HNS.out HSZ.out HQP.out rfl (by kernel_rfl) (by kernel_rfl) (by decide) (by kernel_rfl) (Or.inl ⟨by rfl, ?_⟩) hHeld rfl (by dsimp only [List.set_cons_succ, List.set_cons_zero]) ?_
                          rotate_left
                          · intro w hSw; clear hSw; go_simp; (try with_reducible rfl)
                        have HB := Lib.hid ((Below.refl w2.heap.size w2).drew)
                        generalize w2.drew = W0 at *
                        refine callS3 (i := 5) (j := 7) (k := 12) HSZ.out (by kernel_rfl) (by kernel_rfl) rfl rfl rfl (fun K hK => ?_) (fun K hK => ?_) (fun K hK => ?_)
                        · skip
                          go_simp
                          (with_reducible refine (HCL.out _ (HRM.out.below HB.out) HB.out.size).mono ?_)
                          rintro e W1 ⟨A4, c4, rfl, ho4, hbs⟩
                          have HB1 := Lib.hid (bthen HB.out (Nat.le_refl _) hbs)
                          refine hK.out _ _ ⟨(HB1.out.cell (p := ⟨wr.heap.size, 0, none⟩) hmlt).trans m0, (HB1.out.cell (p := ⟨wr.heap.size, 1, none⟩) hmlt).trans m1, (HB1.out.cell (p := ⟨wp.heap.size, 1, none⟩) hplt).trans y1, (HB1.out.cell (p := ⟨wp.heap.size, 2, none⟩) hplt).trans y2⟩ (fun hHeldN => ?_)
                          clear hK K hHeld
                          try simp only [Act.put, List.setIfInBounds_toArray, List.set_cons_zero, List.set_cons_succ]
                          have hHeld := hHeldN
                          clear hHeldN
                          have HC := Lib.hid (ho4.lower HB.out.size)
                          clear HB
                          have HB := HB1
                          clear HB1
                          clear hbs ho4
                          refine callS2 (i := 7) (j := 12) HSZ.out (by kernel_rfl) (by kernel_rfl) rfl rfl (fun K hK => ?_) (fun K hK => ?_)
                          · skip
                            go_simp
                            have hbs : Below W1.heap.size W1 (W1.alloc (.cells #[.int .i64 i, .int .i64 m] 45)) := (Below.refl _ _).alloc (Nat.le_refl _) _
                            have HB1 := Lib.hid (bthen HB.out (Nat.le_refl _) hbs)
                            refine hK.out _ _ ⟨(HB1.out.cell (p := ⟨wr.heap.size, 0, none⟩) hmlt).trans m0, (HB1.out.cell (p := ⟨wr.heap.size, 1, none⟩) hmlt).trans m1, (HB1.out.cell (p := ⟨wp.heap.size, 1, none⟩) hplt).trans y1, (HB1.out.cell (p := ⟨wp.heap.size, 2, none⟩) hplt).trans y2⟩ (fun hHeldN => ?_)
                            clear hK K hHeld
                            try simp only [Act.put, List.setIfInBounds_toArray, List.set_cons_zero, List.set_cons_succ]
                            have hHeld := hHeldN
                            clear hHeldN
                            have HC' := Lib.hid (HC.out.below hbs)
                            clear HC
                            have HC := HC'
                            clear HC'
                            have HC9 := Lib.hid (show ∀ (j : Nat) (v : Value), (LMove.f ((i : Int), (m : Int)))[j]? = some v → (W1.alloc (.cells #[.int .i64 i, .int .i64 m] 45)).cell? ⟨W1.heap.size, j, none⟩ = some v from fun j v hv => by rw [World.cell?_alloc_at (hn := rfl)]; simpa [LMove] using hv)
                            have HL9 : Hid (W1.heap.size < (W1.alloc (.cells #[.int .i64 i, .int .i64 m] 45)).heap.size) := Lib.hid (by simp)
                            clear HB
                            have HB := HB1
                            clear HB1
                            clear hbs
                            generalize W1.alloc (.cells #[.int .i64 i, .int .i64 m] 45) = W2 at *
                            refine callS2 (i := 8) (j := 12) HSZ.out (by kernel_rfl) (by kernel_rfl) rfl rfl (fun K hK => ?_) (fun K hK => ?_)
                            · skip
                              refine stepL_app1 (L := LMove) rowMv rfl rfl _ _ rfl rfl HC.out ((i : Int), (m : Int)) rfl HC9.out (by unfold maxLen; omega) (by omega) HB.out.size ?_
                              intro A7 c7 W3 ho7 hg7
                              have HB1 := Lib.hid (Grew.below HB.out hg7 HB.out.size (fun b e => (HC.out.blk_lt b e).1))
                              refine hK.out _ _ ⟨(HB1.out.cell (p := ⟨wr.heap.size, 0, none⟩) hmlt).trans m0, (HB1.out.cell (p := ⟨wr.heap.size, 1, none⟩) hmlt).trans m1, (HB1.out.cell (p := ⟨wp.heap.size, 1, none⟩) hplt).trans y1, (HB1.out.cell (p := ⟨wp.heap.size, 2, none⟩) hplt).trans y2⟩ (fun hHeldN => ?_)
                              clear hK K hHeld
                              try simp only [Act.put, List.setIfInBounds_toArray, List.set_cons_zero, List.set_cons_succ]
                              have hHeld := hHeldN
                              clear hHeldN
                              have HA := Lib.hid ho7
                              clear HC HC9 HL9
                              clear HB
                              have HB := HB1
                              clear HB1
                              clear ho7 hg7
                              focus
                                refine takeS (i := 9) (v := ?_) HFR.out HNS.out HSZ.out HQP.out rfl (by kernel_rfl) (by kernel_rfl) (by decide) (by kernel_rfl) (Or.inl ⟨by rfl, ?_⟩) hHeld rfl (by dsimp only [List.set_cons_succ, List.set_cons_zero]) ?_
                                rotate_left
                                · intro w hSw; clear hSw; go_simp; (try with_reducible rfl)
                              refine callS2 (i := 11) (j := 12) HSZ.out (by kernel_rfl) (by kernel_rfl) rfl rfl (fun K hK => ?_) (fun K hK => ?_)
                              · skip
                                have HMS : Hid (MSok (GN bm An) w.heap.size W3 ⟨A5, c5, os, sd, A7, c7, sM ++ [((i : Int), (m : Int))]⟩) := Lib.hid ⟨(HYO.out.turn HB.out.size (fun b hb _ => HB.out.block b hb) (fun _ _ h => h)), HA.out.lower hbase, (fun b e h => by have h1 := (HA.out.blk_lt b e).1; rcases h with h | h; omega; (have := HAn2.out b h; omega))⟩
                                have HHG : Hid (∀ b, (GN bm An) b → b < W3.heap.size) := Lib.hid (fun b h => by have := HB.out.size; rcases h with h | h; omega; (have := HAn2.out b h; omega))
                                go_simp
                                (with_reducible refine (HSET.out (GN bm An) A7 c7 _ HMS.out (Nat.le_trans hbase HB.out.size) HHG.out ((HRO.out.below (HNz2.out.bel.trans (HB.out.mono hbase))).more (Nat.le_trans hbase HB.out.size))).mono ?_)
                                rintro e W4 ⟨A8, c8, rs8, d8, Am8, cm8, M8, rfl, hst8, hok8, hbs⟩
                                have HB1 := Lib.hid (bthen HB.out (Nat.le_refl _) hbs)
                                refine hK.out _ _ ⟨(HB1.out.cell (p := ⟨wr.heap.size, 0, none⟩) hmlt).trans m0, (HB1.out.cell (p := ⟨wr.heap.size, 1, none⟩) hmlt).trans m1, (HB1.out.cell (p := ⟨wp.heap.size, 1, none⟩) hplt).trans y1, (HB1.out.cell (p := ⟨wp.heap.size, 2, none⟩) hplt).trans y2⟩ (fun hHeldN => ?_)
                                clear hK K hHeld
                                try simp only [Act.put, List.setIfInBounds_toArray, List.set_cons_zero, List.set_cons_succ]
                                have hHeld := hHeldN
                                clear hHeldN
                                have HA' := Lib.hid (HA.out.below hbs)
                                clear HA
                                have HA := HA'
                                clear HA'
                                have HMT := Lib.hid hok8
                                have HST := Lib.hid hst8
                                clear HA HMS HHG hok8 hst8
                                clear HB
                                have HB := HB1
                                clear HB1
                                clear hbs
                                refine callS (i := 12) HSZ.out (by kernel_rfl) (by kernel_rfl) rfl (fun K hK => ?_)
                                go_simp
                                have hbs : Below W4.heap.size W4 (W4.alloc (.cells #[.slice none 0 0, .int .i64 0, .slice none 0 0] 73)) := (Below.refl _ _).alloc (Nat.le_refl _) _
                                have HB1 := Lib.hid (bthen HB.out (Nat.le_refl _) hbs)
                                refine hK.out _ _ ⟨(HB1.out.cell (p := ⟨wr.heap.size, 0, none⟩) hmlt).trans m0, (HB1.out.cell (p := ⟨wr.heap.size, 1, none⟩) hmlt).trans m1, (HB1.out.cell (p := ⟨wp.heap.size, 1, none⟩) hplt).trans y1, (HB1.out.cell (p := ⟨wp.heap.size, 2, none⟩) hplt).trans y2⟩ (fun hHeldN => ?_)
                                clear hK K hHeld
                                try simp only [Act.put, List.setIfInBounds_toArray, List.set_cons_zero, List.set_cons_succ]
                                have hHeld := hHeldN
                                clear hHeldN
                                have HMT' := Lib.hid (ms_box HMT.out (.cells #[.slice none 0 0, .int .i64 0, .slice none 0 0] 73))
                                clear HMT
                                have HMT := HMT'
                                clear HMT'
                                have HZ := Lib.hid (show (W4.alloc (.cells #[.slice none 0 0, .int .i64 0, .slice none 0 0] 73)).cell? ⟨W4.heap.size, 0, none⟩ = some (.slice none 0 0) ∧ (W4.alloc (.cells #[.slice none 0 0, .int .i64 0, .slice none 0 0] 73)).cell? ⟨W4.heap.size, 1, none⟩ = some (.int .i64 0) ∧ (W4.alloc (.cells #[.slice none 0 0, .int .i64 0, .slice none 0 0] 73)).cell? ⟨W4.heap.size, 2, none⟩ = some (.slice none 0 0) ∧ (∀ j, (W4.alloc (.cells #[.slice none 0 0, .int .i64 0, .slice none 0 0] 73)).frozen? ⟨W4.heap.size, j, none⟩ = false) from ⟨by go_simp, by go_simp, by go_simp, fun j => by go_simp⟩)
                                have HLB : Hid (W4.heap.size < (W4.alloc (.cells #[.slice none 0 0, .int .i64 0, .slice none 0 0] 73)).heap.size) := Lib.hid (by simp)
                                have HWB : Hid (w2.heap.size ≤ W4.heap.size) := Lib.hid HB.out.size
                                clear HB
                                have HB := HB1
                                clear HB1
                                clear hbs
                                generalize W4.alloc (.cells #[.slice none 0 0, .int .i64 0, .slice none 0 0] 73) = W5 at *
                                refine callS (i := 13) HSZ.out (by kernel_rfl) (by kernel_rfl) rfl (fun K hK => ?_)
                                obtain ⟨z0, z1, z2, zf⟩ := HZ.out
                                have hwb := HWB.out
                                have hlb := HLB.out
                                have HB1 := Lib.hid (((HB.out.setCell (p := ⟨W4.heap.size, 0, none⟩) hwb (.slice A8 rs8.length c8)).setCell (p := ⟨W4.heap.size, 1, none⟩) hwb (.int .i64 d8)).setCell (p := ⟨W4.heap.size, 2, none⟩) hwb (.slice Am8 M8.length cm8))
                                go_simp
                                refine hK.out _ _ ⟨(HB1.out.cell (p := ⟨wr.heap.size, 0, none⟩) hmlt).trans m0, (HB1.out.cell (p := ⟨wr.heap.size, 1, none⟩) hmlt).trans m1, (HB1.out.cell (p := ⟨wp.heap.size, 1, none⟩) hplt).trans y1, (HB1.out.cell (p := ⟨wp.heap.size, 2, none⟩) hplt).trans y2⟩ (fun hHeldN => ?_)
                                clear hK K hHeld
                                try simp only [Act.put, List.setIfInBounds_toArray, List.set_cons_zero, List.set_cons_succ]
                                have hHeld := hHeldN
                                clear hHeldN
                                have HLV := Lib.hid (lv_cells (G := GN bm An) (base := w.heap.size) (b := W4.heap.size) (w := ((W5.setCell ⟨W4.heap.size, 0, none⟩ (.slice A8 rs8.length c8)).setCell ⟨W4.heap.size, 1, none⟩ (.int .i64 d8)).setCell ⟨W4.heap.size, 2, none⟩ (.slice Am8 M8.length cm8)) (s := ⟨A8, c8, rs8, d8, Am8, cm8, M8⟩) (by go_simp) (by go_simp) (by go_simp) (by simp; omega) (fun h => by rcases h with h | h; omega; (have := HAn2.out _ h; omega)) (ms_set HMT.out (by simp) (fun q hq => by rw [Below.heap_setCell _ _ _ q hq, Below.heap_setCell _ _ _ q hq, Below.heap_setCell _ _ _ q hq])))
                                refine doneS HSZ.out (by kernel_rfl) (by kernel_rfl) (NoPanic.normal ?_)
                                go_wp2_with fail
                                go_meet
                                case rel => exact ⟨A8, c8, rs8, d8, Am8, cm8, M8, W4.heap.size, rfl, HST, HLV, HB1⟩
                              · skip
                                go_simp
                                have hbs : Below W3.heap.size W3 (W3.alloc (.cells #[.slice none 0 0, .int .i64 0, .slice none 0 0] 73)) := (Below.refl _ _).alloc (Nat.le_refl _) _
                                have HB1 := Lib.hid (bthen HB.out (Nat.le_refl _) hbs)
                                refine hK.out _ _ ⟨(HB1.out.cell (p := ⟨wr.heap.size, 0, none⟩) hmlt).trans m0, (HB1.out.cell (p := ⟨wr.heap.size, 1, none⟩) hmlt).trans m1, (HB1.out.cell (p := ⟨wp.heap.size, 1, none⟩) hplt).trans y1, (HB1.out.cell (p := ⟨wp.heap.size, 2, none⟩) hplt).trans y2⟩ (fun hHeldN => ?_)
                                clear hK K hHeld
                                try simp only [Act.put, List.setIfInBounds_toArray, List.set_cons_zero, List.set_cons_succ]
                                have hHeld := hHeldN
                                clear hHeldN
                                have HAP7 := Lib.hid (show ∀ b, blk A7 = some b → b ≠ W3.heap.size from fun b e e2 => by have := (HA.out.blk_lt b e).2; omega)
                                have HA' := Lib.hid (HA.out.below hbs)
                                clear HA
                                have HA := HA'
                                clear HA'
                                have HZ := Lib.hid (show (W3.alloc (.cells #[.slice none 0 0, .int .i64 0, .slice none 0 0] 73)).cell? ⟨W3.heap.size, 0, none⟩ = some (.slice none 0 0) ∧ (W3.alloc (.cells #[.slice none 0 0, .int .i64 0, .slice none 0 0] 73)).cell? ⟨W3.heap.size, 1, none⟩ = some (.int .i64 0) ∧ (W3.alloc (.cells #[.slice none 0 0, .int .i64 0, .slice none 0 0] 73)).cell? ⟨W3.heap.size, 2, none⟩ = some (.slice none 0 0) ∧ (∀ j, (W3.alloc (.cells #[.slice none 0 0, .int .i64 0, .slice none 0 0] 73)).frozen? ⟨W3.heap.size, j, none⟩ = false) from ⟨by go_simp, by go_simp, by go_simp, fun j => by go_simp⟩)
                                have HLB : Hid (W3.heap.size < (W3.alloc (.cells #[.slice none 0 0, .int .i64 0, .slice none 0 0] 73)).heap.size) := Lib.hid (by simp)
                                have HWB : Hid (w2.heap.size ≤ W3.heap.size) := Lib.hid HB.out.size
                                clear HB
                                have HB := HB1
                                clear HB1
                                clear hbs
                                generalize W3.alloc (.cells #[.slice none 0 0, .int .i64 0, .slice none 0 0] 73) = W6 at *
                                refine callS (i := 11) HSZ.out (by kernel_rfl) (by kernel_rfl) rfl (fun K hK => ?_)
                                have HMS : Hid (MSok (fun b => GN bm An b ∨ b = W3.heap.size) w.heap.size W6 ⟨A5, c5, os, sd, A7, c7, sM ++ [((i : Int), (m : Int))]⟩) := Lib.hid ⟨((HYO.out.turn (G' := (fun b => GN bm An b ∨ b = W3.heap.size)) (Nat.le_refl _) (fun _ _ _ => rfl) (fun b hb h => h.elim id (fun e => by have := HWB.out; omega))).turn HB.out.size (fun b hb _ => HB.out.block b hb) (fun _ _ h => h)), HA.out.lower hbase, (fun b e h => by have h1 := (HA.out.blk_lt b e).1; rcases h with h | h; (rcases h with h | h; omega; (have := HAn2.out b h; omega)); exact HAP7.out b e h)⟩
                                have HHG : Hid (∀ b, (fun b => GN bm An b ∨ b = W3.heap.size) b → b < W6.heap.size) := Lib.hid (fun b h => by have := HB.out.size; rcases h with h | h; (rcases h with h | h; omega; (have := HAn2.out b h; omega)); (have := HLB.out; omega))
                                go_simp
                                (with_reducible refine (HSET.out (fun b => GN bm An b ∨ b = W3.heap.size) A7 c7 _ HMS.out (Nat.le_trans hbase HB.out.size) HHG.out ((HRO.out.below (HNz2.out.bel.trans (HB.out.mono hbase))).more (Nat.le_trans hbase HB.out.size))).mono ?_)
                                rintro e W7 ⟨A8, c8, rs8, d8, Am8, cm8, M8, rfl, hst8, hok8, hbs⟩
                                have HB1 := Lib.hid (bthen HB.out (Nat.le_refl _) hbs)
                                refine hK.out _ _ ⟨(HB1.out.cell (p := ⟨wr.heap.size, 0, none⟩) hmlt).trans m0, (HB1.out.cell (p := ⟨wr.heap.size, 1, none⟩) hmlt).trans m1, (HB1.out.cell (p := ⟨wp.heap.size, 1, none⟩) hplt).trans y1, (HB1.out.cell (p := ⟨wp.heap.size, 2, none⟩) hplt).trans y2⟩ (fun hHeldN => ?_)
                                clear hK K hHeld
                                try simp only [Act.put, List.setIfInBounds_toArray, List.set_cons_zero, List.set_cons_succ]
                                have hHeld := hHeldN
                                clear hHeldN
                                have HA' := Lib.hid (HA.out.below hbs)
                                clear HA
                                have HA := HA'
                                clear HA'
                                have HZ' := Lib.hid (show _ ∧ _ ∧ _ ∧ _ from ⟨(hbs.cell (p := ⟨W3.heap.size, 0, none⟩) HLB.out).trans HZ.out.1, (hbs.cell (p := ⟨W3.heap.size, 1, none⟩) HLB.out).trans HZ.out.2.1, (hbs.cell (p := ⟨W3.heap.size, 2, none⟩) HLB.out).trans HZ.out.2.2.1, fun j => (hbs.frozen (p := ⟨W3.heap.size, j, none⟩) HLB.out).trans (HZ.out.2.2.2 j)⟩)
                                have HLB' := Lib.hid (Nat.lt_of_lt_of_le HLB.out hbs.size)
                                clear HZ HLB
                                have HZ := HZ'
                                have HLB := HLB'
                                clear HZ' HLB'
                                have HMT := Lib.hid hok8
                                have HST := Lib.hid hst8
                                clear HA HMS HHG hok8 hst8
                                clear HB
                                have HB := HB1
                                clear HB1
                                clear hbs
                                refine callS (i := 13) HSZ.out (by kernel_rfl) (by kernel_rfl) rfl (fun K hK => ?_)
                                obtain ⟨z0, z1, z2, zf⟩ := HZ.out
                                have hwb := HWB.out
                                have hlb := HLB.out
                                have HB1 := Lib.hid (((HB.out.setCell (p := ⟨W3.heap.size, 0, none⟩) hwb (.slice A8 rs8.length c8)).setCell (p := ⟨W3.heap.size, 1, none⟩) hwb (.int .i64 d8)).setCell (p := ⟨W3.heap.size, 2, none⟩) hwb (.slice Am8 M8.length cm8))
                                go_simp
                                refine hK.out _ _ ⟨(HB1.out.cell (p := ⟨wr.heap.size, 0, none⟩) hmlt).trans m0, (HB1.out.cell (p := ⟨wr.heap.size, 1, none⟩) hmlt).trans m1, (HB1.out.cell (p := ⟨wp.heap.size, 1, none⟩) hplt).trans y1, (HB1.out.cell (p := ⟨wp.heap.size, 2, none⟩) hplt).trans y2⟩ (fun hHeldN => ?_)
                                clear hK K hHeld
                                try simp only [Act.put, List.setIfInBounds_toArray, List.set_cons_zero, List.set_cons_succ]
                                have hHeld := hHeldN
                                clear hHeldN
                                have HLV := Lib.hid (lv_cells (G := GN bm An) (base := w.heap.size) (b := W3.heap.size) (w := ((W7.setCell ⟨W3.heap.size, 0, none⟩ (.slice A8 rs8.length c8)).setCell ⟨W3.heap.size, 1, none⟩ (.int .i64 d8)).setCell ⟨W3.heap.size, 2, none⟩ (.slice Am8 M8.length cm8)) (s := ⟨A8, c8, rs8, d8, Am8, cm8, M8⟩) (by go_simp) (by go_simp) (by go_simp) (by simp; omega) (fun h => by rcases h with h | h; omega; (have := HAn2.out _ h; omega)) (ms_set HMT.out (by simp) (fun q hq => by rw [Below.heap_setCell _ _ _ q hq, Below.heap_setCell _ _ _ q hq, Below.heap_setCell _ _ _ q hq])))
                                refine doneS HSZ.out (by kernel_rfl) (by kernel_rfl) (NoPanic.normal ?_)
                                go_wp2_with fail
                                go_meet
                                case rel => exact ⟨A8, c8, rs8, d8, Am8, cm8, M8, W3.heap.size, rfl, HST, HLV, HB1⟩
                            · skip
                              go_simp
                              have hbs : Below W2.heap.size W2 (W2.alloc (.cells #[.slice none 0 0, .int .i64 0, .slice none 0 0] 73)) := (Below.refl _ _).alloc (Nat.le_refl _) _
                              have HB1 := Lib.hid (bthen HB.out (Nat.le_refl _) hbs)
                              refine hK.out _ _ ⟨(HB1.out.cell (p := ⟨wr.heap.size, 0, none⟩) hmlt).trans m0, (HB1.out.cell (p := ⟨wr.heap.size, 1, none⟩) hmlt).trans m1, (HB1.out.cell (p := ⟨wp.heap.size, 1, none⟩) hplt).trans y1, (HB1.out.cell (p := ⟨wp.heap.size, 2, none⟩) hplt).trans y2⟩ (fun hHeldN => ?_)
                              clear hK K hHeld
                              try simp only [Act.put, List.setIfInBounds_toArray, List.set_cons_zero, List.set_cons_succ]
                              have hHeld := hHeldN
                              clear hHeldN
                              have HAP := Lib.hid (show ∀ b, blk A4 = some b → b ≠ W2.heap.size from fun b e e2 => by have := (HC.out.blk_lt b e).2; omega)
                              have HC9' := Lib.hid (fun j v hv => (hbs.cell (p := ⟨W1.heap.size, j, none⟩) HL9.out).trans (HC9.out j v hv))
                              have HL9' := Lib.hid (Nat.lt_of_lt_of_le HL9.out hbs.size)
                              clear HC9 HL9
                              have HC9 := HC9'
                              have HL9 := HL9'
                              clear HC9' HL9'
                              have HC' := Lib.hid (HC.out.below hbs)
                              clear HC
                              have HC := HC'
                              clear HC'
                              have HZ := Lib.hid (show (W2.alloc (.cells #[.slice none 0 0, .int .i64 0, .slice none 0 0] 73)).cell? ⟨W2.heap.size, 0, none⟩ = some (.slice none 0 0) ∧ (W2.alloc (.cells #[.slice none 0 0, .int .i64 0, .slice none 0 0] 73)).cell? ⟨W2.heap.size, 1, none⟩ = some (.int .i64 0) ∧ (W2.alloc (.cells #[.slice none 0 0, .int .i64 0, .slice none 0 0] 73)).cell? ⟨W2.heap.size, 2, none⟩ = some (.slice none 0 0) ∧ (∀ j, (W2.alloc (.cells #[.slice none 0 0, .int .i64 0, .slice none 0 0] 73)).frozen? ⟨W2.heap.size, j, none⟩ = false) from ⟨by go_simp, by go_simp, by go_simp, fun j => by go_simp⟩)
                              have HLB : Hid (W2.heap.size < (W2.alloc (.cells #[.slice none 0 0, .int .i64 0, .slice none 0 0] 73)).heap.size) := Lib.hid (by simp)
                              have HWB : Hid (w2.heap.size ≤ W2.heap.size) := Lib.hid HB.out.size
                              clear HB
                              have HB := HB1
                              clear HB1
                              clear hbs
                              generalize W2.alloc (.cells #[.slice none 0 0, .int .i64 0, .slice none 0 0] 73) = W8 at *
                              refine callS (i := 8) HSZ.out (by kernel_rfl) (by kernel_rfl) rfl (fun K hK => ?_)
                              refine stepL_app1 (L := LMove) rowMv rfl rfl _ _ rfl rfl HC.out ((i : Int), (m : Int)) rfl HC9.out (by unfold maxLen; omega) (by omega) HB.out.size ?_
                              intro A7 c7 W9 ho7 hg7
                              have HB1 := Lib.hid (Grew.below HB.out hg7 HB.out.size (fun b e => (HC.out.blk_lt b e).1))
                              refine hK.out _ _ ⟨(HB1.out.cell (p := ⟨wr.heap.size, 0, none⟩) hmlt).trans m0, (HB1.out.cell (p := ⟨wr.heap.size, 1, none⟩) hmlt).trans m1, (HB1.out.cell (p := ⟨wp.heap.size, 1, none⟩) hplt).trans y1, (HB1.out.cell (p := ⟨wp.heap.size, 2, none⟩) hplt).trans y2⟩ (fun hHeldN => ?_)
                              clear hK K hHeld
                              try simp only [Act.put, List.setIfInBounds_toArray, List.set_cons_zero, List.set_cons_succ]
                              have hHeld := hHeldN
                              clear hHeldN
                              have HA := Lib.hid ho7
                              have HZ' := Lib.hid (show _ ∧ _ ∧ _ ∧ _ from ⟨(hg7.cell ⟨W2.heap.size, 0, none⟩ HLB.out (fun e => HAP.out _ e rfl)).trans HZ.out.1, (hg7.cell ⟨W2.heap.size, 1, none⟩ HLB.out (fun e => HAP.out _ e rfl)).trans HZ.out.2.1, (hg7.cell ⟨W2.heap.size, 2, none⟩ HLB.out (fun e => HAP.out _ e rfl)).trans HZ.out.2.2.1, fun j => (hg7.frozen ⟨W2.heap.size, j, none⟩ HLB.out (fun e => HAP.out _ e rfl)).trans (HZ.out.2.2.2 j)⟩)
                              have HLB' := Lib.hid (Nat.lt_of_lt_of_le HLB.out hg7.size)
                              have HAP7 := Lib.hid (show ∀ b, blk A7 = some b → b ≠ W2.heap.size from fun b e e2 => by rcases hg7.place with hp | hp; exact HAP.out b (hp ▸ e) e2; (have := hp b e; have := HLB.out; omega))
                              clear HZ HLB HAP
                              have HZ := HZ'
                              have HLB := HLB'
                              clear HZ' HLB'
                              clear HC HC9 HL9
                              clear HB
                              have HB := HB1
                              clear HB1
                              clear ho7 hg7
                              focus
                                refine takeS (i := 9) (v := ?_) HFR.out HNS.out HSZ.out HQP.out rfl (by kernel_rfl) (by kernel_rfl) (by decide) (by kernel_rfl) (Or.inl ⟨by rfl, ?_⟩) hHeld rfl (by dsimp only [List.set_cons_succ, List.set_cons_zero]) ?_
                                rotate_left
                                · intro w hSw; clear hSw; go_simp; (try with_reducible rfl)
                              refine callS (i := 11) HSZ.out (by kernel_rfl) (by kernel_rfl) rfl (fun K hK => ?_)
                              have HMS : Hid (MSok (fun b => GN bm An b ∨ b = W2.heap.size) w.heap.size W9 ⟨A5, c5, os, sd, A7, c7, sM ++ [((i : Int), (m : Int))]⟩) := Lib.hid ⟨((HYO.out.turn (G' := (fun b => GN bm An b ∨ b = W2.heap.size)) (Nat.le_refl _) (fun _ _ _ => rfl) (fun b hb h => h.elim id (fun e => by have := HWB.out; omega))).turn HB.out.size (fun b hb _ => HB.out.block b hb) (fun _ _ h => h)), HA.out.lower hbase, (fun b e h => by have h1 := (HA.out.blk_lt b e).1; rcases h with h | h; (rcases h with h | h; omega; (have := HAn2.out b h; omega)); exact HAP7.out b e h)⟩
                              have HHG : Hid (∀ b, (fun b => GN bm An b ∨ b = W2.heap.size) b → b < W9.heap.size) := Lib.hid (fun b h => by have := HB.out.size; rcases h with h | h; (rcases h with h | h; omega; (have := HAn2.out b h; omega)); (have := HLB.out; omega))
                              go_simp
                              (with_reducible refine (HSET.out (fun b => GN bm An b ∨ b = W2.heap.size) A7 c7 _ HMS.out (Nat.le_trans hbase HB.out.size) HHG.out ((HRO.out.below (HNz2.out.bel.trans (HB.out.mono hbase))).more (Nat.le_trans hbase HB.out.size))).mono ?_)
                              rintro e W10 ⟨A8, c8, rs8, d8, Am8, cm8, M8, rfl, hst8, hok8, hbs⟩
                              have HB1 := Lib.hid (bthen HB.out (Nat.le_refl _) hbs)
                              refine hK.out _ _ ⟨(HB1.out.cell (p := ⟨wr.heap.size, 0, none⟩) hmlt).trans m0, (HB1.out.cell (p := ⟨wr.heap.size, 1, none⟩) hmlt).trans m1, (HB1.out.cell (p := ⟨wp.heap.size, 1, none⟩) hplt).trans y1, (HB1.out.cell (p := ⟨wp.heap.size, 2, none⟩) hplt).trans y2⟩ (fun hHeldN => ?_)
                              clear hK K hHeld
                              try simp only [Act.put, List.setIfInBounds_toArray, List.set_cons_zero, List.set_cons_succ]
                              have hHeld := hHeldN
                              clear hHeldN
                              have HA' := Lib.hid (HA.out.below hbs)
                              clear HA
                              have HA := HA'
                              clear HA'
                              have HZ' := Lib.hid (show _ ∧ _ ∧ _ ∧ _ from ⟨(hbs.cell (p := ⟨W2.heap.size, 0, none⟩) HLB.out).trans HZ.out.1, (hbs.cell (p := ⟨W2.heap.size, 1, none⟩) HLB.out).trans HZ.out.2.1, (hbs.cell (p := ⟨W2.heap.size, 2, none⟩) HLB.out).trans HZ.out.2.2.1, fun j => (hbs.frozen (p := ⟨W2.heap.size, j, none⟩) HLB.out).trans (HZ.out.2.2.2 j)⟩)
                              have HLB' := Lib.hid (Nat.lt_of_lt_of_le HLB.out hbs.size)
                              clear HZ HLB
                              have HZ := HZ'
                              have HLB := HLB'
                              clear HZ' HLB'
                              have HMT := Lib.hid hok8
                              have HST := Lib.hid hst8
                              clear HA HMS HHG hok8 hst8
                              clear HB
                              have HB := HB1
                              clear HB1
                              clear hbs
                              refine callS (i := 13) HSZ.out (by kernel_rfl) (by kernel_rfl) rfl (fun K hK => ?_)
                              obtain ⟨z0, z1, z2, zf⟩ := HZ.out
                              have hwb := HWB.out
                              have hlb := HLB.out
                              have HB1 := Lib.hid (((HB.out.setCell (p := ⟨W2.heap.size, 0, none⟩) hwb (.slice A8 rs8.length c8)).setCell (p := ⟨W2.heap.size, 1, none⟩) hwb (.int .i64 d8)).setCell (p := ⟨W2.heap.size, 2, none⟩) hwb (.slice Am8 M8.length cm8))
                              go_simp
                              refine hK.out _ _ ⟨(HB1.out.cell (p := ⟨wr.heap.size, 0, none⟩) hmlt).trans m0, (HB1.out.cell (p := ⟨wr.heap.size, 1, none⟩) hmlt).trans m1, (HB1.out.cell (p := ⟨wp.heap.size, 1, none⟩) hplt).trans y1, (HB1.out.cell (p := ⟨wp.heap.size, 2, none⟩) hplt).trans y2⟩ (fun hHeldN => ?_)
                              clear hK K hHeld
                              try simp only [Act.put, List.setIfInBounds_toArray, List.set_cons_zero, List.set_cons_succ]
                              have hHeld := hHeldN
                              clear hHeldN
                              have HLV := Lib.hid (lv_cells (G := GN bm An) (base := w.heap.size) (b := W2.heap.size) (w := ((W10.setCell ⟨W2.heap.size, 0, none⟩ (.slice A8 rs8.length c8)).setCell ⟨W2.heap.size, 1, none⟩ (.int .i64 d8)).setCell ⟨W2.heap.size, 2, none⟩ (.slice Am8 M8.length cm8)) (s := ⟨A8, c8, rs8, d8, Am8, cm8, M8⟩) (by go_simp) (by go_simp) (by go_simp) (by simp; omega) (fun h => by rcases h with h | h; omega; (have := HAn2.out _ h; omega)) (ms_set HMT.out (by simp) (fun q hq => by rw [Below.heap_setCell _ _ _ q hq, Below.heap_setCell _ _ _ q hq, Below.heap_setCell _ _ _ q hq])))
                              refine doneS HSZ.out (by kernel_rfl) (by kernel_rfl) (NoPanic.normal ?_)
                              go_wp2_with fail
                              go_meet
                              case rel => exact ⟨A8, c8, rs8, d8, Am8, cm8, M8, W2.heap.size, rfl, HST, HLV, HB1⟩
                          · skip
                            go_simp
                            have hbs : Below W1.heap.size W1 (W1.alloc (.cells #[.slice none 0 0, .int .i64 0, .slice none 0 0] 73)) := (Below.refl _ _).alloc (Nat.le_refl _) _
                            have HB1 := Lib.hid (bthen HB.out (Nat.le_refl _) hbs)
                            refine hK.out _ _ ⟨(HB1.out.cell (p := ⟨wr.heap.size, 0, none⟩) hmlt).trans m0, (HB1.out.cell (p := ⟨wr.heap.size, 1, none⟩) hmlt).trans m1, (HB1.out.cell (p := ⟨wp.heap.size, 1, none⟩) hplt).trans y1, (HB1.out.cell (p := ⟨wp.heap.size, 2, none⟩) hplt).trans y2⟩ (fun hHeldN => ?_)
                            clear hK K hHeld
                            try simp only [Act.put, List.setIfInBounds_toArray, List.set_cons_zero, List.set_cons_succ]
                            have hHeld := hHeldN
                            clear hHeldN
                            have HAP := Lib.hid (show ∀ b, blk A4 = some b → b ≠ W1.heap.size from fun b e e2 => by have := (HC.out.blk_lt b e).2; omega)
                            have HC' := Lib.hid (HC.out.below hbs)
                            clear HC
                            have HC := HC'
                            clear HC'
                            have HZ := Lib.hid (show (W1.alloc (.cells #[.slice none 0 0, .int .i64 0, .slice none 0 0] 73)).cell? ⟨W1.heap.size, 0, none⟩ = some (.slice none 0 0) ∧ (W1.alloc (.cells #[.slice none 0 0, .int .i64 0, .slice none 0 0] 73)).cell? ⟨W1.heap.size, 1, none⟩ = some (.int .i64 0) ∧ (W1.alloc (.cells #[.slice none 0 0, .int .i64 0, .slice none 0 0] 73)).cell? ⟨W1.heap.size, 2, none⟩ = some (.slice none 0 0) ∧ (∀ j, (W1.alloc (.cells #[.slice none 0 0, .int .i64 0, .slice none 0 0] 73)).frozen? ⟨W1.heap.size, j, none⟩ = false) from ⟨by go_simp, by go_simp, by go_simp, fun j => by go_simp⟩)
                            have HLB : Hid (W1.heap.size < (W1.alloc (.cells #[.slice none 0 0, .int .i64 0, .slice none 0 0] 73)).heap.size) := Lib.hid (by simp)
                            have HWB : Hid (w2.heap.size ≤ W1.heap.size) := Lib.hid HB.out.size
                            clear HB
                            have HB := HB1
                            clear HB1
                            clear hbs
                            generalize W1.alloc (.cells #[.slice none 0 0, .int .i64 0, .slice none 0 0] 73) = W11 at *
                            refine callS (i := 7) HSZ.out (by kernel_rfl) (by kernel_rfl) rfl (fun K hK => ?_)
                            go_simp
                            have hbs : Below W11.heap.size W11 (W11.alloc (.cells #[.int .i64 i, .int .i64 m] 45)) := (Below.refl _ _).alloc (Nat.le_refl _) _
                            have HB1 := Lib.hid (bthen HB.out (Nat.le_refl _) hbs)
                            refine hK.out _ _ ⟨(HB1.out.cell (p := ⟨wr.heap.size, 0, none⟩) hmlt).trans m0, (HB1.out.cell (p := ⟨wr.heap.size, 1, none⟩) hmlt).trans m1, (HB1.out.cell (p := ⟨wp.heap.size, 1, none⟩) hplt).trans y1, (HB1.out.cell (p := ⟨wp.heap.size, 2, none⟩) hplt).trans y2⟩ (fun hHeldN => ?_)
                            clear hK K hHeld
                            try simp only [Act.put, List.setIfInBounds_toArray, List.set_cons_zero, List.set_cons_succ]
                            have hHeld := hHeldN
                            clear hHeldN
                            have HC' := Lib.hid (HC.out.below hbs)
                            clear HC
                            have HC := HC'
                            clear HC'
                            have HZ' := Lib.hid (show _ ∧ _ ∧ _ ∧ _ from ⟨(hbs.cell (p := ⟨W1.heap.size, 0, none⟩) HLB.out).trans HZ.out.1, (hbs.cell (p := ⟨W1.heap.size, 1, none⟩) HLB.out).trans HZ.out.2.1, (hbs.cell (p := ⟨W1.heap.size, 2, none⟩) HLB.out).trans HZ.out.2.2.1, fun j => (hbs.frozen (p := ⟨W1.heap.size, j, none⟩) HLB.out).trans (HZ.out.2.2.2 j)⟩)
                            have HLB' := Lib.hid (Nat.lt_of_lt_of_le HLB.out hbs.size)
                            clear HZ HLB
                            have HZ := HZ'
                            have HLB := HLB'
                            clear HZ' HLB'
                            have HC9 := Lib.hid (show ∀ (j : Nat) (v : Value), (LMove.f ((i : Int), (m : Int)))[j]? = some v → (W11.alloc (.cells #[.int .i64 i, .int .i64 m] 45)).cell? ⟨W11.heap.size, j, none⟩ = some v from fun j v hv => by rw [World.cell?_alloc_at (hn := rfl)]; simpa [LMove] using hv)
                            have HL9 : Hid (W11.heap.size < (W11.alloc (.cells #[.int .i64 i, .int .i64 m] 45)).heap.size) := Lib.hid (by simp)
                            clear HB
                            have HB := HB1
                            clear HB1
                            clear hbs
                            generalize W11.alloc (.cells #[.int .i64 i, .int .i64 m] 45) = W12 at *
                            refine callS (i := 8) HSZ.out (by kernel_rfl) (by kernel_rfl) rfl (fun K hK => ?_)
                            refine stepL_app1 (L := LMove) rowMv rfl rfl _ _ rfl rfl HC.out ((i : Int), (m : Int)) rfl HC9.out (by unfold maxLen; omega) (by omega) HB.out.size ?_
                            intro A7 c7 W13 ho7 hg7
                            have HB1 := Lib.hid (Grew.below HB.out hg7 HB.out.size (fun b e => (HC.out.blk_lt b e).1))
                            refine hK.out _ _ ⟨(HB1.out.cell (p := ⟨wr.heap.size, 0, none⟩) hmlt).trans m0, (HB1.out.cell (p := ⟨wr.heap.size, 1, none⟩) hmlt).trans m1, (HB1.out.cell (p := ⟨wp.heap.size, 1, none⟩) hplt).trans y1, (HB1.out.cell (p := ⟨wp.heap.size, 2, none⟩) hplt).trans y2⟩ (fun hHeldN => ?_)
                            clear hK K hHeld
                            try simp only [Act.put, List.setIfInBounds_toArray, List.set_cons_zero, List.set_cons_succ]
                            have hHeld := hHeldN
                            clear hHeldN
                            have HA := Lib.hid ho7
                            have HZ' := Lib.hid (show _ ∧ _ ∧ _ ∧ _ from ⟨(hg7.cell ⟨W1.heap.size, 0, none⟩ HLB.out (fun e => HAP.out _ e rfl)).trans HZ.out.1, (hg7.cell ⟨W1.heap.size, 1, none⟩ HLB.out (fun e => HAP.out _ e rfl)).trans HZ.out.2.1, (hg7.cell ⟨W1.heap.size, 2, none⟩ HLB.out (fun e => HAP.out _ e rfl)).trans HZ.out.2.2.1, fun j => (hg7.frozen ⟨W1.heap.size, j, none⟩ HLB.out (fun e => HAP.out _ e rfl)).trans (HZ.out.2.2.2 j)⟩)
                            have HLB' := Lib.hid (Nat.lt_of_lt_of_le HLB.out hg7.size)
                            have HAP7 := Lib.hid (show ∀ b, blk A7 = some b → b ≠ W1.heap.size from fun b e e2 => by rcases hg7.place with hp | hp; exact HAP.out b (hp ▸ e) e2; (have := hp b e; have := HLB.out; omega))
                            clear HZ HLB HAP
                            have HZ := HZ'
                            have HLB := HLB'
                            clear HZ' HLB'
                            clear HC HC9 HL9
                            clear HB
                            have HB := HB1
                            clear HB1
                            clear ho7 hg7
                            focus
                              refine takeS (i := 9) (v := ?_) HFR.out HNS.out HSZ.out HQP.out rfl (by kernel_rfl) (by kernel_rfl) (by decide) (by kernel_rfl) (Or.inl ⟨by rfl, ?_⟩) hHeld rfl (by dsimp only [List.set_cons_succ, List.set_cons_zero]) ?_
                              rotate_left
                              · intro w hSw; clear hSw; go_simp; (try with_reducible rfl)
                            refine callS (i := 11) HSZ.out (by kernel_rfl) (by kernel_rfl) rfl (fun K hK => ?_)
                            have HMS : Hid (MSok (fun b => GN bm An b ∨ b = W1.heap.size) w.heap.size W13 ⟨A5, c5, os, sd, A7, c7, sM ++ [((i : Int), (m : Int))]⟩) := Lib.hid ⟨((HYO.out.turn (G' := (fun b => GN bm An b ∨ b = W1.heap.size)) (Nat.le_refl _) (fun _ _ _ => rfl) (fun b hb h => h.elim id (fun e => by have := HWB.out; omega))).turn HB.out.size (fun b hb _ => HB.out.block b hb) (fun _ _ h => h)), HA.out.lower hbase, (fun b e h => by have h1 := (HA.out.blk_lt b e).1; rcases h with h | h; (rcases h with h | h; omega; (have := HAn2.out b h; omega)); exact HAP7.out b e h)⟩
                            have HHG : Hid (∀ b, (fun b => GN bm An b ∨ b = W1.heap.size) b → b < W13.heap.size) := Lib.hid (fun b h => by have := HB.out.size; rcases h with h | h; (rcases h with h | h; omega; (have := HAn2.out b h; omega)); (have := HLB.out; omega))
                            go_simp
                            (with_reducible refine (HSET.out (fun b => GN bm An b ∨ b = W1.heap.size) A7 c7 _ HMS.out (Nat.le_trans hbase HB.out.size) HHG.out ((HRO.out.below (HNz2.out.bel.trans (HB.out.mono hbase))).more (Nat.le_trans hbase HB.out.size))).mono ?_)
                            rintro e W14 ⟨A8, c8, rs8, d8, Am8, cm8, M8, rfl, hst8, hok8, hbs⟩
                            have HB1 := Lib.hid (bthen HB.out (Nat.le_refl _) hbs)
                            refine hK.out _ _ ⟨(HB1.out.cell (p := ⟨wr.heap.size, 0, none⟩) hmlt).trans m0, (HB1.out.cell (p := ⟨wr.heap.size, 1, none⟩) hmlt).trans m1, (HB1.out.cell (p := ⟨wp.heap.size, 1, none⟩) hplt).trans y1, (HB1.out.cell (p := ⟨wp.heap.size, 2, none⟩) hplt).trans y2⟩ (fun hHeldN => ?_)
                            clear hK K hHeld
                            try simp only [Act.put, List.setIfInBounds_toArray, List.set_cons_zero, List.set_cons_succ]
                            have hHeld := hHeldN
                            clear hHeldN
                            have HA' := Lib.hid (HA.out.below hbs)
                            clear HA
                            have HA := HA'
                            clear HA'
                            have HZ' := Lib.hid (show _ ∧ _ ∧ _ ∧ _ from ⟨(hbs.cell (p := ⟨W1.heap.size, 0, none⟩) HLB.out).trans HZ.out.1, (hbs.cell (p := ⟨W1.heap.size, 1, none⟩) HLB.out).trans HZ.out.2.1, (hbs.cell (p := ⟨W1.heap.size, 2, none⟩) HLB.out).trans HZ.out.2.2.1, fun j => (hbs.frozen (p := ⟨W1.heap.size, j, none⟩) HLB.out).trans (HZ.out.2.2.2 j)⟩)
                            have HLB' := Lib.hid (Nat.lt_of_lt_of_le HLB.out hbs.size)
                            clear HZ HLB
                            have HZ := HZ'
                            have HLB := HLB'
                            clear HZ' HLB'
                            have HMT := Lib.hid hok8
                            have HST := Lib.hid hst8
                            clear HA HMS HHG hok8 hst8
                            clear HB
                            have HB := HB1
                            clear HB1
                            clear hbs
                            refine callS (i := 13) HSZ.out (by kernel_rfl) (by kernel_rfl) rfl (fun K hK => ?_)
                            obtain ⟨z0, z1, z2, zf⟩ := HZ.out
                            have hwb := HWB.out
                            have hlb := HLB.out
                            have HB1 := Lib.hid (((HB.out.setCell (p := ⟨W1.heap.size, 0, none⟩) hwb (.slice A8 rs8.length c8)).setCell (p := ⟨W1.heap.size, 1, none⟩) hwb (.int .i64 d8)).setCell (p := ⟨W1.heap.size, 2, none⟩) hwb (.slice Am8 M8.length cm8))
                            go_simp
                            refine hK.out _ _ ⟨(HB1.out.cell (p := ⟨wr.heap.size, 0, none⟩) hmlt).trans m0, (HB1.out.cell (p := ⟨wr.heap.size, 1, none⟩) hmlt).trans m1, (HB1.out.cell (p := ⟨wp.heap.size, 1, none⟩) hplt).trans y1, (HB1.out.cell (p := ⟨wp.heap.size, 2, none⟩) hplt).trans y2⟩ (fun hHeldN => ?_)
                            clear hK K hHeld
                            try simp only [Act.put, List.setIfInBounds_toArray, List.set_cons_zero, List.set_cons_succ]
                            have hHeld := hHeldN
                            clear hHeldN
                            have HLV := Lib.hid (lv_cells (G := GN bm An) (base := w.heap.size) (b := W1.heap.size) (w := ((W14.setCell ⟨W1.heap.size, 0, none⟩ (.slice A8 rs8.length c8)).setCell ⟨W1.heap.size, 1, none⟩ (.int .i64 d8)).setCell ⟨W1.heap.size, 2, none⟩ (.slice Am8 M8.length cm8)) (s := ⟨A8, c8, rs8, d8, Am8, cm8, M8⟩) (by go_simp) (by go_simp) (by go_simp) (by simp; omega) (fun h => by rcases h with h | h; omega; (have := HAn2.out _ h; omega)) (ms_set HMT.out (by simp) (fun q hq => by rw [Below.heap_setCell _ _ _ q hq, Below.heap_setCell _ _ _ q hq, Below.heap_setCell _ _ _ q hq])))
                            refine doneS HSZ.out (by kernel_rfl) (by kernel_rfl) (NoPanic.normal ?_)
                            go_wp2_with fail
                            go_meet
                            case rel => exact ⟨A8, c8, rs8, d8, Am8, cm8, M8, W1.heap.size, rfl, HST, HLV, HB1⟩
                        · skip
                          go_simp
                          have hbs : Below W0.heap.size W0 (W0.alloc (.cells #[.int .i64 i, .int .i64 m] 45)) := (Below.refl _ _).alloc (Nat.le_refl _) _
                          have HB1 := Lib.hid (bthen HB.out (Nat.le_refl _) hbs)
                          refine hK.out _ _ ⟨(HB1.out.cell (p := ⟨wr.heap.size, 0, none⟩) hmlt).trans m0, (HB1.out.cell (p := ⟨wr.heap.size, 1, none⟩) hmlt).trans m1, (HB1.out.cell (p := ⟨wp.heap.size, 1, none⟩) hplt).trans y1, (HB1.out.cell (p := ⟨wp.heap.size, 2, none⟩) hplt).trans y2⟩ (fun hHeldN => ?_)
                          clear hK K hHeld
                          try simp only [Act.put, List.setIfInBounds_toArray, List.set_cons_zero, List.set_cons_succ]
                          have hHeld := hHeldN
                          clear hHeldN
                          have HC9 := Lib.hid (show ∀ (j : Nat) (v : Value), (LMove.f ((i : Int), (m : Int)))[j]? = some v → (W0.alloc (.cells #[.int .i64 i, .int .i64 m] 45)).cell? ⟨W0.heap.size, j, none⟩ = some v from fun j v hv => by rw [World.cell?_alloc_at (hn := rfl)]; simpa [LMove] using hv)
                          have HL9 : Hid (W0.heap.size < (W0.alloc (.cells #[.int .i64 i, .int .i64 m] 45)).heap.size) := Lib.hid (by simp)
                          clear HB
                          have HB := HB1
                          clear HB1
                          clear hbs
                          generalize W0.alloc (.cells #[.int .i64 i, .int .i64 m] 45) = W15 at *
                          refine callS2 (i := 5) (j := 12) HSZ.out (by kernel_rfl) (by kernel_rfl) rfl rfl (fun K hK => ?_) (fun K hK => ?_)
                          · skip
                            go_simp
                            (with_reducible refine (HCL.out _ (HRM.out.below HB.out) HB.out.size).mono ?_)
                            rintro e W16 ⟨A4, c4, rfl, ho4, hbs⟩
                            have HB1 := Lib.hid (bthen HB.out (Nat.le_refl _) hbs)
                            refine hK.out _ _ ⟨(HB1.out.cell (p := ⟨wr.heap.size, 0, none⟩) hmlt).trans m0, (HB1.out.cell (p := ⟨wr.heap.size, 1, none⟩) hmlt).trans m1, (HB1.out.cell (p := ⟨wp.heap.size, 1, none⟩) hplt).trans y1, (HB1.out.cell (p := ⟨wp.heap.size, 2, none⟩) hplt).trans y2⟩ (fun hHeldN => ?_)
                            clear hK K hHeld
                            try simp only [Act.put, List.setIfInBounds_toArray, List.set_cons_zero, List.set_cons_succ]
                            have hHeld := hHeldN
                            clear hHeldN
                            have HC9' := Lib.hid (fun j v hv => (hbs.cell (p := ⟨W0.heap.size, j, none⟩) HL9.out).trans (HC9.out j v hv))
                            have HL9' := Lib.hid (Nat.lt_of_lt_of_le HL9.out hbs.size)
                            clear HC9 HL9
                            have HC9 := HC9'
                            have HL9 := HL9'
                            clear HC9' HL9'
                            have HC := Lib.hid (ho4.lower HB.out.size)
                            clear HB
                            have HB := HB1
                            clear HB1
                            clear hbs ho4
                            refine callS2 (i := 8) (j := 12) HSZ.out (by kernel_rfl) (by kernel_rfl) rfl rfl (fun K hK => ?_) (fun K hK => ?_)
                            · skip
                              refine stepL_app1 (L := LMove) rowMv rfl rfl _ _ rfl rfl HC.out ((i : Int), (m : Int)) rfl HC9.out (by unfold maxLen; omega) (by omega) HB.out.size ?_
                              intro A7 c7 W17 ho7 hg7
                              have HB1 := Lib.hid (Grew.below HB.out hg7 HB.out.size (fun b e => (HC.out.blk_lt b e).1))
                              refine hK.out _ _ ⟨(HB1.out.cell (p := ⟨wr.heap.size, 0, none⟩) hmlt).trans m0, (HB1.out.cell (p := ⟨wr.heap.size, 1, none⟩) hmlt).trans m1, (HB1.out.cell (p := ⟨wp.heap.size, 1, none⟩) hplt).trans y1, (HB1.out.cell (p := ⟨wp.heap.size, 2, none⟩) hplt).trans y2⟩ (fun hHeldN => ?_)
                              clear hK K hHeld
                              try simp only [Act.put, List.setIfInBounds_toArray, List.set_cons_zero, List.set_cons_succ]
                              have hHeld := hHeldN
                              clear hHeldN
                              have HA := Lib.hid ho7
                              clear HC HC9 HL9
                              clear HB
                              have HB := HB1
                              clear HB1
                              clear ho7 hg7
                              focus
                                refine takeS (i := 9) (v := ?_) HFR.out HNS.out HSZ.out HQP.out rfl (by kernel_rfl) (by kernel_rfl) (by decide) (by kernel_rfl) (Or.inl ⟨by rfl, ?_⟩) hHeld rfl (by dsimp only [List.set_cons_succ, List.set_cons_zero]) ?_
                                rotate_left
                                · intro w hSw; clear hSw; go_simp; (try with_reducible rfl)
                              refine callS2 (i := 11) (j := 12) HSZ.out (by kernel_rfl) (by kernel_rfl) rfl rfl (fun K hK => ?_) (fun K hK => ?_)
                              · skip
                                have HMS : Hid (MSok (GN bm An) w.heap.size W17 ⟨A5, c5, os, sd, A7, c7, sM ++ [((i : Int), (m : Int))]⟩) := Lib.hid ⟨(HYO.out.turn HB.out.size (fun b hb _ => HB.out.block b hb) (fun _ _ h => h)), HA.out.lower hbase, (fun b e h => by have h1 := (HA.out.blk_lt b e).1; rcases h with h | h; omega; (have := HAn2.out b h; omega))⟩
                                have HHG : Hid (∀ b, (GN bm An) b → b < W17.heap.size) := Lib.hid (fun b h => by have := HB.out.size; rcases h with h | h; omega; (have := HAn2.out b h; omega))
                                go_simp
                                (with_reducible refine (HSET.out (GN bm An) A7 c7 _ HMS.out (Nat.le_trans hbase HB.out.size) HHG.out ((HRO.out.below (HNz2.out.bel.trans (HB.out.mono hbase))).more (Nat.le_trans hbase HB.out.size))).mono ?_)
                                rintro e W18 ⟨A8, c8, rs8, d8, Am8, cm8, M8, rfl, hst8, hok8, hbs⟩
                                have HB1 := Lib.hid (bthen HB.out (Nat.le_refl _) hbs)
                                refine hK.out _ _ ⟨(HB1.out.cell (p := ⟨wr.heap.size, 0, none⟩) hmlt).trans m0, (HB1.out.cell (p := ⟨wr.heap.size, 1, none⟩) hmlt).trans m1, (HB1.out.cell (p := ⟨wp.heap.size, 1, none⟩) hplt).trans y1, (HB1.out.cell (p := ⟨wp.heap.size, 2, none⟩) hplt).trans y2⟩ (fun hHeldN => ?_)
                                clear hK K hHeld
                                try simp only [Act.put, List.setIfInBounds_toArray, List.set_cons_zero, List.set_cons_succ]
                                have hHeld := hHeldN
                                clear hHeldN
                                have HA' := Lib.hid (HA.out.below hbs)
                                clear HA
                                have HA := HA'
                                clear HA'
                                have HMT := Lib.hid hok8
                                have HST := Lib.hid hst8
                                clear HA HMS HHG hok8 hst8
                                clear HB
                                have HB := HB1
                                clear HB1
                                clear hbs
                                refine callS (i := 12) HSZ.out (by kernel_rfl) (by kernel_rfl) rfl (fun K hK => ?_)
                                go_simp
                                have hbs : Below W18.heap.size W18 (W18.alloc (.cells #[.slice none 0 0, .int .i64 0, .slice none 0 0] 73)) := (Below.refl _ _).alloc (Nat.le_refl _) _
                                have HB1 := Lib.hid (bthen HB.out (Nat.le_refl _) hbs)
                                refine hK.out _ _ ⟨(HB1.out.cell (p := ⟨wr.heap.size, 0, none⟩) hmlt).trans m0, (HB1.out.cell (p := ⟨wr.heap.size, 1, none⟩) hmlt).trans m1, (HB1.out.cell (p := ⟨wp.heap.size, 1, none⟩) hplt).trans y1, (HB1.out.cell (p := ⟨wp.heap.size, 2, none⟩) hplt).trans y2⟩ (fun hHeldN => ?_)
                                clear hK K hHeld
                                try simp only [Act.put, List.setIfInBounds_toArray, List.set_cons_zero, List.set_cons_succ]
                                have hHeld := hHeldN
                                clear hHeldN
                                have HMT' := Lib.hid (ms_box HMT.out (.cells #[.slice none 0 0, .int .i64 0, .slice none 0 0] 73))
                                clear HMT
                                have HMT := HMT'
                                clear HMT'
                                have HZ := Lib.hid (show (W18.alloc (.cells #[.slice none 0 0, .int .i64 0, .slice none 0 0] 73)).cell? ⟨W18.heap.size, 0, none⟩ = some (.slice none 0 0) ∧ (W18.alloc (.cells #[.slice none 0 0, .int .i64 0, .slice none 0 0] 73)).cell? ⟨W18.heap.size, 1, none⟩ = some (.int .i64 0) ∧ (W18.alloc (.cells #[.slice none 0 0, .int .i64 0, .slice none 0 0] 73)).cell? ⟨W18.heap.size, 2, none⟩ = some (.slice none 0 0) ∧ (∀ j, (W18.alloc (.cells #[.slice none 0 0, .int .i64 0, .slice none 0 0] 73)).frozen? ⟨W18.heap.size, j, none⟩ = false) from ⟨by go_simp, by go_simp, by go_simp, fun j => by go_simp⟩)
                                have HLB : Hid (W18.heap.size < (W18.alloc (.cells #[.slice none 0 0, .int .i64 0, .slice none 0 0] 73)).heap.size) := Lib.hid (by simp)
                                have HWB : Hid (w2.heap.size ≤ W18.heap.size) := Lib.hid HB.out.size
                                clear HB
                                have HB := HB1
                                clear HB1
                                clear hbs
                                generalize W18.alloc (.cells #[.slice none 0 0, .int .i64 0, .slice none 0 0] 73) = W19 at *
                                refine callS (i := 13) HSZ.out (by kernel_rfl) (by kernel_rfl) rfl (fun K hK => ?_)
                                obtain ⟨z0, z1, z2, zf⟩ := HZ.out
                                have hwb := HWB.out
                                have hlb := HLB.out
                                have HB1 := Lib.hid (((HB.out.setCell (p := ⟨W18.heap.size, 0, none⟩) hwb (.slice A8 rs8.length c8)).setCell (p := ⟨W18.heap.size, 1, none⟩) hwb (.int .i64 d8)).setCell (p := ⟨W18.heap.size, 2, none⟩) hwb (.slice Am8 M8.length cm8))
                                go_simp
                                refine hK.out _ _ ⟨(HB1.out.cell (p := ⟨wr.heap.size, 0, none⟩) hmlt).trans m0, (HB1.out.cell (p := ⟨wr.heap.size, 1, none⟩) hmlt).trans m1, (HB1.out.cell (p := ⟨wp.heap.size, 1, none⟩) hplt).trans y1, (HB1.out.cell (p := ⟨wp.heap.size, 2, none⟩) hplt).trans y2⟩ (fun hHeldN => ?_)
                                clear hK K hHeld
                                try simp only [Act.put, List.setIfInBounds_toArray, List.set_cons_zero, List.set_cons_succ]
                                have hHeld := hHeldN
                                clear hHeldN
                                have HLV := Lib.hid (lv_cells (G := GN bm An) (base := w.heap.size) (b := W18.heap.size) (w := ((W19.setCell ⟨W18.heap.size, 0, none⟩ (.slice A8 rs8.length c8)).setCell ⟨W18.heap.size, 1, none⟩ (.int .i64 d8)).setCell ⟨W18.heap.size, 2, none⟩ (.slice Am8 M8.length cm8)) (s := ⟨A8, c8, rs8, d8, Am8, cm8, M8⟩) (by go_simp) (by go_simp) (by go_simp) (by simp; omega) (fun h => by rcases h with h | h; omega; (have := HAn2.out _ h; omega)) (ms_set HMT.out (by simp) (fun q hq => by rw [Below.heap_setCell _ _ _ q hq, Below.heap_setCell _ _ _ q hq, Below.heap_setCell _ _ _ q hq])))
                                refine doneS HSZ.out (by kernel_rfl) (by kernel_rfl) (NoPanic.normal ?_)
                                go_wp2_with fail
                                go_meet
                                case rel => exact ⟨A8, c8, rs8, d8, Am8, cm8, M8, W18.heap.size, rfl, HST, HLV, HB1⟩
                              · skip
                                go_simp
                                have hbs : Below W17.heap.size W17 (W17.alloc (.cells #[.slice none 0 0, .int .i64 0, .slice none 0 0] 73)) := (Below.refl _ _).alloc (Nat.le_refl _) _
                                have HB1 := Lib.hid (bthen HB.out (Nat.le_refl _) hbs)
                                refine hK.out _ _ ⟨(HB1.out.cell (p := ⟨wr.heap.size, 0, none⟩) hmlt).trans m0, (HB1.out.cell (p := ⟨wr.heap.size, 1, none⟩) hmlt).trans m1, (HB1.out.cell (p := ⟨wp.heap.size, 1, none⟩) hplt).trans y1, (HB1.out.cell (p := ⟨wp.heap.size, 2, none⟩) hplt).trans y2⟩ (fun hHeldN => ?_)
                                clear hK K hHeld
                                try simp only [Act.put, List.setIfInBounds_toArray, List.set_cons_zero, List.set_cons_succ]
                                have hHeld := hHeldN
                                clear hHeldN
                                have HAP7 := Lib.hid (show ∀ b, blk A7 = some b → b ≠ W17.heap.size from fun b e e2 => by have := (HA.out.blk_lt b e).2; omega)
                                have HA' := Lib.hid (HA.out.below hbs)
                                clear HA
                                have HA := HA'
                                clear HA'
                                have HZ := Lib.hid (show (W17.alloc (.cells #[.slice none 0 0, .int .i64 0, .slice none 0 0] 73)).cell? ⟨W17.heap.size, 0, none⟩ = some (.slice none 0 0) ∧ (W17.alloc (.cells #[.slice none 0 0, .int .i64 0, .slice none 0 0] 73)).cell? ⟨W17.heap.size, 1, none⟩ = some (.int .i64 0) ∧ (W17.alloc (.cells #[.slice none 0 0, .int .i64 0, .slice none 0 0] 73)).cell? ⟨W17.heap.size, 2, none⟩ = some (.slice none 0 0) ∧ (∀ j, (W17.alloc (.cells #[.slice none 0 0, .int .i64 0, .slice none 0 0] 73)).frozen? ⟨W17.heap.size, j, none⟩ = false) from ⟨by go_simp, by go_simp, by go_simp, fun j => by go_simp⟩)
                                have HLB : Hid (W17.heap.size < (W17.alloc (.cells #[.slice none 0 0, .int .i64 0, .slice none 0 0] 73)).heap.size) := Lib.hid (by simp)
                                have HWB : Hid (w2.heap.size ≤ W17.heap.size) := Lib.hid HB.out.size
                                clear HB
                                have HB := HB1
                                clear HB1
                                clear hbs
                                generalize W17.alloc (.cells #[.slice none 0 0, .int .i64 0, .slice none 0 0] 73) = W20 at *
                                refine callS (i := 11) HSZ.out (by kernel_rfl) (by kernel_rfl) rfl (fun K hK => ?_)
                                have HMS : Hid (MSok (fun b => GN bm An b ∨ b = W17.heap.size) w.heap.size W20 ⟨A5, c5, os, sd, A7, c7, sM ++ [((i : Int), (m : Int))]⟩) := Lib.hid ⟨((HYO.out.turn (G' := (fun b => GN bm An b ∨ b = W17.heap.size)) (Nat.le_refl _) (fun _ _ _ => rfl) (fun b hb h => h.elim id (fun e => by have := HWB.out; omega))).turn HB.out.size (fun b hb _ => HB.out.block b hb) (fun _ _ h => h)), HA.out.lower hbase, (fun b e h => by have h1 := (HA.out.blk_lt b e).1; rcases h with h | h; (rcases h with h | h; omega; (have := HAn2.out b h; omega)); exact HAP7.out b e h)⟩
                                have HHG : Hid (∀ b, (fun b => GN bm An b ∨ b = W17.heap.size) b → b < W20.heap.size) := Lib.hid (fun b h => by have := HB.out.size; rcases h with h | h; (rcases h with h | h; omega; (have := HAn2.out b h; omega)); (have := HLB.out; omega))
                                go_simp
                                (with_reducible refine (HSET.out (fun b => GN bm An b ∨ b = W17.heap.size) A7 c7 _ HMS.out (Nat.le_trans hbase HB.out.size) HHG.out ((HRO.out.below (HNz2.out.bel.trans (HB.out.mono hbase))).more (Nat.le_trans hbase HB.out.size))).mono ?_)
                                rintro e W21 ⟨A8, c8, rs8, d8, Am8, cm8, M8, rfl, hst8, hok8, hbs⟩
                                have HB1 := Lib.hid (bthen HB.out (Nat.le_refl _) hbs)
                                refine hK.out _ _ ⟨(HB1.out.cell (p := ⟨wr.heap.size, 0, none⟩) hmlt).trans m0, (HB1.out.cell (p := ⟨wr.heap.size, 1, none⟩) hmlt).trans m1, (HB1.out.cell (p := ⟨wp.heap.size, 1, none⟩) hplt).trans y1, (HB1.out.cell (p := ⟨wp.heap.size, 2, none⟩) hplt).trans y2⟩ (fun hHeldN => ?_)
                                clear hK K hHeld
                                try simp only [Act.put, List.setIfInBounds_toArray, List.set_cons_zero, List.set_cons_succ]
                                have hHeld := hHeldN
                                clear hHeldN
                                have HA' := Lib.hid (HA.out.below hbs)
                                clear HA
                                have HA := HA'
                                clear HA'
                                have HZ' := Lib.hid (show _ ∧ _ ∧ _ ∧ _ from ⟨(hbs.cell (p := ⟨W17.heap.size, 0, none⟩) HLB.out).trans HZ.out.1, (hbs.cell (p := ⟨W17.heap.size, 1, none⟩) HLB.out).trans HZ.out.2.1, (hbs.cell (p := ⟨W17.heap.size, 2, none⟩) HLB.out).trans HZ.out.2.2.1, fun j => (hbs.frozen (p := ⟨W17.heap.size, j, none⟩) HLB.out).trans (HZ.out.2.2.2 j)⟩)
                                have HLB' := Lib.hid (Nat.lt_of_lt_of_le HLB.out hbs.size)
                                clear HZ HLB
                                have HZ := HZ'
                                have HLB := HLB'
                                clear HZ' HLB'
                                have HMT := Lib.hid hok8
                                have HST := Lib.hid hst8
                                clear HA HMS HHG hok8 hst8
                                clear HB
                                have HB := HB1
                                clear HB1
                                clear hbs
                                refine callS (i := 13) HSZ.out (by kernel_rfl) (by kernel_rfl) rfl (fun K hK => ?_)
                                obtain ⟨z0, z1, z2, zf⟩ := HZ.out
                                have hwb := HWB.out
                                have hlb := HLB.out
                                have HB1 := Lib.hid (((HB.out.setCell (p := ⟨W17.heap.size, 0, none⟩) hwb (.slice A8 rs8.length c8)).setCell (p := ⟨W17.heap.size, 1, none⟩) hwb (.int .i64 d8)).setCell (p := ⟨W17.heap.size, 2, none⟩) hwb (.slice Am8 M8.length cm8))
                                go_simp
                                refine hK.out _ _ ⟨(HB1.out.cell (p := ⟨wr.heap.size, 0, none⟩) hmlt).trans m0, (HB1.out.cell (p := ⟨wr.heap.size, 1, none⟩) hmlt).trans m1, (HB1.out.cell (p := ⟨wp.heap.size, 1, none⟩) hplt).trans y1, (HB1.out.cell (p := ⟨wp.heap.size, 2, none⟩) hplt).trans y2⟩ (fun hHeldN => ?_)
                                clear hK K hHeld
                                try simp only [Act.put, List.setIfInBounds_toArray, List.set_cons_zero, List.set_cons_succ]
                                have hHeld := hHeldN
                                clear hHeldN
                                have HLV := Lib.hid (lv_cells (G := GN bm An) (base := w.heap.size) (b := W17.heap.size) (w := ((W21.setCell ⟨W17.heap.size, 0, none⟩ (.slice A8 rs8.length c8)).setCell ⟨W17.heap.size, 1, none⟩ (.int .i64 d8)).setCell ⟨W17.heap.size, 2, none⟩ (.slice Am8 M8.length cm8)) (s := ⟨A8, c8, rs8, d8, Am8, cm8, M8⟩) (by go_simp) (by go_simp) (by go_simp) (by simp; omega) (fun h => by rcases h with h | h; omega; (have := HAn2.out _ h; omega)) (ms_set HMT.out (by simp) (fun q hq => by rw [Below.heap_setCell _ _ _ q hq, Below.heap_setCell _ _ _ q hq, Below.heap_setCell _ _ _ q hq])))
                                refine doneS HSZ.out (by kernel_rfl) (by kernel_rfl) (NoPanic.normal ?_)
                                go_wp2_with fail
                                go_meet
                                case rel => exact ⟨A8, c8, rs8, d8, Am8, cm8, M8, W17.heap.size, rfl, HST, HLV, HB1⟩
                            · skip
                              go_simp
                              have hbs : Below W16.heap.size W16 (W16.alloc (.cells #[.slice none 0 0, .int .i64 0, .slice none 0 0] 73)) := (Below.refl _ _).alloc (Nat.le_refl _) _
                              have HB1 := Lib.hid (bthen HB.out (Nat.le_refl _) hbs)
                              refine hK.out _ _ ⟨(HB1.out.cell (p := ⟨wr.heap.size, 0, none⟩) hmlt).trans m0, (HB1.out.cell (p := ⟨wr.heap.size, 1, none⟩) hmlt).trans m1, (HB1.out.cell (p := ⟨wp.heap.size, 1, none⟩) hplt).trans y1, (HB1.out.cell (p := ⟨wp.heap.size, 2, none⟩) hplt).trans y2⟩ (fun hHeldN => ?_)
                              clear hK K hHeld
                              try simp only [Act.put, List.setIfInBounds_toArray, List.set_cons_zero, List.set_cons_succ]
                              have hHeld := hHeldN
                              clear hHeldN
                              have HAP := Lib.hid (show ∀ b, blk A4 = some b → b ≠ W16.heap.size from fun b e e2 => by have := (HC.out.blk_lt b e).2; omega)
                              have HC9' := Lib.hid (fun j v hv => (hbs.cell (p := ⟨W0.heap.size, j, none⟩) HL9.out).trans (HC9.out j v hv))
                              have HL9' := Lib.hid (Nat.lt_of_lt_of_le HL9.out hbs.size)
                              clear HC9 HL9
                              have HC9 := HC9'
                              have HL9 := HL9'
                              clear HC9' HL9'
                              have HC' := Lib.hid (HC.out.below hbs)
                              clear HC
                              have HC := HC'
                              clear HC'
                              have HZ := Lib.hid (show (W16.alloc (.cells #[.slice none 0 0, .int .i64 0, .slice none 0 0] 73)).cell? ⟨W16.heap.size, 0, none⟩ = some (.slice none 0 0) ∧ (W16.alloc (.cells #[.slice none 0 0, .int .i64 0, .slice none 0 0] 73)).cell? ⟨W16.heap.size, 1, none⟩ = some (.int .i64 0) ∧ (W16.alloc (.cells #[.slice none 0 0, .int .i64 0, .slice none 0 0] 73)).cell? ⟨W16.heap.size, 2, none⟩ = some (.slice none 0 0) ∧ (∀ j, (W16.alloc (.cells #[.slice none 0 0, .int .i64 0, .slice none 0 0] 73)).frozen? ⟨W16.heap.size, j, none⟩ = false) from ⟨by go_simp, by go_simp, by go_simp, fun j => by go_simp⟩)
                              have HLB : Hid (W16.heap.size < (W16.alloc (.cells #[.slice none 0 0, .int .i64 0, .slice none 0 0] 73)).heap.size) := Lib.hid (by simp)
                              have HWB : Hid (w2.heap.size ≤ W16.heap.size) := Lib.hid HB.out.size
                              clear HB
                              have HB := HB1
                              clear HB1
                              clear hbs
                              generalize W16.alloc (.cells #[.slice none 0 0, .int .i64 0, .slice none 0 0] 73) = W22 at *
                              refine callS (i := 8) HSZ.out (by kernel_rfl) (by kernel_rfl) rfl (fun K hK => ?_)
                              refine stepL_app1 (L := LMove) rowMv rfl rfl _ _ rfl rfl HC.out ((i : Int), (m : Int)) rfl HC9.out (by unfold maxLen; omega) (by omega) HB.out.size ?_
                              intro A7 c7 W23 ho7 hg7
                              have HB1 := Lib.hid (Grew.below HB.out hg7 HB.out.size (fun b e => (HC.out.blk_lt b e).1))
                              refine hK.out _ _ ⟨(HB1.out.cell (p := ⟨wr.heap.size, 0, none⟩) hmlt).trans m0, (HB1.out.cell (p := ⟨wr.heap.size, 1, none⟩) hmlt).trans m1, (HB1.out.cell (p := ⟨wp.heap.size, 1, none⟩) hplt).trans y1, (HB1.out.cell (p := ⟨wp.heap.size, 2, none⟩) hplt).trans y2⟩ (fun hHeldN => ?_)
                              clear hK K hHeld
                              try simp only [Act.put, List.setIfInBounds_toArray, List.set_cons_zero, List.set_cons_succ]
                              have hHeld := hHeldN
                              clear hHeldN
                              have HA := Lib.hid ho7
                              have HZ' := Lib.hid (show _ ∧ _ ∧ _ ∧ _ from ⟨(hg7.cell ⟨W16.heap.size, 0, none⟩ HLB.out (fun e => HAP.out _ e rfl)).trans HZ.out.1, (hg7.cell ⟨W16.heap.size, 1, none⟩ HLB.out (fun e => HAP.out _ e rfl)).trans HZ.out.2.1, (hg7.cell ⟨W16.heap.size, 2, none⟩ HLB.out (fun e => HAP.out _ e rfl)).trans HZ.out.2.2.1, fun j => (hg7.frozen ⟨W16.heap.size, j, none⟩ HLB.out (fun e => HAP.out _ e rfl)).trans (HZ.out.2.2.2 j)⟩)
                              have HLB' := Lib.hid (Nat.lt_of_lt_of_le HLB.out hg7.size)
                              have HAP7 := Lib.hid (show ∀ b, blk A7 = some b → b ≠ W16.heap.size from fun b e e2 => by rcases hg7.place with hp | hp; exact HAP.out b (hp ▸ e) e2; (have := hp b e; have := HLB.out; omega))
                              clear HZ HLB HAP
                              have HZ := HZ'
                              have HLB := HLB'
                              clear HZ' HLB'
                              clear HC HC9 HL9
                              clear HB
                              have HB := HB1
                              clear HB1
                              clear ho7 hg7
                              focus
                                refine takeS (i := 9) (v := ?_) HFR.out HNS.out HSZ.out HQP.out rfl (by kernel_rfl) (by kernel_rfl) (by decide) (by kernel_rfl) (Or.inl ⟨by rfl, ?_⟩) hHeld rfl (by dsimp only [List.set_cons_succ, List.set_cons_zero]) ?_
                                rotate_left
                                · intro w hSw; clear hSw; go_simp; (try with_reducible rfl)
                              refine callS (i := 11) HSZ.out (by kernel_rfl) (by kernel_rfl) rfl (fun K hK => ?_)
                              have HMS : Hid (MSok (fun b => GN bm An b ∨ b = W16.heap.size) w.heap.size W23 ⟨A5, c5, os, sd, A7, c7, sM ++ [((i : Int), (m : Int))]⟩) := Lib.hid ⟨((HYO.out.turn (G' := (fun b => GN bm An b ∨ b = W16.heap.size)) (Nat.le_refl _) (fun _ _ _ => rfl) (fun b hb h => h.elim id (fun e => by have := HWB.out; omega))).turn HB.out.size (fun b hb _ => HB.out.block b hb) (fun _ _ h => h)), HA.out.lower hbase, (fun b e h => by have h1 := (HA.out.blk_lt b e).1; rcases h with h | h; (rcases h with h | h; omega; (have := HAn2.out b h; omega)); exact HAP7.out b e h)⟩
                              have HHG : Hid (∀ b, (fun b => GN bm An b ∨ b = W16.heap.size) b → b < W23.heap.size) := Lib.hid (fun b h => by have := HB.out.size; rcases h with h | h; (rcases h with h | h; omega; (have := HAn2.out b h; omega)); (have := HLB.out; omega))
                              go_simp
                              (with_reducible refine (HSET.out (fun b => GN bm An b ∨ b = W16.heap.size) A7 c7 _ HMS.out (Nat.le_trans hbase HB.out.size) HHG.out ((HRO.out.below (HNz2.out.bel.trans (HB.out.mono hbase))).more (Nat.le_trans hbase HB.out.size))).mono ?_)
                              rintro e W24 ⟨A8, c8, rs8, d8, Am8, cm8, M8, rfl, hst8, hok8, hbs⟩
                              have HB1 := Lib.hid (bthen HB.out (Nat.le_refl _) hbs)
                              refine hK.out _ _ ⟨(HB1.out.cell (p := ⟨wr.heap.size, 0, none⟩) hmlt).trans m0, (HB1.out.cell (p := ⟨wr.heap.size, 1, none⟩) hmlt).trans m1, (HB1.out.cell (p := ⟨wp.heap.size, 1, none⟩) hplt).trans y1, (HB1.out.cell (p := ⟨wp.heap.size, 2, none⟩) hplt).trans y2⟩ (fun hHeldN => ?_)
                              clear hK K hHeld
                              try simp only [Act.put, List.setIfInBounds_toArray, List.set_cons_zero, List.set_cons_succ]
                              have hHeld := hHeldN
                              clear hHeldN
                              have HA' := Lib.hid (HA.out.below hbs)
                              clear HA
                              have HA := HA'
                              clear HA'
                              have HZ' := Lib.hid (show _ ∧ _ ∧ _ ∧ _ from ⟨(hbs.cell (p := ⟨W16.heap.size, 0, none⟩) HLB.out).trans HZ.out.1, (hbs.cell (p := ⟨W16.heap.size, 1, none⟩) HLB.out).trans HZ.out.2.1, (hbs.cell (p := ⟨W16.heap.size, 2, none⟩) HLB.out).trans HZ.out.2.2.1, fun j => (hbs.frozen (p := ⟨W16.heap.size, j, none⟩) HLB.out).trans (HZ.out.2.2.2 j)⟩)
                              have HLB' := Lib.hid (Nat.lt_of_lt_of_le HLB.out hbs.size)
                              clear HZ HLB
                              have HZ := HZ'
                              have HLB := HLB'
                              clear HZ' HLB'
                              have HMT := Lib.hid hok8
                              have HST := Lib.hid hst8
                              clear HA HMS HHG hok8 hst8
                              clear HB
                              have HB := HB1
                              clear HB1
                              clear hbs
                              refine callS (i := 13) HSZ.out (by kernel_rfl) (by kernel_rfl) rfl (fun K hK => ?_)
                              obtain ⟨z0, z1, z2, zf⟩ := HZ.out
                              have hwb := HWB.out
                              have hlb := HLB.out
                              have HB1 := Lib.hid (((HB.out.setCell (p := ⟨W16.heap.size, 0, none⟩) hwb (.slice A8 rs8.length c8)).setCell (p := ⟨W16.heap.size, 1, none⟩) hwb (.int .i64 d8)).setCell (p := ⟨W16.heap.size, 2, none⟩) hwb (.slice Am8 M8.length cm8))
                              go_simp
                              refine hK.out _ _ ⟨(HB1.out.cell (p := ⟨wr.heap.size, 0, none⟩) hmlt).trans m0, (HB1.out.cell (p := ⟨wr.heap.size, 1, none⟩) hmlt).trans m1, (HB1.out.cell (p := ⟨wp.heap.size, 1, none⟩) hplt).trans y1, (HB1.out.cell (p := ⟨wp.heap.size, 2, none⟩) hplt).trans y2⟩ (fun hHeldN => ?_)
                              clear hK K hHeld
                              try simp only [Act.put, List.setIfInBounds_toArray, List.set_cons_zero, List.set_cons_succ]
                              have hHeld := hHeldN
                              clear hHeldN
                              have HLV := Lib.hid (lv_cells (G := GN bm An) (base := w.heap.size) (b := W16.heap.size) (w := ((W24.setCell ⟨W16.heap.size, 0, none⟩ (.slice A8 rs8.length c8)).setCell ⟨W16.heap.size, 1, none⟩ (.int .i64 d8)).setCell ⟨W16.heap.size, 2, none⟩ (.slice Am8 M8.length cm8)) (s := ⟨A8, c8, rs8, d8, Am8, cm8, M8⟩) (by go_simp) (by go_simp) (by go_simp) (by simp; omega) (fun h => by rcases h with h | h; omega; (have := HAn2.out _ h; omega)) (ms_set HMT.out (by simp) (fun q hq => by rw [Below.heap_setCell _ _ _ q hq, Below.heap_setCell _ _ _ q hq, Below.heap_setCell _ _ _ q hq])))
                              refine doneS HSZ.out (by kernel_rfl) (by kernel_rfl) (NoPanic.normal ?_)
                              go_wp2_with fail
                              go_meet
                              case rel => exact ⟨A8, c8, rs8, d8, Am8, cm8, M8, W16.heap.size, rfl, HST, HLV, HB1⟩
                          · skip
                            go_simp
                            have hbs : Below W15.heap.size W15 (W15.alloc (.cells #[.slice none 0 0, .int .i64 0, .slice none 0 0] 73)) := (Below.refl _ _).alloc (Nat.le_refl _) _
                            have HB1 := Lib.hid (bthen HB.out (Nat.le_refl _) hbs)
                            refine hK.out _ _ ⟨(HB1.out.cell (p := ⟨wr.heap.size, 0, none⟩) hmlt).trans m0, (HB1.out.cell (p := ⟨wr.heap.size, 1, none⟩) hmlt).trans m1, (HB1.out.cell (p := ⟨wp.heap.size, 1, none⟩) hplt).trans y1, (HB1.out.cell (p := ⟨wp.heap.size, 2, none⟩) hplt).trans y2⟩ (fun hHeldN => ?_)
                            clear hK K hHeld
                            try simp only [Act.put, List.setIfInBounds_toArray, List.set_cons_zero, List.set_cons_succ]
                            have hHeld := hHeldN
                            clear hHeldN
                            have HC9' := Lib.hid (fun j v hv => (hbs.cell (p := ⟨W0.heap.size, j, none⟩) HL9.out).trans (HC9.out j v hv))
                            have HL9' := Lib.hid (Nat.lt_of_lt_of_le HL9.out hbs.size)
                            clear HC9 HL9
                            have HC9 := HC9'
                            have HL9 := HL9'
                            clear HC9' HL9'
                            have HZ := Lib.hid (show (W15.alloc (.cells #[.slice none 0 0, .int .i64 0, .slice none 0 0] 73)).cell? ⟨W15.heap.size, 0, none⟩ = some (.slice none 0 0) ∧ (W15.alloc (.cells #[.slice none 0 0, .int .i64 0, .slice none 0 0] 73)).cell? ⟨W15.heap.size, 1, none⟩ = some (.int .i64 0) ∧ (W15.alloc (.cells #[.slice none 0 0, .int .i64 0, .slice none 0 0] 73)).cell? ⟨W15.heap.size, 2, none⟩ = some (.slice none 0 0) ∧ (∀ j, (W15.alloc (.cells #[.slice none 0 0, .int .i64 0, .slice none 0 0] 73)).frozen? ⟨W15.heap.size, j, none⟩ = false) from ⟨by go_simp, by go_simp, by go_simp, fun j => by go_simp⟩)
                            have HLB : Hid (W15.heap.size < (W15.alloc (.cells #[.slice none 0 0, .int .i64 0, .slice none 0 0] 73)).heap.size) := Lib.hid (by simp)
                            have HWB : Hid (w2.heap.size ≤ W15.heap.size) := Lib.hid HB.out.size
                            clear HB
                            have HB := HB1
                            clear HB1
                            clear hbs
                            generalize W15.alloc (.cells #[.slice none 0 0, .int .i64 0, .slice none 0 0] 73) = W25 at *
                            refine callS (i := 5) HSZ.out (by kernel_rfl) (by kernel_rfl) rfl (fun K hK => ?_)
                            go_simp
                            (with_reducible refine (HCL.out _ (HRM.out.below HB.out) HB.out.size).mono ?_)
                            rintro e W26 ⟨A4, c4, rfl, ho4, hbs⟩
                            have HB1 := Lib.hid (bthen HB.out (Nat.le_refl _) hbs)
                            refine hK.out _ _ ⟨(HB1.out.cell (p := ⟨wr.heap.size, 0, none⟩) hmlt).trans m0, (HB1.out.cell (p := ⟨wr.heap.size, 1, none⟩) hmlt).trans m1, (HB1.out.cell (p := ⟨wp.heap.size, 1, none⟩) hplt).trans y1, (HB1.out.cell (p := ⟨wp.heap.size, 2, none⟩) hplt).trans y2⟩ (fun hHeldN => ?_)
                            clear hK K hHeld
                            try simp only [Act.put, List.setIfInBounds_toArray, List.set_cons_zero, List.set_cons_succ]
                            have hHeld := hHeldN
                            clear hHeldN
                            have HC9' := Lib.hid (fun j v hv => (hbs.cell (p := ⟨W0.heap.size, j, none⟩) HL9.out).trans (HC9.out j v hv))
                            have HL9' := Lib.hid (Nat.lt_of_lt_of_le HL9.out hbs.size)
                            clear HC9 HL9
                            have HC9 := HC9'
                            have HL9 := HL9'
                            clear HC9' HL9'
                            have HLB0 := HLB
                            have HZ' := Lib.hid (show _ ∧ _ ∧ _ ∧ _ from ⟨(hbs.cell (p := ⟨W15.heap.size, 0, none⟩) HLB.out).trans HZ.out.1, (hbs.cell (p := ⟨W15.heap.size, 1, none⟩) HLB.out).trans HZ.out.2.1, (hbs.cell (p := ⟨W15.heap.size, 2, none⟩) HLB.out).trans HZ.out.2.2.1, fun j => (hbs.frozen (p := ⟨W15.heap.size, j, none⟩) HLB.out).trans (HZ.out.2.2.2 j)⟩)
                            have HLB' := Lib.hid (Nat.lt_of_lt_of_le HLB.out hbs.size)
                            clear HZ HLB
                            have HZ := HZ'
                            have HLB := HLB'
                            clear HZ' HLB'
                            have HAP := Lib.hid (show ∀ b, blk A4 = some b → b ≠ W15.heap.size from fun b e e2 => by have := (ho4.blk_lt b e).1; have := HLB0.out; omega)
                            have HC := Lib.hid (ho4.lower HB.out.size)
                            clear HB
                            have HB := HB1
                            clear HB1
                            clear hbs ho4
                            clear HLB0
                            refine callS (i := 8) HSZ.out (by kernel_rfl) (by kernel_rfl) rfl (fun K hK => ?_)
                            refine stepL_app1 (L := LMove) rowMv rfl rfl _ _ rfl rfl HC.out ((i : Int), (m : Int)) rfl HC9.out (by unfold maxLen; omega) (by omega) HB.out.size ?_
                            intro A7 c7 W27 ho7 hg7
                            have HB1 := Lib.hid (Grew.below HB.out hg7 HB.out.size (fun b e => (HC.out.blk_lt b e).1))
                            refine hK.out _ _ ⟨(HB1.out.cell (p := ⟨wr.heap.size, 0, none⟩) hmlt).trans m0, (HB1.out.cell (p := ⟨wr.heap.size, 1, none⟩) hmlt).trans m1, (HB1.out.cell (p := ⟨wp.heap.size, 1, none⟩) hplt).trans y1, (HB1.out.cell (p := ⟨wp.heap.size, 2, none⟩) hplt).trans y2⟩ (fun hHeldN => ?_)
                            clear hK K hHeld
                            try simp only [Act.put, List.setIfInBounds_toArray, List.set_cons_zero, List.set_cons_succ]
                            have hHeld := hHeldN
                            clear hHeldN
                            have HA := Lib.hid ho7
                            have HZ' := Lib.hid (show _ ∧ _ ∧ _ ∧ _ from ⟨(hg7.cell ⟨W15.heap.size, 0, none⟩ HLB.out (fun e => HAP.out _ e rfl)).trans HZ.out.1, (hg7.cell ⟨W15.heap.size, 1, none⟩ HLB.out (fun e => HAP.out _ e rfl)).trans HZ.out.2.1, (hg7.cell ⟨W15.heap.size, 2, none⟩ HLB.out (fun e => HAP.out _ e rfl)).trans HZ.out.2.2.1, fun j => (hg7.frozen ⟨W15.heap.size, j, none⟩ HLB.out (fun e => HAP.out _ e rfl)).trans (HZ.out.2.2.2 j)⟩)
                            have HLB' := Lib.hid (Nat.lt_of_lt_of_le HLB.out hg7.size)
                            have HAP7 := Lib.hid (show ∀ b, blk A7 = some b → b ≠ W15.heap.size from fun b e e2 => by rcases hg7.place with hp | hp; exact HAP.out b (hp ▸ e) e2; (have := hp b e; have := HLB.out; omega))
                            clear HZ HLB HAP
                            have HZ := HZ'
                            have HLB := HLB'
                            clear HZ' HLB'
                            clear HC HC9 HL9
                            clear HB
                            have HB := HB1
                            clear HB1
                            clear ho7 hg7
                            focus
                              refine takeS (i := 9) (v := ?_) HFR.out HNS.out HSZ.out HQP.out rfl (by kernel_rfl) (by kernel_rfl) (by decide) (by kernel_rfl) (Or.inl ⟨by rfl, ?_⟩) hHeld rfl (by dsimp only [List.set_cons_succ, List.set_cons_zero]) ?_
                              rotate_left
                              · intro w hSw; clear hSw; go_simp; (try with_reducible rfl)
                            refine callS (i := 11) HSZ.out (by kernel_rfl) (by kernel_rfl) rfl (fun K hK => ?_)
                            have HMS : Hid (MSok (fun b => GN bm An b ∨ b = W15.heap.size) w.heap.size W27 ⟨A5, c5, os, sd, A7, c7, sM ++ [((i : Int), (m : Int))]⟩) := Lib.hid ⟨((HYO.out.turn (G' := (fun b => GN bm An b ∨ b = W15.heap.size)) (Nat.le_refl _) (fun _ _ _ => rfl) (fun b hb h => h.elim id (fun e => by have := HWB.out; omega))).turn HB.out.size (fun b hb _ => HB.out.block b hb) (fun _ _ h => h)), HA.out.lower hbase, (fun b e h => by have h1 := (HA.out.blk_lt b e).1; rcases h with h | h; (rcases h with h | h; omega; (have := HAn2.out b h; omega)); exact HAP7.out b e h)⟩
                            have HHG : Hid (∀ b, (fun b => GN bm An b ∨ b = W15.heap.size) b → b < W27.heap.size) := Lib.hid (fun b h => by have := HB.out.size; rcases h with h | h; (rcases h with h | h; omega; (have := HAn2.out b h; omega)); (have := HLB.out; omega))
                            go_simp
                            (with_reducible refine (HSET.out (fun b => GN bm An b ∨ b = W15.heap.size) A7 c7 _ HMS.out (Nat.le_trans hbase HB.out.size) HHG.out ((HRO.out.below (HNz2.out.bel.trans (HB.out.mono hbase))).more (Nat.le_trans hbase HB.out.size))).mono ?_)
                            rintro e W28 ⟨A8, c8, rs8, d8, Am8, cm8, M8, rfl, hst8, hok8, hbs⟩
                            have HB1 := Lib.hid (bthen HB.out (Nat.le_refl _) hbs)
                            refine hK.out _ _ ⟨(HB1.out.cell (p := ⟨wr.heap.size, 0, none⟩) hmlt).trans m0, (HB1.out.cell (p := ⟨wr.heap.size, 1, none⟩) hmlt).trans m1, (HB1.out.cell (p := ⟨wp.heap.size, 1, none⟩) hplt).trans y1, (HB1.out.cell (p := ⟨wp.heap.size, 2, none⟩) hplt).trans y2⟩ (fun hHeldN => ?_)
                            clear hK K hHeld
                            try simp only [Act.put, List.setIfInBounds_toArray, List.set_cons_zero, List.set_cons_succ]
                            have hHeld := hHeldN
                            clear hHeldN
                            have HA' := Lib.hid (HA.out.below hbs)
                            clear HA
                            have HA := HA'
                            clear HA'
                            have HZ' := Lib.hid (show _ ∧ _ ∧ _ ∧ _ from ⟨(hbs.cell (p := ⟨W15.heap.size, 0, none⟩) HLB.out).trans HZ.out.1, (hbs.cell (p := ⟨W15.heap.size, 1, none⟩) HLB.out).trans HZ.out.2.1, (hbs.cell (p := ⟨W15.heap.size, 2, none⟩) HLB.out).trans HZ.out.2.2.1, fun j => (hbs.frozen (p := ⟨W15.heap.size, j, none⟩) HLB.out).trans (HZ.out.2.2.2 j)⟩)
                            have HLB' := Lib.hid (Nat.lt_of_lt_of_le HLB.out hbs.size)
                            clear HZ HLB
                            have HZ := HZ'
                            have HLB := HLB'
                            clear HZ' HLB'
                            have HMT := Lib.hid hok8
                            have HST := Lib.hid hst8
                            clear HA HMS HHG hok8 hst8
                            clear HB
                            have HB := HB1
                            clear HB1
                            clear hbs
                            refine callS (i := 13) HSZ.out (by kernel_rfl) (by kernel_rfl) rfl (fun K hK => ?_)
                            obtain ⟨z0, z1, z2, zf⟩ := HZ.out
                            have hwb := HWB.out
                            have hlb := HLB.out
                            have HB1 := Lib.hid (((HB.out.setCell (p := ⟨W15.heap.size, 0, none⟩) hwb (.slice A8 rs8.length c8)).setCell (p := ⟨W15.heap.size, 1, none⟩) hwb (.int .i64 d8)).setCell (p := ⟨W15.heap.size, 2, none⟩) hwb (.slice Am8 M8.length cm8))
                            go_simp
                            refine hK.out _ _ ⟨(HB1.out.cell (p := ⟨wr.heap.size, 0, none⟩) hmlt).trans m0, (HB1.out.cell (p := ⟨wr.heap.size, 1, none⟩) hmlt).trans m1, (HB1.out.cell (p := ⟨wp.heap.size, 1, none⟩) hplt).trans y1, (HB1.out.cell (p := ⟨wp.heap.size, 2, none⟩) hplt).trans y2⟩ (fun hHeldN => ?_)
                            clear hK K hHeld
                            try simp only [Act.put, List.setIfInBounds_toArray, List.set_cons_zero, List.set_cons_succ]
                            have hHeld := hHeldN
                            clear hHeldN
                            have HLV := Lib.hid (lv_cells (G := GN bm An) (base := w.heap.size) (b := W15.heap.size) (w := ((W28.setCell ⟨W15.heap.size, 0, none⟩ (.slice A8 rs8.length c8)).setCell ⟨W15.heap.size, 1, none⟩ (.int .i64 d8)).setCell ⟨W15.heap.size, 2, none⟩ (.slice Am8 M8.length cm8)) (s := ⟨A8, c8, rs8, d8, Am8, cm8, M8⟩) (by go_simp) (by go_simp) (by go_simp) (by simp; omega) (fun h => by rcases h with h | h; omega; (have := HAn2.out _ h; omega)) (ms_set HMT.out (by simp) (fun q hq => by rw [Below.heap_setCell _ _ _ q hq, Below.heap_setCell _ _ _ q hq, Below.heap_setCell _ _ _ q hq])))
                            refine doneS HSZ.out (by kernel_rfl) (by kernel_rfl) (NoPanic.normal ?_)
                            go_wp2_with fail
                            go_meet
                            case rel => exact ⟨A8, c8, rs8, d8, Am8, cm8, M8, W15.heap.size, rfl, HST, HLV, HB1⟩
                        · skip
                          go_simp
                          have hbs : Below W0.heap.size W0 (W0.alloc (.cells #[.slice none 0 0, .int .i64 0, .slice none 0 0] 73)) := (Below.refl _ _).alloc (Nat.le_refl _) _
                          have HB1 := Lib.hid (bthen HB.out (Nat.le_refl _) hbs)
                          refine hK.out _ _ ⟨(HB1.out.cell (p := ⟨wr.heap.size, 0, none⟩) hmlt).trans m0, (HB1.out.cell (p := ⟨wr.heap.size, 1, none⟩) hmlt).trans m1, (HB1.out.cell (p := ⟨wp.heap.size, 1, none⟩) hplt).trans y1, (HB1.out.cell (p := ⟨wp.heap.size, 2, none⟩) hplt).trans y2⟩ (fun hHeldN => ?_)
                          clear hK K hHeld
                          try simp only [Act.put, List.setIfInBounds_toArray, List.set_cons_zero, List.set_cons_succ]
                          have hHeld := hHeldN
                          clear hHeldN
                          have HZ := Lib.hid (show (W0.alloc (.cells #[.slice none 0 0, .int .i64 0, .slice none 0 0] 73)).cell? ⟨W0.heap.size, 0, none⟩ = some (.slice none 0 0) ∧ (W0.alloc (.cells #[.slice none 0 0, .int .i64 0, .slice none 0 0] 73)).cell? ⟨W0.heap.size, 1, none⟩ = some (.int .i64 0) ∧ (W0.alloc (.cells #[.slice none 0 0, .int .i64 0, .slice none 0 0] 73)).cell? ⟨W0.heap.size, 2, none⟩ = some (.slice none 0 0) ∧ (∀ j, (W0.alloc (.cells #[.slice none 0 0, .int .i64 0, .slice none 0 0] 73)).frozen? ⟨W0.heap.size, j, none⟩ = false) from ⟨by go_simp, by go_simp, by go_simp, fun j => by go_simp⟩)
                          have HLB : Hid (W0.heap.size < (W0.alloc (.cells #[.slice none 0 0, .int .i64 0, .slice none 0 0] 73)).heap.size) := Lib.hid (by simp)
                          have HWB : Hid (w2.heap.size ≤ W0.heap.size) := Lib.hid HB.out.size
                          clear HB
                          have HB := HB1
                          clear HB1
                          clear hbs
                          generalize W0.alloc (.cells #[.slice none 0 0, .int .i64 0, .slice none 0 0] 73) = W29 at *
                          refine callS2 (i := 5) (j := 7) HSZ.out (by kernel_rfl) (by kernel_rfl) rfl rfl (fun K hK => ?_) (fun K hK => ?_)
                          · skip
                            go_simp
                            (with_reducible refine (HCL.out _ (HRM.out.below HB.out) HB.out.size).mono ?_)
                            rintro e W30 ⟨A4, c4, rfl, ho4, hbs⟩
                            have HB1 := Lib.hid (bthen HB.out (Nat.le_refl _) hbs)
                            refine hK.out _ _ ⟨(HB1.out.cell (p := ⟨wr.heap.size, 0, none⟩) hmlt).trans m0, (HB1.out.cell (p := ⟨wr.heap.size, 1, none⟩) hmlt).trans m1, (HB1.out.cell (p := ⟨wp.heap.size, 1, none⟩) hplt).trans y1, (HB1.out.cell (p := ⟨wp.heap.size, 2, none⟩) hplt).trans y2⟩ (fun hHeldN => ?_)
                            clear hK K hHeld
                            try simp only [Act.put, List.setIfInBounds_toArray, List.set_cons_zero, List.set_cons_succ]
                            have hHeld := hHeldN
                            clear hHeldN
                            have HLB0 := HLB
                            have HZ' := Lib.hid (show _ ∧ _ ∧ _ ∧ _ from ⟨(hbs.cell (p := ⟨W0.heap.size, 0, none⟩) HLB.out).trans HZ.out.1, (hbs.cell (p := ⟨W0.heap.size, 1, none⟩) HLB.out).trans HZ.out.2.1, (hbs.cell (p := ⟨W0.heap.size, 2, none⟩) HLB.out).trans HZ.out.2.2.1, fun j => (hbs.frozen (p := ⟨W0.heap.size, j, none⟩) HLB.out).trans (HZ.out.2.2.2 j)⟩)
                            have HLB' := Lib.hid (Nat.lt_of_lt_of_le HLB.out hbs.size)
                            clear HZ HLB
                            have HZ := HZ'
                            have HLB := HLB'
                            clear HZ' HLB'
                            have HAP := Lib.hid (show ∀ b, blk A4 = some b → b ≠ W0.heap.size from fun b e e2 => by have := (ho4.blk_lt b e).1; have := HLB0.out; omega)
                            have HC := Lib.hid (ho4.lower HB.out.size)
                            clear HB
                            have HB := HB1
                            clear HB1
                            clear hbs ho4
                            clear HLB0
                            refine callS (i := 7) HSZ.out (by kernel_rfl) (by kernel_rfl) rfl (fun K hK => ?_)
                            go_simp
                            have hbs : Below W30.heap.size W30 (W30.alloc (.cells #[.int .i64 i, .int .i64 m] 45)) := (Below.refl _ _).alloc (Nat.le_refl _) _
                            have HB1 := Lib.hid (bthen HB.out (Nat.le_refl _) hbs)
                            refine hK.out _ _ ⟨(HB1.out.cell (p := ⟨wr.heap.size, 0, none⟩) hmlt).trans m0, (HB1.out.cell (p := ⟨wr.heap.size, 1, none⟩) hmlt).trans m1, (HB1.out.cell (p := ⟨wp.heap.size, 1, none⟩) hplt).trans y1, (HB1.out.cell (p := ⟨wp.heap.size, 2, none⟩) hplt).trans y2⟩ (fun hHeldN => ?_)
                            clear hK K hHeld
                            try simp only [Act.put, List.setIfInBounds_toArray, List.set_cons_zero, List.set_cons_succ]
                            have hHeld := hHeldN
                            clear hHeldN
                            have HC' := Lib.hid (HC.out.below hbs)
                            clear HC
                            have HC := HC'
                            clear HC'
                            have HZ' := Lib.hid (show _ ∧ _ ∧ _ ∧ _ from ⟨(hbs.cell (p := ⟨W0.heap.size, 0, none⟩) HLB.out).trans HZ.out.1, (hbs.cell (p := ⟨W0.heap.size, 1, none⟩) HLB.out).trans HZ.out.2.1, (hbs.cell (p := ⟨W0.heap.size, 2, none⟩) HLB.out).trans HZ.out.2.2.1, fun j => (hbs.frozen (p := ⟨W0.heap.size, j, none⟩) HLB.out).trans (HZ.out.2.2.2 j)⟩)
                            have HLB' := Lib.hid (Nat.lt_of_lt_of_le HLB.out hbs.size)
                            clear HZ HLB
                            have HZ := HZ'
                            have HLB := HLB'
                            clear HZ' HLB'
                            have HC9 := Lib.hid (show ∀ (j : Nat) (v : Value), (LMove.f ((i : Int), (m : Int)))[j]? = some v → (W30.alloc (.cells #[.int .i64 i, .int .i64 m] 45)).cell? ⟨W30.heap.size, j, none⟩ = some v from fun j v hv => by rw [World.cell?_alloc_at (hn := rfl)]; simpa [LMove] using hv)
                            have HL9 : Hid (W30.heap.size < (W30.alloc (.cells #[.int .i64 i, .int .i64 m] 45)).heap.size) := Lib.hid (by simp)
                            clear HB
                            have HB := HB1
                            clear HB1
                            clear hbs
                            generalize W30.alloc (.cells #[.int .i64 i, .int .i64 m] 45) = W31 at *
                            refine callS (i := 8) HSZ.out (by kernel_rfl) (by kernel_rfl) rfl (fun K hK => ?_)
                            refine stepL_app1 (L := LMove) rowMv rfl rfl _ _ rfl rfl HC.out ((i : Int), (m : Int)) rfl HC9.out (by unfold maxLen; omega) (by omega) HB.out.size ?_
                            intro A7 c7 W32 ho7 hg7
                            have HB1 := Lib.hid (Grew.below HB.out hg7 HB.out.size (fun b e => (HC.out.blk_lt b e).1))
                            refine hK.out _ _ ⟨(HB1.out.cell (p := ⟨wr.heap.size, 0, none⟩) hmlt).trans m0, (HB1.out.cell (p := ⟨wr.heap.size, 1, none⟩) hmlt).trans m1, (HB1.out.cell (p := ⟨wp.heap.size, 1, none⟩) hplt).trans y1, (HB1.out.cell (p := ⟨wp.heap.size, 2, none⟩) hplt).trans y2⟩ (fun hHeldN => ?_)
                            clear hK K hHeld
                            try simp only [Act.put, List.setIfInBounds_toArray, List.set_cons_zero, List.set_cons_succ]
                            have hHeld := hHeldN
                            clear hHeldN
                            have HA := Lib.hid ho7
                            have HZ' := Lib.hid (show _ ∧ _ ∧ _ ∧ _ from ⟨(hg7.cell ⟨W0.heap.size, 0, none⟩ HLB.out (fun e => HAP.out _ e rfl)).trans HZ.out.1, (hg7.cell ⟨W0.heap.size, 1, none⟩ HLB.out (fun e => HAP.out _ e rfl)).trans HZ.out.2.1, (hg7.cell ⟨W0.heap.size, 2, none⟩ HLB.out (fun e => HAP.out _ e rfl)).trans HZ.out.2.2.1, fun j => (hg7.frozen ⟨W0.heap.size, j, none⟩ HLB.out (fun e => HAP.out _ e rfl)).trans (HZ.out.2.2.2 j)⟩)
                            have HLB' := Lib.hid (Nat.lt_of_lt_of_le HLB.out hg7.size)
                            have HAP7 := Lib.hid (show ∀ b, blk A7 = some b → b ≠ W0.heap.size from fun b e e2 => by rcases hg7.place with hp | hp; exact HAP.out b (hp ▸ e) e2; (have := hp b e; have := HLB.out; omega))
                            clear HZ HLB HAP
                            have HZ := HZ'
                            have HLB := HLB'
                            clear HZ' HLB'
                            clear HC HC9 HL9
                            clear HB
                            have HB := HB1
                            clear HB1
                            clear ho7 hg7
                            focus
                              refine takeS (i := 9) (v := ?_) HFR.out HNS.out HSZ.out HQP.out rfl (by kernel_rfl) (by kernel_rfl) (by decide) (by kernel_rfl) (Or.inl ⟨by rfl, ?_⟩) hHeld rfl (by dsimp only [List.set_cons_succ, List.set_cons_zero]) ?_
                              rotate_left
                              · intro w hSw; clear hSw; go_simp; (try with_reducible rfl)
                            refine callS (i := 11) HSZ.out (by kernel_rfl) (by kernel_rfl) rfl (fun K hK => ?_)
                            have HMS : Hid (MSok (fun b => GN bm An b ∨ b = W0.heap.size) w.heap.size W32 ⟨A5, c5, os, sd, A7, c7, sM ++ [((i : Int), (m : Int))]⟩) := Lib.hid ⟨((HYO.out.turn (G' := (fun b => GN bm An b ∨ b = W0.heap.size)) (Nat.le_refl _) (fun _ _ _ => rfl) (fun b hb h => h.elim id (fun e => by have := HWB.out; omega))).turn HB.out.size (fun b hb _ => HB.out.block b hb) (fun _ _ h => h)), HA.out.lower hbase, (fun b e h => by have h1 := (HA.out.blk_lt b e).1; rcases h with h | h; (rcases h with h | h; omega; (have := HAn2.out b h; omega)); exact HAP7.out b e h)⟩
                            have HHG : Hid (∀ b, (fun b => GN bm An b ∨ b = W0.heap.size) b → b < W32.heap.size) := Lib.hid (fun b h => by have := HB.out.size; rcases h with h | h; (rcases h with h | h; omega; (have := HAn2.out b h; omega)); (have := HLB.out; omega))
                            go_simp
                            (with_reducible refine (HSET.out (fun b => GN bm An b ∨ b = W0.heap.size) A7 c7 _ HMS.out (Nat.le_trans hbase HB.out.size) HHG.out ((HRO.out.below (HNz2.out.bel.trans (HB.out.mono hbase))).more (Nat.le_trans hbase HB.out.size))).mono ?_)
                            rintro e W33 ⟨A8, c8, rs8, d8, Am8, cm8, M8, rfl, hst8, hok8, hbs⟩
                            have HB1 := Lib.hid (bthen HB.out (Nat.le_refl _) hbs)
                            refine hK.out _ _ ⟨(HB1.out.cell (p := ⟨wr.heap.size, 0, none⟩) hmlt).trans m0, (HB1.out.cell (p := ⟨wr.heap.size, 1, none⟩) hmlt).trans m1, (HB1.out.cell (p := ⟨wp.heap.size, 1, none⟩) hplt).trans y1, (HB1.out.cell (p := ⟨wp.heap.size, 2, none⟩) hplt).trans y2⟩ (fun hHeldN => ?_)
                            clear hK K hHeld
                            try simp only [Act.put, List.setIfInBounds_toArray, List.set_cons_zero, List.set_cons_succ]
                            have hHeld := hHeldN
                            clear hHeldN
                            have HA' := Lib.hid (HA.out.below hbs)
                            clear HA
                            have HA := HA'
                            clear HA'
                            have HZ' := Lib.hid (show _ ∧ _ ∧ _ ∧ _ from ⟨(hbs.cell (p := ⟨W0.heap.size, 0, none⟩) HLB.out).trans HZ.out.1, (hbs.cell (p := ⟨W0.heap.size, 1, none⟩) HLB.out).trans HZ.out.2.1, (hbs.cell (p := ⟨W0.heap.size, 2, none⟩) HLB.out).trans HZ.out.2.2.1, fun j => (hbs.frozen (p := ⟨W0.heap.size, j, none⟩) HLB.out).trans (HZ.out.2.2.2 j)⟩)
                            have HLB' := Lib.hid (Nat.lt_of_lt_of_le HLB.out hbs.size)
                            clear HZ HLB
                            have HZ := HZ'
                            have HLB := HLB'
                            clear HZ' HLB'
                            have HMT := Lib.hid hok8
                            have HST := Lib.hid hst8
                            clear HA HMS HHG hok8 hst8
                            clear HB
                            have HB := HB1
                            clear HB1
                            clear hbs
                            refine callS (i := 13) HSZ.out (by kernel_rfl) (by kernel_rfl) rfl (fun K hK => ?_)
                            obtain ⟨z0, z1, z2, zf⟩ := HZ.out
                            have hwb := HWB.out
                            have hlb := HLB.out
                            have HB1 := Lib.hid (((HB.out.setCell (p := ⟨W0.heap.size, 0, none⟩) hwb (.slice A8 rs8.length c8)).setCell (p := ⟨W0.heap.size, 1, none⟩) hwb (.int .i64 d8)).setCell (p := ⟨W0.heap.size, 2, none⟩) hwb (.slice Am8 M8.length cm8))
                            go_simp
                            refine hK.out _ _ ⟨(HB1.out.cell (p := ⟨wr.heap.size, 0, none⟩) hmlt).trans m0, (HB1.out.cell (p := ⟨wr.heap.size, 1, none⟩) hmlt).trans m1, (HB1.out.cell (p := ⟨wp.heap.size, 1, none⟩) hplt).trans y1, (HB1.out.cell (p := ⟨wp.heap.size, 2, none⟩) hplt).trans y2⟩ (fun hHeldN => ?_)
                            clear hK K hHeld
                            try simp only [Act.put, List.setIfInBounds_toArray, List.set_cons_zero, List.set_cons_succ]
                            have hHeld := hHeldN
                            clear hHeldN
                            have HLV := Lib.hid (lv_cells (G := GN bm An) (base := w.heap.size) (b := W0.heap.size) (w := ((W33.setCell ⟨W0.heap.size, 0, none⟩ (.slice A8 rs8.length c8)).setCell ⟨W0.heap.size, 1, none⟩ (.int .i64 d8)).setCell ⟨W0.heap.size, 2, none⟩ (.slice Am8 M8.length cm8)) (s := ⟨A8, c8, rs8, d8, Am8, cm8, M8⟩) (by go_simp) (by go_simp) (by go_simp) (by simp; omega) (fun h => by rcases h with h | h; omega; (have := HAn2.out _ h; omega)) (ms_set HMT.out (by simp) (fun q hq => by rw [Below.heap_setCell _ _ _ q hq, Below.heap_setCell _ _ _ q hq, Below.heap_setCell _ _ _ q hq])))
                            refine doneS HSZ.out (by kernel_rfl) (by kernel_rfl) (NoPanic.normal ?_)
                            go_wp2_with fail
                            go_meet
                            case rel => exact ⟨A8, c8, rs8, d8, Am8, cm8, M8, W0.heap.size, rfl, HST, HLV, HB1⟩
                          · skip
                            go_simp
                            have hbs : Below W29.heap.size W29 (W29.alloc (.cells #[.int .i64 i, .int .i64 m] 45)) := (Below.refl _ _).alloc (Nat.le_refl _) _
                            have HB1 := Lib.hid (bthen HB.out (Nat.le_refl _) hbs)
                            refine hK.out _ _ ⟨(HB1.out.cell (p := ⟨wr.heap.size, 0, none⟩) hmlt).trans m0, (HB1.out.cell (p := ⟨wr.heap.size, 1, none⟩) hmlt).trans m1, (HB1.out.cell (p := ⟨wp.heap.size, 1, none⟩) hplt).trans y1, (HB1.out.cell (p := ⟨wp.heap.size, 2, none⟩) hplt).trans y2⟩ (fun hHeldN => ?_)
                            clear hK K hHeld
                            try simp only [Act.put, List.setIfInBounds_toArray, List.set_cons_zero, List.set_cons_succ]
                            have hHeld := hHeldN
                            clear hHeldN
                            have HZ' := Lib.hid (show _ ∧ _ ∧ _ ∧ _ from ⟨(hbs.cell (p := ⟨W0.heap.size, 0, none⟩) HLB.out).trans HZ.out.1, (hbs.cell (p := ⟨W0.heap.size, 1, none⟩) HLB.out).trans HZ.out.2.1, (hbs.cell (p := ⟨W0.heap.size, 2, none⟩) HLB.out).trans HZ.out.2.2.1, fun j => (hbs.frozen (p := ⟨W0.heap.size, j, none⟩) HLB.out).trans (HZ.out.2.2.2 j)⟩)
                            have HLB' := Lib.hid (Nat.lt_of_lt_of_le HLB.out hbs.size)
                            clear HZ HLB
                            have HZ := HZ'
                            have HLB := HLB'
                            clear HZ' HLB'
                            have HC9 := Lib.hid (show ∀ (j : Nat) (v : Value), (LMove.f ((i : Int), (m : Int)))[j]? = some v → (W29.alloc (.cells #[.int .i64 i, .int .i64 m] 45)).cell? ⟨W29.heap.size, j, none⟩ = some v from fun j v hv => by rw [World.cell?_alloc_at (hn := rfl)]; simpa [LMove] using hv)
                            have HL9 : Hid (W29.heap.size < (W29.alloc (.cells #[.int .i64 i, .int .i64 m] 45)).heap.size) := Lib.hid (by simp)
                            clear HB
                            have HB := HB1
                            clear HB1
                            clear hbs
                            generalize W29.alloc (.cells #[.int .i64 i, .int .i64 m] 45) = W34 at *
                            refine callS (i := 5) HSZ.out (by kernel_rfl) (by kernel_rfl) rfl (fun K hK => ?_)
                            go_simp
                            (with_reducible refine (HCL.out _ (HRM.out.below HB.out) HB.out.size).mono ?_)
                            rintro e W35 ⟨A4, c4, rfl, ho4, hbs⟩
                            have HB1 := Lib.hid (bthen HB.out (Nat.le_refl _) hbs)
                            refine hK.out _ _ ⟨(HB1.out.cell (p := ⟨wr.heap.size, 0, none⟩) hmlt).trans m0, (HB1.out.cell (p := ⟨wr.heap.size, 1, none⟩) hmlt).trans m1, (HB1.out.cell (p := ⟨wp.heap.size, 1, none⟩) hplt).trans y1, (HB1.out.cell (p := ⟨wp.heap.size, 2, none⟩) hplt).trans y2⟩ (fun hHeldN => ?_)
                            clear hK K hHeld
                            try simp only [Act.put, List.setIfInBounds_toArray, List.set_cons_zero, List.set_cons_succ]
                            have hHeld := hHeldN
                            clear hHeldN
                            have HC9' := Lib.hid (fun j v hv => (hbs.cell (p := ⟨W29.heap.size, j, none⟩) HL9.out).trans (HC9.out j v hv))
                            have HL9' := Lib.hid (Nat.lt_of_lt_of_le HL9.out hbs.size)
                            clear HC9 HL9
                            have HC9 := HC9'
                            have HL9 := HL9'
                            clear HC9' HL9'
                            have HLB0 := HLB
                            have HZ' := Lib.hid (show _ ∧ _ ∧ _ ∧ _ from ⟨(hbs.cell (p := ⟨W0.heap.size, 0, none⟩) HLB.out).trans HZ.out.1, (hbs.cell (p := ⟨W0.heap.size, 1, none⟩) HLB.out).trans HZ.out.2.1, (hbs.cell (p := ⟨W0.heap.size, 2, none⟩) HLB.out).trans HZ.out.2.2.1, fun j => (hbs.frozen (p := ⟨W0.heap.size, j, none⟩) HLB.out).trans (HZ.out.2.2.2 j)⟩)
                            have HLB' := Lib.hid (Nat.lt_of_lt_of_le HLB.out hbs.size)
                            clear HZ HLB
                            have HZ := HZ'
                            have HLB := HLB'
                            clear HZ' HLB'
                            have HAP := Lib.hid (show ∀ b, blk A4 = some b → b ≠ W0.heap.size from fun b e e2 => by have := (ho4.blk_lt b e).1; have := HLB0.out; omega)
                            have HC := Lib.hid (ho4.lower HB.out.size)
                            clear HB
                            have HB := HB1
                            clear HB1
                            clear hbs ho4
                            clear HLB0
                            refine callS (i := 8) HSZ.out (by kernel_rfl) (by kernel_rfl) rfl (fun K hK => ?_)
                            refine stepL_app1 (L := LMove) rowMv rfl rfl _ _ rfl rfl HC.out ((i : Int), (m : Int)) rfl HC9.out (by unfold maxLen; omega) (by omega) HB.out.size ?_
                            intro A7 c7 W36 ho7 hg7
                            have HB1 := Lib.hid (Grew.below HB.out hg7 HB.out.size (fun b e => (HC.out.blk_lt b e).1))
                            refine hK.out _ _ ⟨(HB1.out.cell (p := ⟨wr.heap.size, 0, none⟩) hmlt).trans m0, (HB1.out.cell (p := ⟨wr.heap.size, 1, none⟩) hmlt).trans m1, (HB1.out.cell (p := ⟨wp.heap.size, 1, none⟩) hplt).trans y1, (HB1.out.cell (p := ⟨wp.heap.size, 2, none⟩) hplt).trans y2⟩ (fun hHeldN => ?_)
                            clear hK K hHeld
                            try simp only [Act.put, List.setIfInBounds_toArray, List.set_cons_zero, List.set_cons_succ]
                            have hHeld := hHeldN
                            clear hHeldN
                            have HA := Lib.hid ho7
                            have HZ' := Lib.hid (show _ ∧ _ ∧ _ ∧ _ from ⟨(hg7.cell ⟨W0.heap.size, 0, none⟩ HLB.out (fun e => HAP.out _ e rfl)).trans HZ.out.1, (hg7.cell ⟨W0.heap.size, 1, none⟩ HLB.out (fun e => HAP.out _ e rfl)).trans HZ.out.2.1, (hg7.cell ⟨W0.heap.size, 2, none⟩ HLB.out (fun e => HAP.out _ e rfl)).trans HZ.out.2.2.1, fun j => (hg7.frozen ⟨W0.heap.size, j, none⟩ HLB.out (fun e => HAP.out _ e rfl)).trans (HZ.out.2.2.2 j)⟩)
                            have HLB' := Lib.hid (Nat.lt_of_lt_of_le HLB.out hg7.size)
                            have HAP7 := Lib.hid (show ∀ b, blk A7 = some b → b ≠ W0.heap.size from fun b e e2 => by rcases hg7.place with hp | hp; exact HAP.out b (hp ▸ e) e2; (have := hp b e; have := HLB.out; omega))
                            clear HZ HLB HAP
                            have HZ := HZ'
                            have HLB := HLB'
                            clear HZ' HLB'
                            clear HC HC9 HL9
                            clear HB
                            have HB := HB1
                            clear HB1
                            clear ho7 hg7
                            focus
                              refine takeS (i := 9) (v := ?_) HFR.out HNS.out HSZ.out HQP.out rfl (by kernel_rfl) (by kernel_rfl) (by decide) (by kernel_rfl) (Or.inl ⟨by rfl, ?_⟩) hHeld rfl (by dsimp only [List.set_cons_succ, List.set_cons_zero]) ?_
                              rotate_left
                              · intro w hSw; clear hSw; go_simp; (try with_reducible rfl)
                            refine callS (i := 11) HSZ.out (by kernel_rfl) (by kernel_rfl) rfl (fun K hK => ?_)
                            have HMS : Hid (MSok (fun b => GN bm An b ∨ b = W0.heap.size) w.heap.size W36 ⟨A5, c5, os, sd, A7, c7, sM ++ [((i : Int), (m : Int))]⟩) := Lib.hid ⟨((HYO.out.turn (G' := (fun b => GN bm An b ∨ b = W0.heap.size)) (Nat.le_refl _) (fun _ _ _ => rfl) (fun b hb h => h.elim id (fun e => by have := HWB.out; omega))).turn HB.out.size (fun b hb _ => HB.out.block b hb) (fun _ _ h => h)), HA.out.lower hbase, (fun b e h => by have h1 := (HA.out.blk_lt b e).1; rcases h with h | h; (rcases h with h | h; omega; (have := HAn2.out b h; omega)); exact HAP7.out b e h)⟩
                            have HHG : Hid (∀ b, (fun b => GN bm An b ∨ b = W0.heap.size) b → b < W36.heap.size) := Lib.hid (fun b h => by have := HB.out.size; rcases h with h | h; (rcases h with h | h; omega; (have := HAn2.out b h; omega)); (have := HLB.out; omega))
                            go_simp
                            (with_reducible refine (HSET.out (fun b => GN bm An b ∨ b = W0.heap.size) A7 c7 _ HMS.out (Nat.le_trans hbase HB.out.size) HHG.out ((HRO.out.below (HNz2.out.bel.trans (HB.out.mono hbase))).more (Nat.le_trans hbase HB.out.size))).mono ?_)
                            rintro e W37 ⟨A8, c8, rs8, d8, Am8, cm8, M8, rfl, hst8, hok8, hbs⟩
                            have HB1 := Lib.hid (bthen HB.out (Nat.le_refl _) hbs)
                            refine hK.out _ _ ⟨(HB1.out.cell (p := ⟨wr.heap.size, 0, none⟩) hmlt).trans m0, (HB1.out.cell (p := ⟨wr.heap.size, 1, none⟩) hmlt).trans m1, (HB1.out.cell (p := ⟨wp.heap.size, 1, none⟩) hplt).trans y1, (HB1.out.cell (p := ⟨wp.heap.size, 2, none⟩) hplt).trans y2⟩ (fun hHeldN => ?_)
                            clear hK K hHeld
                            try simp only [Act.put, List.setIfInBounds_toArray, List.set_cons_zero, List.set_cons_succ]
                            have hHeld := hHeldN
                            clear hHeldN
                            have HA' := Lib.hid (HA.out.below hbs)
                            clear HA
                            have HA := HA'
                            clear HA'
                            have HZ' := Lib.hid (show _ ∧ _ ∧ _ ∧ _ from ⟨(hbs.cell (p := ⟨W0.heap.size, 0, none⟩) HLB.out).trans HZ.out.1, (hbs.cell (p := ⟨W0.heap.size, 1, none⟩) HLB.out).trans HZ.out.2.1, (hbs.cell (p := ⟨W0.heap.size, 2, none⟩) HLB.out).trans HZ.out.2.2.1, fun j => (hbs.frozen (p := ⟨W0.heap.size, j, none⟩) HLB.out).trans (HZ.out.2.2.2 j)⟩)
                            have HLB' := Lib.hid (Nat.lt_of_lt_of_le HLB.out hbs.size)
                            clear HZ HLB
                            have HZ := HZ'
                            have HLB := HLB'
                            clear HZ' HLB'
                            have HMT := Lib.hid hok8
                            have HST := Lib.hid hst8
                            clear HA HMS HHG hok8 hst8
                            clear HB
                            have HB := HB1
                            clear HB1
                            clear hbs
                            refine callS (i := 13) HSZ.out (by kernel_rfl) (by kernel_rfl) rfl (fun K hK => ?_)
                            obtain ⟨z0, z1, z2, zf⟩ := HZ.out
                            have hwb := HWB.out
                            have hlb := HLB.out
                            have HB1 := Lib.hid (((HB.out.setCell (p := ⟨W0.heap.size, 0, none⟩) hwb (.slice A8 rs8.length c8)).setCell (p := ⟨W0.heap.size, 1, none⟩) hwb (.int .i64 d8)).setCell (p := ⟨W0.heap.size, 2, none⟩) hwb (.slice Am8 M8.length cm8))
                            go_simp
                            refine hK.out _ _ ⟨(HB1.out.cell (p := ⟨wr.heap.size, 0, none⟩) hmlt).trans m0, (HB1.out.cell (p := ⟨wr.heap.size, 1, none⟩) hmlt).trans m1, (HB1.out.cell (p := ⟨wp.heap.size, 1, none⟩) hplt).trans y1, (HB1.out.cell (p := ⟨wp.heap.size, 2, none⟩) hplt).trans y2⟩ (fun hHeldN => ?_)
                            clear hK K hHeld
                            try simp only [Act.put, List.setIfInBounds_toArray, List.set_cons_zero, List.set_cons_succ]
                            have hHeld := hHeldN
                            clear hHeldN
                            have HLV := Lib.hid (lv_cells (G := GN bm An) (base := w.heap.size) (b := W0.heap.size) (w := ((W37.setCell ⟨W0.heap.size, 0, none⟩ (.slice A8 rs8.length c8)).setCell ⟨W0.heap.size, 1, none⟩ (.int .i64 d8)).setCell ⟨W0.heap.size, 2, none⟩ (.slice Am8 M8.length cm8)) (s := ⟨A8, c8, rs8, d8, Am8, cm8, M8⟩) (by go_simp) (by go_simp) (by go_simp) (by simp; omega) (fun h => by rcases h with h | h; omega; (have := HAn2.out _ h; omega)) (ms_set HMT.out (by simp) (fun q hq => by rw [Below.heap_setCell _ _ _ q hq, Below.heap_setCell _ _ _ q hq, Below.heap_setCell _ _ _ q hq])))
                            refine doneS HSZ.out (by kernel_rfl) (by kernel_rfl) (NoPanic.normal ?_)
                            go_wp2_with fail
                            go_meet
                            case rel => exact ⟨A8, c8, rs8, d8, Am8, cm8, M8, W0.heap.size, rfl, HST, HLV, HB1⟩
                      case rest =>
                        obtain ⟨A8, c8, rs8, d8, Am8, cm8, M8, b8, rfl, HST8, HLV8, HB8⟩ := hcut
                        have HNz3 := Lib.hid (HNz2.out.below HB8.out)
                        have HBX3 := Lib.hid (HBX2.out.below HB8.out)
                        obtain ⟨hb8, u0, u1, u2, hsok8⟩ := HLV8.out.one
                        dsimp only at u0 u1 u2
                        have HG8 : Hid (Good (dat rs) o ⟨dat rs8, d8, M8⟩) := Lib.hid (by rw [HST8.out]; exact (HCG.out HOK.out).2)
                        have hyt := yardText_any A8 c8 rs8 wc hsok8.y.rd (YB.of HG8.out.inv.vy) (tab_below HT.out HNz3.out.bel (Nat.le_refl _))
                        have hn8 : rs8.length ≤ 9223372036854775807 := hsok8.y.rd.len63
                        have hsz8 : (bs (ytL (dat rs8))).size ≤ maxLen := by have h : (bs (ytL (dat rs8))).size ≤ 1048576 := ytM_size HG8.out.inv.vy; unfold maxLen; omega
                        have HBD8 : Hid ((bs (ytL (dat rs8))).data.toList = ytL (dat rs8)) := Lib.hid (bs_data _)
                        have HCY := Lib.hid (cand_yes (o := o) (s := MS.st ⟨sA, sc, srs, sd, sAm, scm, sM⟩) HOK.out)
                        have HMEM := Lib.hid (ytL_mem (fun Y hY => (HNz3.out.val Y hY).1) HG8.out.inv.vy)
                        obtain ⟨T8, hT8⟩ : ∃ T, T = bs (ytL (dat rs8)) := ⟨_, rfl⟩
                        rw [← hT8] at hyt hsz8 HBD8
                        have HCRD := Lib.hid (HNz3.out.card HV.out.vy)
                        clear hT8 hsok8 m0 m1 y0 y1 y2
                        by_cases hmem : dat rs8 ∈ K'
                        · have HDC : Hid (decide (T8.data.toList ∈ K'.map ytL) = true) := Lib.hid (by rw [HBD8.out]; exact decide_eq_true (HMEM.out.2 hmem))
                          have HSK := Lib.hid hmem
                          clear hmem
                          go_wp2_with fail
                          refine hyt.mono ?_
                          rintro e w5 ⟨rfl, hb5⟩
                          have HNz5 := Lib.hid (HNz3.out.below hb5)
                          have HBX5 := Lib.hid (HBX3.out.below hb5)
                          clear hyt hb5 u0 u1 u2
                          go_wp2_with (at_lookup; refine wpL_look rfl _ _ rfl rfl HNz5.out.kn T8 rfl hsz8 ?_; rw [HDC.out])
                          go_roundw
                          case rel => exact ⟨m + 1, An, cn, Nx, K', by omega, rfl, by go_num, Lib.hid (by rw [candI_succ, HCY.out, ← List.append_assoc]; exact HNz5.out.skip (by rw [← HST8.out]; exact HSK.out)), HBX5⟩
                          case measure => simp [intOf]; omega
                        · have HDC : Hid (decide (T8.data.toList ∈ K'.map ytL) = false) := Lib.hid (by rw [HBD8.out]; exact decide_eq_false (fun h => hmem (HMEM.out.1 h)))
                          have HSK := Lib.hid hmem
                          clear hmem
                          have hcd := HCRD.out
                          have hnxl : Nx.length ≤ 1073741824 := Nat.le_trans HNz3.out.len hcd
                          go_wp2_with fail
                          refine hyt.mono ?_
                          rintro e w5 ⟨rfl, hb5⟩
                          have HNz5 := Lib.hid (HNz3.out.below hb5)
                          have HBX5 := Lib.hid (HBX3.out.below hb5)
                          have HLV5 := Lib.hid (HLV8.out.below hb5)
                          clear hyt hb5 u0 u1 u2
                          go_wp2_with (first
                            | (at_lookup; refine wpL_look rfl _ _ rfl rfl HNz5.out.kn T8 rfl hsz8 ?_; rw [HDC.out])
                            | (at_mapUpdate; refine wpL_put rfl _ _ _ rfl rfl HNz5.out.kn T8 rfl rfl hsz8 (by unfold maxLen; omega) ?_; intro w6 hk6 hg6; have HLV6 := Lib.hid (HLV5.out.turn (G' := GN bm An) (w' := w6) hg6.size (fun b h1 h2 => hg6.block b h1 (fun e => h2 (.inl (Option.some.inj e)))) (fun _ _ h => h)); have HOW6 := Lib.hid (HNz5.out.own.keepBlk (w' := w6) (fun b e => hg6.block b (HNz5.out.own.blk_lt b e).2 (fun e2 => HNz5.out.ap (e.trans e2)))); obtain ⟨hb86, v0, v1, v2, _⟩ := HLV6.out.one; dsimp only at v0 v1 v2; have hsz6 : w.heap.size ≤ w6.heap.size := Nat.le_trans HNz5.out.bel.size hg6.size)
                            | (at_builtin; refine wpL_app1m (L := LSt) rowYs rfl rfl _ _ rfl (xs := Nx.map MS.hdr) (by simp) rfl HOW6.out (MS.hdr ⟨A8, c8, rs8, d8, Am8, cm8, M8⟩) _ rfl rfl rfl (by unfold maxLen; omega) (by omega) hsz6 ?_; intro A9 c9 w9 ho9 hg9))
                          go_roundw
                          case rel =>
                            refine ⟨m + 1, A9, c9, Nx ++ [⟨A8, c8, rs8, d8, Am8, cm8, M8⟩], K' ++ [dat rs8], by omega, by simp, by go_num, Lib.hid ?_, Lib.hid (HNz5.out.putTurn hg6 hg9 HBX5.out)⟩
                            rw [candI_succ, HCY.out, ← List.append_assoc, ← HST8.out]
                            rw [HBD8.out] at hk6
                            exact HNz5.out.put (s := ⟨A8, c8, rs8, d8, Am8, cm8, M8⟩) HLV5.out.one.2.2.2.2 HSK.out HG8.out.yg hk6 hg6 ho9 hg9
                          case measure => simp [intOf]; omega
                  · have hgm : (rs.length : Int) ≤ m := by omega
                    obtain rfl : m = rs.length := by omega
                    go_wp2_with fail
                    go_roundw
                    case rel => exact ⟨i + 1, An, cn, Nx, K', by omega, rfl, by go_num, Lib.hid (by rw [candS_succ, ← List.append_assoc]; exact HNz.out), HBX⟩
                    case measure => simp [intOf]; omega
              · have hgi : (rs.length : Int) ≤ i := by omega
                have HIE : Hid (i = rs.length) := Lib.hid (by omega)
                go_wp2_with fail
                go_roundw
                case rel => exact ⟨a + 1, An, cn, Nx, K', by omega, rfl, by go_num, Lib.hid (by rw [HCS.out, ← HIE.out]; rw [HIE.out]; have h := HNz.out; rw [HIE.out] at h; exact h)⟩
                case measure => simp [intOf]; omega
          · have HAE : Hid (L.take a = L) := Lib.hid (List.take_of_length_le (by omega))
            have hga : (L.length : Int) ≤ a := by omega
            have hkN1 : k + 1 ≤ N := HN1.out k K _ HLev.out hkN (by rw [List.length_map]; exact hL0) (fun s hs => by obtain ⟨t, ht, rfl⟩ := List.mem_map.1 hs; exact HND.out t ht)
            have HLev2 := Lib.hid (HLev.out.step HV.out (fun s hs => by obtain ⟨t, ht, rfl⟩ := List.mem_map.1 hs; exact HND.out t ht))
            have HRun : Hid (runc K (cands o (dat rs).length (L.map MS.st)) = (K', Nx.map MS.st)) := Lib.hid (by have h := HNy.out.run; rw [HAE.out, ← HX.out] at h; exact h)
            go_wp2_with fail
            go_roundw
            case rel => exact ⟨k + 1, An, cn, Nx, K', rfl, by go_num, hkN1, Lib.hid (by have h := HLev2.out; rw [HRun.out] at h; exact h), Lib.hid (nx_end HNy.out), Lib.hid HNy.out.kn, Lib.hid HNy.out.bel⟩
            case measure => simp [intOf]; omega
end Go.Proofs.YtiefiikheaiekaaDoor
