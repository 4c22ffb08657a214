/-
  Chances: what the answers are (plain).
-/
import Derived.Test.YtpafdnclhenklaaPassE
namespace Go.Proofs.Ytpafdnclhenklaa
open Go.ChangeShapes Go.WideShapes Go.RowKit

theorem inB_true {x lo hi : Int} (h1 : lo ≤ x) (h2 : x ≤ hi) : inB x lo hi = true := by unfold inB; simp; omega
theorem pl_nat {l k t a : Nat} (b1 : 1 ≤ l) (b2 : l ≤ 60) (b3 : k ≤ l) (b4 : 1 ≤ t) (b5 : t ≤ l) (b6 : t ≤ 10) (b7 : a ≤ t) : plC l k t a = 0 := by
  have h1 : lotB (l : Int) k = true := by unfold lotB; rw [inB_true (by omega) (by omega), inB_true (by omega) (by omega)]; rfl
  have h2 : tstB (t : Int) a = true := by unfold tstB; rw [inB_true (by omega) (by omega), inB_true (by omega) (by omega)]; rfl
  unfold plC
  rw [if_pos ⟨h1, h2⟩, if_neg (by omega)]
theorem pc_nat {l k t a : Nat} (b1 : 1 ≤ l) (b2 : l ≤ 60) (b3 : k ≤ l) (b4 : 1 ≤ t) (b5 : t ≤ l) (b6 : t ≤ 10) (b7 : a ≤ t) : pcP l k t a = (((cnF l k t a).1, (cnF l k t a).2), 0) := by
  rw [pcP_ok (pl_nat b1 b2 b3 b4 b5 b6 b7), pcF_nat]
  rfl
theorem cn_bd {l k t a : Nat} (b2 : l ≤ 60) (b3 : k ≤ l) (b5 : t ≤ l) (b6 : t ≤ 10) (b7 : a ≤ t) : 0 ≤ (cnF l k t a).1 ∧ (cnF l k t a).1 ≤ (cnF l k t a).2 ∧ (cnF l k t a).2 ≤ 75394027566 := by
  have hb := ch_bd (lot := l) (weak := k) (tested := t) (allowed := a) b2 b3 b5 b6 b7
  unfold cnF
  dsimp only
  omega
theorem wu_cases (lot tested allowed num den : Int) : (∃ c, wuP lot tested allowed num den = (0, c) ∧ c ≠ 0) ∨ ∃ L T D N : Nat, lot = L ∧ tested = T ∧ allowed = D ∧ wuP lot tested allowed num den = ((N : Int), 0) ∧ N ≤ L ∧ L ≤ 60 ∧
    (N < L → ∃ f1 f2 u v : Int, pcP L ((N : Int) + 1) T D = ((f1, f2), 0) ∧ IntKind.i64.wrap (f1 * den) = u ∧ IntKind.i64.wrap (num * f2) = v ∧ u < v) ∧
    (0 < N → ∃ f1 f2 u v : Int, pcP L N T D = ((f1, f2), 0) ∧ IntKind.i64.wrap (f1 * den) = u ∧ IntKind.i64.wrap (num * f2) = v ∧ v ≤ u) := by
  cases c3 : chcB num den
  · exact Or.inl ⟨2, wuP_no1 c3, by omega⟩
  by_cases h0 : plC lot 0 tested allowed = 0
  rotate_left
  · exact Or.inl ⟨_, wuP_no2 c3 h0, h0⟩
  obtain ⟨l, t, a, rfl, rfl, rfl, b1, b2, b3, b4, b5, b6⟩ := plC0_ok h0
  obtain ⟨n0, n1, n2, n3⟩ := chcB_yes c3
  have hf := fst_all (wuQ l t a (num, den)) l 0
  obtain ⟨f1, f2, f3, f4⟩ := hf
  refine Or.inr ⟨l, t, a, _, rfl, rfl, rfl, wuP_ok c3 h0, by omega, b2, ?_, ?_⟩
  · intro h
    have hq := f4 (by omega)
    generalize fstN (wuQ l t a (num, den)) l 0 = n at *
    have e1 : ((n : Int) + 1) = ((n + 1 : Nat) : Int) := by omega
    have hbd := cn_bd (k := n + 1) b2 (by omega) b4 b5 b6
    refine ⟨(cnF l (n + 1) t a).1, (cnF l (n + 1) t a).2, _, _, by rw [e1]; exact pc_nat b1 b2 (by omega) b3 b4 b5 b6, rfl, rfl, ?_⟩
    unfold wuQ lssB at hq
    obtain ⟨p1, p2, p3, p4⟩ := prod_bd hbd.1 hbd.2.1 hbd.2.2 n0 n1 n3
    rw [wrapS (by omega) (by omega), wrapS (by omega) (by omega)]
    simpa using hq
  · intro h
    have hq := f3 (fstN (wuQ l t a (num, den)) l 0 - 1) (by omega) (by omega)
    generalize fstN (wuQ l t a (num, den)) l 0 = n at *
    have hbd := cn_bd (k := n) b2 (by omega) b4 b5 b6
    refine ⟨(cnF l n t a).1, (cnF l n t a).2, _, _, pc_nat b1 b2 (by omega) b3 b4 b5 b6, rfl, rfl, ?_⟩
    unfold wuQ lssB at hq
    rw [show n - 1 + 1 = n by omega] at hq
    obtain ⟨p1, p2, p3, p4⟩ := prod_bd hbd.1 hbd.2.1 hbd.2.2 n0 n1 n3
    rw [wrapS (by omega) (by omega), wrapS (by omega) (by omega)]
    simpa using hq
theorem tf_cases (lot weak allowed num den : Int) : (∃ c, tfP lot weak allowed num den = (0, c) ∧ c ≠ 0) ∨ ∃ N : Nat, 1 ≤ N ∧ N ≤ 10 ∧ tfP lot weak allowed num den = ((N : Int), 0) ∧
    (∃ f1 f2 u v : Int, pcP lot weak N (min allowed N) = ((f1, f2), 0) ∧ IntKind.i64.wrap (f1 * den) = u ∧ IntKind.i64.wrap (num * f2) = v ∧ u ≤ v) ∧
    (1 < N → ∃ f1 f2 u v : Int, pcP lot weak ((N : Int) - 1) (min allowed ((N : Int) - 1)) = ((f1, f2), 0) ∧ IntKind.i64.wrap (f1 * den) = u ∧ IntKind.i64.wrap (num * f2) = v ∧ v < u) := by
  cases h0 : tfB lot weak allowed num den
  · exact Or.inl ⟨2, tfP_no h0, by omega⟩
  obtain ⟨l, k, a, rfl, rfl, rfl, b1, b2, b3, b4, n0, n1, n2, n3⟩ := tfB_ok h0
  have hf := fst_all (tfQ l k a (num, den)) (min 10 l) 0
  have hP := tfP_ok h0
  unfold tfN at hP
  obtain ⟨f1, f2, f3, f4⟩ := hf
  generalize fstN (tfQ l k a (num, den)) (min 10 l) 0 = n at *
  by_cases hn : n < min 10 l
  rotate_left
  · rw [if_neg hn] at hP
    exact Or.inl ⟨3, hP, by omega⟩
  rw [if_pos hn] at hP
  refine Or.inr ⟨n + 1, by omega, by omega, hP, ?_, ?_⟩
  · have hq := f4 (by omega)
    have hbd := cn_bd (l := l) (k := k) (t := n + 1) (a := min a (n + 1)) b2 b3 (by omega) (by omega) (by omega)
    refine ⟨(cnF l k (n + 1) (min a (n + 1))).1, (cnF l k (n + 1) (min a (n + 1))).2, _, _, by rw [show min (a : Int) ((n + 1 : Nat) : Int) = ((min a (n + 1) : Nat) : Int) by omega]; exact pc_nat b1 b2 b3 (by omega) (by omega) (by omega) (by omega), rfl, rfl, ?_⟩
    unfold tfQ lssB at hq
    obtain ⟨p1, p2, p3, p4⟩ := prod_bd hbd.1 hbd.2.1 hbd.2.2 n0 n1 n3
    rw [wrapS (by omega) (by omega), wrapS (by omega) (by omega)]
    simpa using hq
  · intro h
    have hq := f3 (n - 1) (by omega) (by omega)
    have hbd := cn_bd (l := l) (k := k) (t := n) (a := min a n) b2 b3 (by omega) (by omega) (by omega)
    refine ⟨(cnF l k n (min a n)).1, (cnF l k n (min a n)).2, _, _, by rw [show min (a : Int) (((n + 1 : Nat) : Int) - 1) = ((min a n : Nat) : Int) by omega, show (((n + 1 : Nat) : Int) - 1) = (n : Int) by omega]; exact pc_nat b1 b2 b3 (by omega) (by omega) (by omega) (by omega), rfl, rfl, ?_⟩
    unfold tfQ lssB at hq
    rw [show n - 1 + 1 = n by omega] at hq
    obtain ⟨p1, p2, p3, p4⟩ := prod_bd hbd.1 hbd.2.1 hbd.2.2 n0 n1 n3
    rw [wrapS (by omega) (by omega), wrapS (by omega) (by omega)]
    simpa using hq
theorem f60_bd5 (f : Nat → Nat) (h0 : f 0 = 1) (h : ∀ k, k ≤ 60 → (k + 1) * f (k + 1) = (60 - k) * f k) (k : Nat) (hk : k ≤ 5) : f k ≤ 5461512 := by
  obtain ⟨a1, a2, a3, a4, a5, _⟩ := f60 f h0 h
  clear h
  match k, hk with
  | 0, _ => rw [h0]; decide
  | 1, _ => rw [a1]; decide
  | 2, _ => rw [a2]; decide
  | 3, _ => rw [a3]; decide
  | 4, _ => rw [a4]; decide
  | 5, _ => rw [a5]; exact Nat.le_refl _
  | k + 6, hk => exact absurd hk (by omega)
theorem bin_bd5 {n k : Nat} (hn : n ≤ 60) (hk : k ≤ 5) : bin n k ≤ 5461512 := by
  obtain ⟨m, hm⟩ : ∃ m, m = 60 := ⟨_, rfl⟩
  have h := bin_mono' (show n ≤ m by omega) k
  have h2 := f60_bd5 (bin m) (bin_z m) (fun k hk => by
    have := bin_next m k (by omega)
    rwa [show m - k = 60 - k by omega] at this) k hk
  omega
theorem ch_bd5 {lot weak tested allowed : Nat} (hl : lot ≤ 60) (ht : tested ≤ lot) (ht2 : tested ≤ 5) : (chN lot weak tested allowed).2 ≤ 5461512 := by
  have h := bin_bd5 hl ht2
  unfold chN
  dsimp only
  have := Nat.div_le_self (bin lot tested) (Nat.gcd (hsum weak (lot - weak) tested (allowed + 1)) (bin lot tested))
  omega
theorem pc_cases (lot weak tested allowed : Int) : (∃ c, pcP lot weak tested allowed = ((0, 0), c) ∧ c ≠ 0) ∨ ∃ f1 f2 : Int, pcP lot weak tested allowed = ((f1, f2), 0) ∧ 0 ≤ f1 ∧ f1 ≤ f2 ∧ 0 ≤ weak ∧ weak ≤ lot ∧ lot ≤ 60 ∧ (allowed = tested → f1 = f2) ∧ (weak = 0 → f1 = f2) ∧
    (weak ≠ lot → lot ≤ 40 → tested ≤ 5 → ∃ g1 g2 u v : Int, pcP lot (weak + 1) tested allowed = ((g1, g2), 0) ∧ IntKind.i64.wrap (g1 * f2) = u ∧ IntKind.i64.wrap (f1 * g2) = v ∧ u ≤ v) := by
  by_cases h0 : plC lot weak tested allowed = 0
  rotate_left
  · exact Or.inl ⟨_, pcP_no h0, h0⟩
  obtain ⟨l, k, t, a, rfl, rfl, rfl, rfl, b1, b2, b3, b4, b5, b6, b7⟩ := plC_ok h0
  have hbd := cn_bd (k := k) b2 b3 b5 b6 b7
  refine Or.inr ⟨(cnF l k t a).1, (cnF l k t a).2, pc_nat b1 b2 b3 b4 b5 b6 b7, hbd.1, hbd.2.1, by omega, by omega, by omega, ?_, ?_, ?_⟩
  · intro h
    unfold cnF
    rw [ch_one b3 b5 b7 (Or.inl (by omega))]
  · intro h
    unfold cnF
    rw [ch_one b3 b5 b7 (Or.inr (by omega))]
  · intro h1 h2 h3
    have h4 := ch_bd5 (weak := k) (allowed := a) b2 b5 (by omega)
    have h5 := ch_bd5 (weak := k + 1) (allowed := a) b2 b5 (by omega)
    have h6 := ch_fall (lot := l) (weak := k) (tested := t) (allowed := a) (by omega) b5 b7
    have hb1 := ch_bd (lot := l) (weak := k) (tested := t) (allowed := a) b2 b3 b5 b6 b7
    have hb2 := ch_bd (lot := l) (weak := k + 1) (tested := t) (allowed := a) b2 (by omega) b5 b6 b7
    refine ⟨(cnF l (k + 1) t a).1, (cnF l (k + 1) t a).2, _, _, by rw [show (k : Int) + 1 = ((k + 1 : Nat) : Int) by omega]; exact pc_nat b1 b2 (by omega) b4 b5 b6 b7, rfl, rfl, ?_⟩
    unfold cnF
    dsimp only
    generalize (chN l (k + 1) t a).1 = g1 at *
    generalize (chN l (k + 1) t a).2 = g2 at *
    generalize (chN l k t a).1 = f1 at *
    generalize (chN l k t a).2 = f2 at *
    have p1 : g1 * f2 ≤ 5461512 * 5461512 := Nat.mul_le_mul (by omega) h4
    have p2 : f1 * g2 ≤ 5461512 * 5461512 := Nat.mul_le_mul (by omega) h5
    rw [← intCastMul, ← intCastMul]
    rw [wrapS (by omega) (by omega), wrapS (by omega) (by omega)]
    omega
end Go.Proofs.Ytpafdnclhenklaa
