/-
  Binomials; the chance that at most so many of the tested bricks are weak: its sums, and that it falls with more weak bricks.
-/
import Derived.Test.YtpafdnclhenklaaPlain
namespace Go.Proofs.Ytpafdnclhenklaa

def bin : Nat → Nat → Nat
  | _, 0 => 1
  | 0, _ + 1 => 0
  | n + 1, k + 1 => bin n k + bin n (k + 1)
theorem bin_z (n : Nat) : bin n 0 = 1 := by cases n <;> rfl
theorem bin_zs (k : Nat) : bin 0 (k + 1) = 0 := rfl
theorem bin_s (n k : Nat) : bin (n + 1) (k + 1) = bin n k + bin n (k + 1) := rfl
theorem bin_gt : ∀ (n k : Nat), n < k → bin n k = 0
  | 0, 0, h => by omega
  | 0, k + 1, _ => rfl
  | n + 1, 0, h => by omega
  | n + 1, k + 1, h => by rw [bin_s, bin_gt n k (by omega), bin_gt n (k + 1) (by omega)]
theorem bin_self : ∀ n : Nat, bin n n = 1
  | 0 => rfl
  | n + 1 => by rw [bin_s, bin_self n, bin_gt n (n + 1) (by omega)]
theorem bin_absorb : ∀ (n k : Nat), (k + 1) * bin (n + 1) (k + 1) = (n + 1) * bin n k
  | 0, 0 => rfl
  | 0, k + 1 => by rw [bin_s, bin_zs, bin_zs]; simp
  | n + 1, 0 => by
    have h := bin_absorb n 0
    rw [bin_s (n + 1) 0, bin_z]
    rw [bin_z] at h
    omega
  | n + 1, k + 1 => by
    have h1 := bin_absorb n k
    have h2 := bin_absorb n (k + 1)
    rw [bin_s (n + 1) (k + 1), Nat.mul_add, show k + 1 + 1 = (k + 1) + 1 from rfl, Nat.add_mul (k + 1) 1 (bin (n + 1) (k + 1)), h1, h2, bin_s n k]
    rw [Nat.add_mul (n + 1) 1, Nat.mul_add (n + 1)]
    omega
/-- the next one -/
theorem bin_next (n k : Nat) (h : k ≤ n) : (k + 1) * bin n (k + 1) = (n - k) * bin n k := by
  have h1 := bin_absorb n k
  rw [bin_s, Nat.mul_add] at h1
  have h2 : (n + 1) * bin n k = (k + 1) * bin n k + (n - k) * bin n k := by rw [← Nat.add_mul]; congr 1; omega
  omega
theorem bin_mono (n k : Nat) : bin n k ≤ bin (n + 1) k := by
  cases k with
  | zero => rw [bin_z, bin_z]; exact Nat.le_refl _
  | succ k => rw [bin_s]; omega
theorem bin_mono' {n m : Nat} (h : n ≤ m) (k : Nat) : bin n k ≤ bin m k := by
  induction m with
  | zero => rw [Nat.le_zero.1 h]; exact Nat.le_refl _
  | succ m ih =>
    by_cases e : n ≤ m
    · exact Nat.le_trans (ih e) (bin_mono m k)
    · rw [show n = m + 1 by omega]; exact Nat.le_refl _
theorem f60 (f : Nat → Nat) (h0 : f 0 = 1) (h : ∀ k, k ≤ 60 → (k + 1) * f (k + 1) = (60 - k) * f k) : f 1 = 60 ∧ f 2 = 1770 ∧ f 3 = 34220 ∧ f 4 = 487635 ∧ f 5 = 5461512 ∧ f 6 = 50063860 ∧ f 7 = 386206920 ∧ f 8 = 2558620845 ∧ f 9 = 14783142660 ∧ f 10 = 75394027566 := by
  have h1 : f 1 = 60 := by
    have g : 1 * f 1 = 60 * f 0 := h 0 (by decide)
    rw [h0] at g
    clear h
    omega
  have h2 : f 2 = 1770 := by
    have g : 2 * f 2 = 59 * f 1 := h 1 (by decide)
    rw [h1] at g
    clear h
    omega
  have h3 : f 3 = 34220 := by
    have g : 3 * f 3 = 58 * f 2 := h 2 (by decide)
    rw [h2] at g
    clear h
    omega
  have h4 : f 4 = 487635 := by
    have g : 4 * f 4 = 57 * f 3 := h 3 (by decide)
    rw [h3] at g
    clear h
    omega
  have h5 : f 5 = 5461512 := by
    have g : 5 * f 5 = 56 * f 4 := h 4 (by decide)
    rw [h4] at g
    clear h
    omega
  have h6 : f 6 = 50063860 := by
    have g : 6 * f 6 = 55 * f 5 := h 5 (by decide)
    rw [h5] at g
    clear h
    omega
  have h7 : f 7 = 386206920 := by
    have g : 7 * f 7 = 54 * f 6 := h 6 (by decide)
    rw [h6] at g
    clear h
    omega
  have h8 : f 8 = 2558620845 := by
    have g : 8 * f 8 = 53 * f 7 := h 7 (by decide)
    rw [h7] at g
    clear h
    omega
  have h9 : f 9 = 14783142660 := by
    have g : 9 * f 9 = 52 * f 8 := h 8 (by decide)
    rw [h8] at g
    clear h
    omega
  have h10 : f 10 = 75394027566 := by
    have g : 10 * f 10 = 51 * f 9 := h 9 (by decide)
    rw [h9] at g
    clear h
    omega
  exact ⟨h1, h2, h3, h4, h5, h6, h7, h8, h9, h10⟩
theorem f60_bd (f : Nat → Nat) (h0 : f 0 = 1) (h : ∀ k, k ≤ 60 → (k + 1) * f (k + 1) = (60 - k) * f k) (k : Nat) (hk : k ≤ 10) : f k ≤ 75394027566 := by
  obtain ⟨a1, a2, a3, a4, a5, a6, a7, a8, a9, a10⟩ := f60 f h0 h
  clear h
  match k, hk with
  | 0, _ => rw [h0]; decide
  | 1, _ => rw [a1]; decide
  | 2, _ => rw [a2]; decide
  | 3, _ => rw [a3]; decide
  | 4, _ => rw [a4]; decide
  | 5, _ => rw [a5]; decide
  | 6, _ => rw [a6]; decide
  | 7, _ => rw [a7]; decide
  | 8, _ => rw [a8]; decide
  | 9, _ => rw [a9]; decide
  | 10, _ => rw [a10]; exact Nat.le_refl _
  | k + 11, hk => exact absurd hk (by omega)
theorem bin_bd {n k : Nat} (hn : n ≤ 60) (hk : k ≤ 10) : bin n k ≤ 75394027566 := by
  obtain ⟨m, hm⟩ : ∃ m, m = 60 := ⟨_, rfl⟩
  have h := bin_mono' (show n ≤ m by omega) k
  have h2 := f60_bd (bin m) (bin_z m) (fun k hk => by
    have := bin_next m k (by omega)
    rwa [show m - k = 60 - k by omega] at this) k hk
  omega
theorem bin_pos {n k : Nat} (h : k ≤ n) : 0 < bin n k := by
  have := bin_mono' h k
  rw [bin_self] at this
  omega
/-- the program's loop, one round -/
theorem bin_round (d i : Nat) : bin (d + i) i * (d + (i + 1)) / (i + 1) = bin (d + (i + 1)) (i + 1) := by
  have h := bin_absorb (d + i) i
  rw [show d + i + 1 = d + (i + 1) from rfl] at h
  rw [Nat.mul_comm (bin (d + i) i), ← h, Nat.mul_div_cancel_left _ (by omega)]
theorem bin_round_bd {d i : Nat} (h : d + (i + 1) ≤ 60) (hi : i + 1 ≤ 10) : bin (d + i) i * (d + (i + 1)) ≤ 753940275660 := by
  have h1 := bin_absorb (d + i) i
  rw [show d + i + 1 = d + (i + 1) from rfl] at h1
  rw [Nat.mul_comm, ← h1]
  have h2 := bin_bd h hi
  have h3 : (i + 1) * bin (d + (i + 1)) (i + 1) ≤ 10 * 75394027566 := Nat.mul_le_mul hi h2
  omega
/-- the sum of the first j terms -/
def hsum (w M t : Nat) : Nat → Nat
  | 0 => 0
  | j + 1 => hsum w M t j + bin w j * bin M (t - j)
theorem hsum_z (w M t : Nat) : hsum w M t 0 = 0 := rfl
theorem hsum_s (w M t j : Nat) : hsum w M t (j + 1) = hsum w M t j + bin w j * bin M (t - j) := rfl
def htail (w M t a : Nat) : Nat := if a < t then bin w a * bin M (t - 1 - a) else 0
theorem hsum_tele (w M t : Nat) : ∀ a, a ≤ t → hsum (w + 1) M t (a + 1) + htail w M t a = hsum w (M + 1) t (a + 1)
  | 0, _ => by
    rw [hsum_s, hsum_s, hsum_z, hsum_z, bin_z, bin_z]
    unfold htail
    by_cases h : 0 < t
    · obtain ⟨s, rfl⟩ : ∃ s, t = s + 1 := ⟨t - 1, by omega⟩
      rw [if_pos h, bin_z]
      simp only [Nat.zero_add, Nat.one_mul, Nat.sub_zero, Nat.add_sub_cancel]
      rw [bin_s]
      omega
    · obtain rfl : t = 0 := by omega
      rw [if_neg h]
      simp [bin_z]
  | a + 1, ha => by
    have ih := hsum_tele w M t a (by omega)
    rw [hsum_s (w + 1), hsum_s w, bin_s, Nat.add_mul]
    unfold htail at ih ⊢
    rw [if_pos (by omega)] at ih
    by_cases h : a + 1 < t
    · obtain ⟨s, hs⟩ : ∃ s, t - (a + 1) = s + 1 := ⟨t - (a + 1) - 1, by omega⟩
      rw [if_pos h, hs, bin_s, show t - 1 - (a + 1) = s by omega, Nat.mul_add]
      rw [show t - 1 - a = s + 1 by omega] at ih
      omega
    · rw [if_neg h, show t - (a + 1) = 0 by omega, bin_z, bin_z]
      rw [show t - 1 - a = 0 by omega, bin_z] at ih
      omega
theorem hsum_0 (M t : Nat) : ∀ j, hsum 0 M t (j + 1) = bin M t
  | 0 => by rw [hsum_s, hsum_z, bin_z]; simp
  | j + 1 => by rw [hsum_s, hsum_0 M t j, bin_zs]; simp
theorem hsum_all : ∀ (w M t : Nat), hsum w M t (t + 1) = bin (w + M) t
  | 0, M, t => by rw [hsum_0, Nat.zero_add]
  | w + 1, M, t => by
    have h := hsum_tele w M t t (Nat.le_refl _)
    unfold htail at h
    rw [if_neg (by omega), hsum_all w (M + 1) t] at h
    rw [show w + 1 + M = w + (M + 1) by omega]
    omega
theorem hsum_mono (w M t a : Nat) (h : a ≤ t) : hsum (w + 1) M t (a + 1) ≤ hsum w (M + 1) t (a + 1) := by
  have := hsum_tele w M t a h
  omega
theorem hsum_up (w M t : Nat) {a b : Nat} (h : a ≤ b) : hsum w M t a ≤ hsum w M t b := by
  induction b with
  | zero => rw [Nat.le_zero.1 h]; exact Nat.le_refl _
  | succ b ih =>
    by_cases e : a ≤ b
    · rw [hsum_s]; have := ih e; omega
    · rw [show a = b + 1 by omega]; exact Nat.le_refl _
theorem hsum_le {w M t a : Nat} (h : a ≤ t) : hsum w M t (a + 1) ≤ bin (w + M) t := by
  rw [← hsum_all]
  exact hsum_up w M t (by omega)
/-- the chance in lowest terms -/
def chN (lot weak tested allowed : Nat) : Nat × Nat :=
  (hsum weak (lot - weak) tested (allowed + 1) / Nat.gcd (hsum weak (lot - weak) tested (allowed + 1)) (bin lot tested), bin lot tested / Nat.gcd (hsum weak (lot - weak) tested (allowed + 1)) (bin lot tested))
theorem ch_parts {lot weak tested allowed : Nat} (ht : tested ≤ lot) : ∃ g, 0 < g ∧ hsum weak (lot - weak) tested (allowed + 1) = g * (chN lot weak tested allowed).1 ∧ bin lot tested = g * (chN lot weak tested allowed).2 := by
  have hp := bin_pos ht
  refine ⟨Nat.gcd (hsum weak (lot - weak) tested (allowed + 1)) (bin lot tested), Nat.gcd_pos_of_pos_right _ hp, ?_, ?_⟩
  · exact (Nat.mul_div_cancel' (Nat.gcd_dvd_left _ _)).symm
  · exact (Nat.mul_div_cancel' (Nat.gcd_dvd_right _ _)).symm
theorem ch_bd {lot weak tested allowed : Nat} (hl : lot ≤ 60) (hw : weak ≤ lot) (ht : tested ≤ lot) (ht2 : tested ≤ 10) (ha : allowed ≤ tested) :
    (chN lot weak tested allowed).1 ≤ (chN lot weak tested allowed).2 ∧ (chN lot weak tested allowed).2 ≤ 75394027566 ∧ 0 < (chN lot weak tested allowed).2 := by
  obtain ⟨g, hg, h1, h2⟩ := ch_parts (weak := weak) (allowed := allowed) ht
  have h3 : hsum weak (lot - weak) tested (allowed + 1) ≤ bin lot tested := by
    have := hsum_le (w := weak) (M := lot - weak) ha
    rwa [show weak + (lot - weak) = lot by omega] at this
  have hp := bin_pos ht
  have hb := bin_bd hl ht2
  refine ⟨?_, ?_, ?_⟩
  · rw [h1, h2] at h3
    exact Nat.le_of_mul_le_mul_left h3 hg
  · have : (chN lot weak tested allowed).2 ≤ g * (chN lot weak tested allowed).2 := Nat.le_mul_of_pos_left _ hg
    omega
  · rcases Nat.eq_zero_or_pos (chN lot weak tested allowed).2 with h | h
    · rw [h] at h2; simp at h2; omega
    · exact h
/-- all tested bricks may be weak, or none is: it passes -/
theorem ch_one {lot weak tested allowed : Nat} (hw : weak ≤ lot) (ht : tested ≤ lot) (ha : allowed ≤ tested) (h : allowed = tested ∨ weak = 0) : (chN lot weak tested allowed).1 = (chN lot weak tested allowed).2 := by
  have e : hsum weak (lot - weak) tested (allowed + 1) = bin lot tested := by
    rcases h with rfl | rfl
    · rw [hsum_all, show weak + (lot - weak) = lot by omega]
    · rw [hsum_0, Nat.sub_zero]
  unfold chN
  rw [e]
/-- with one more weak brick it is no greater -/
theorem ch_fall {lot weak tested allowed : Nat} (hw : weak < lot) (ht : tested ≤ lot) (ha : allowed ≤ tested) :
    (chN lot (weak + 1) tested allowed).1 * (chN lot weak tested allowed).2 ≤ (chN lot weak tested allowed).1 * (chN lot (weak + 1) tested allowed).2 := by
  obtain ⟨g, hg, h1, h2⟩ := ch_parts (weak := weak) (allowed := allowed) ht
  obtain ⟨q, hq, k1, k2⟩ := ch_parts (weak := weak + 1) (allowed := allowed) ht
  have hm := hsum_mono weak (lot - (weak + 1)) tested allowed ha
  rw [show lot - (weak + 1) + 1 = lot - weak by omega, k1, h1] at hm
  generalize (chN lot weak tested allowed).1 = a at *
  generalize (chN lot weak tested allowed).2 = b at *
  generalize (chN lot (weak + 1) tested allowed).1 = c at *
  generalize (chN lot (weak + 1) tested allowed).2 = d at *
  have e : g * b = q * d := by rw [← h2, k2]
  refine Nat.le_of_mul_le_mul_left (c := g * q) ?_ (Nat.mul_pos hg hq)
  have e1 : g * q * (c * b) = (q * c) * (g * b) := by rw [Nat.mul_comm g q, Nat.mul_assoc, Nat.mul_assoc q c, ← Nat.mul_assoc g c b, Nat.mul_comm g c, Nat.mul_assoc c g b]
  have e2 : g * q * (a * d) = (g * a) * (q * d) := by rw [Nat.mul_assoc, Nat.mul_assoc g a, ← Nat.mul_assoc q a d, Nat.mul_comm q a, Nat.mul_assoc a q d]
  rw [e1, e2, e]
  exact Nat.mul_le_mul_right _ hm
end Go.Proofs.Ytpafdnclhenklaa
