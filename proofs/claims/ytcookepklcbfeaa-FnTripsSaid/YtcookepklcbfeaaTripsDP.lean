/-
  Trips, in numbers: the least number of trips of a set of loads, by the set's last load's trip; and that it is the searches' number.
-/
import Derived.Test.YtcookepklcbfeaaTripsPlain
namespace Go.Proofs.Ytcookepklcbfeaa

/-- the sum of g 0, .., g (n - 1) -/
def sig (g : Nat → Int) : Nat → Int
  | 0 => 0
  | n + 1 => sig g n + g n
theorem sig_congr {g h : Nat → Int} {n : Nat} (e : ∀ i, i < n → g i = h i) : sig g n = sig h n := by
  induction n with
  | zero => rfl
  | succ n ih => rw [sig, sig, ih fun i hi => e i (by omega), e n (by omega)]
theorem sig_le {g h : Nat → Int} {n : Nat} (e : ∀ i, i < n → g i ≤ h i) : sig g n ≤ sig h n := by
  induction n with
  | zero => simp [sig]
  | succ n ih =>
    have := ih fun i hi => e i (by omega)
    have := e n (by omega)
    simp only [sig]; omega
theorem sig_zero {g : Nat → Int} {n : Nat} (e : ∀ i, i < n → g i = 0) : sig g n = 0 := by
  induction n with
  | zero => rfl
  | succ n ih => rw [sig, ih fun i hi => e i (by omega), e n (by omega)]; rfl
theorem sig_shift (g : Nat → Int) (n : Nat) : sig g (n + 1) = g 0 + sig (fun i => g (i + 1)) n := by
  induction n with
  | zero => simp [sig]
  | succ n ih => rw [sig, ih, sig]; omega
theorem sig_one {g : Nat → Int} {n k : Nat} (hk : k < n) (e : ∀ i, i < n → i ≠ k → g i = 0) : sig g n = g k := by
  induction n with
  | zero => omega
  | succ n ih =>
    rw [sig]
    by_cases h : k = n
    · subst h
      rw [sig_zero fun i hi => e i (by omega) (by omega)]; omega
    · rw [ih (by omega) fun i hi => e i (by omega), e n (by omega) (fun h' => h h'.symm)]; omega

/-- what the loads of set s in bin j weigh -/
def bsum (xs : List Int) (s : Nat) (f : Nat → Nat) (j : Nat) : Int := sig (fun i => if s.testBit i = true ∧ f i = j then xs.getD i 0 else 0) xs.length
def wsum (xs : List Int) (s : Nat) (n : Nat) : Int := sig (fun i => if s.testBit i = true then xs.getD i 0 else 0) n
theorem wsum_succ (xs : List Int) (s n : Nat) : wsum xs s (n + 1) = wsum xs s n + if s.testBit n = true then xs.getD n 0 else 0 := rfl
/-- room for the loads of s in t bins -/
def Bins (most : Int) (xs : List Int) (s t : Nat) : Prop := ∃ f : Nat → Nat, (∀ i, i < xs.length → s.testBit i = true → f i < t) ∧ ∀ j, bsum xs s f j ≤ most
theorem Bins.mono {most : Int} {xs : List Int} {s t t' : Nat} (h : Bins most xs s t) (ht : t ≤ t') : Bins most xs s t' := by
  obtain ⟨f, h1, h2⟩ := h
  exact ⟨f, fun i hi hs => by have := h1 i hi hs; omega, h2⟩
theorem getD_bd {xs : List Int} {most : Int} (h : ∀ x ∈ xs, 1 ≤ x ∧ x ≤ most) {i : Nat} (hi : i < xs.length) : 1 ≤ xs.getD i 0 ∧ xs.getD i 0 ≤ most := by
  rw [getD_lt xs 0 hi]; exact h _ (List.getElem_mem hi)
/-- each load a trip of its own -/
theorem Bins.each {most : Int} {xs : List Int} (h : ∀ x ∈ xs, 1 ≤ x ∧ x ≤ most) (hm : 0 ≤ most) (s : Nat) : Bins most xs s xs.length := by
  refine ⟨id, fun i hi _ => hi, fun j => ?_⟩
  by_cases hj : j < xs.length
  · unfold bsum
    have b := getD_bd h hj
    rw [sig_one (k := j) hj (fun i hi hne => by simp [hne])]
    split <;> omega
  · unfold bsum
    rw [sig_zero fun i hi => by rw [if_neg]; rintro ⟨_, e⟩; simp at e; omega]
    exact hm
theorem Bins.none_ {most : Int} {xs : List Int} (hm : 0 ≤ most) (t : Nat) : Bins most xs 0 t := by
  refine ⟨fun _ => 0, fun i _ h => by simp at h, fun j => ?_⟩
  unfold bsum
  rw [sig_zero fun i hi => by simp]
  exact hm
/-- the set of those i < n -/
def mask (p : Nat → Bool) : Nat → Nat
  | 0 => 0
  | n + 1 => mask p n ||| if p n = true then 2 ^ n else 0
theorem mask_bit (p : Nat → Bool) (n i : Nat) : (mask p n).testBit i = (decide (i < n) && p i) := by
  induction n with
  | zero => simp [mask]
  | succ n ih =>
    rw [mask, Nat.testBit_or, ih]
    by_cases hp : p n = true
    · rw [if_pos hp, Nat.testBit_two_pow]
      by_cases e : n = i
      · subst e; simp [hp]
      · by_cases h : i < n
        · simp [h, e, show i < n + 1 by omega]
        · simp [h, e, show ¬ i < n + 1 by omega]
    · rw [if_neg hp]
      by_cases e : n = i
      · subst e; simp [hp]
      · by_cases h : i < n
        · simp [h, show i < n + 1 by omega]
        · simp [h, show ¬ i < n + 1 by omega]
/-- q is a part of s -/
def Part (q s : Nat) : Prop := ∀ i, q.testBit i = true → s.testBit i = true
theorem bit_half (x i : Nat) : (x / 2).testBit i = x.testBit (i + 1) := (Nat.testBit_succ x i).symm
theorem Part.half {q s : Nat} (h : Part q s) : Part (q / 2) (s / 2) := fun i hi => by rw [bit_half] at *; exact h _ hi
theorem Part.low {q s : Nat} (h : Part q s) : q % 2 ≤ s % 2 := by
  have := h 0
  simp only [Nat.testBit_zero, decide_eq_true_eq] at this
  omega
theorem Part.sub {q s : Nat} (h : Part q s) : q ≤ s ∧ ∀ i, (s - q).testBit i = (s.testBit i && !q.testBit i) := by
  induction s using Nat.strongRecOn generalizing q with
  | ind s ih =>
    by_cases hs : s = 0
    · subst hs
      have : q = 0 := Nat.eq_of_testBit_eq fun i => by
        cases hq : q.testBit i
        · simp
        · have := h i hq; simp at this
      subst this
      simp
    · have hl := h.low
      obtain ⟨h1, h2⟩ := ih (s / 2) (by omega) h.half
      refine ⟨by omega, fun i => ?_⟩
      cases i with
      | zero =>
        simp only [Nat.testBit_zero]
        rw [show (s - q) % 2 = s % 2 - q % 2 by omega]
        rcases Nat.mod_two_eq_zero_or_one s with e1 | e1 <;> rcases Nat.mod_two_eq_zero_or_one q with e2 | e2 <;> rw [e1, e2] <;> first | rfl | omega
      | succ i =>
        rw [← bit_half, ← bit_half, ← bit_half, show (s - q) / 2 = s / 2 - q / 2 by omega]
        exact h2 i
theorem and_half (a b : Nat) : (a &&& b) / 2 = (a / 2) &&& (b / 2) := Nat.eq_of_testBit_eq fun i => by rw [bit_half, Nat.testBit_and, Nat.testBit_and, bit_half, bit_half]
theorem and_low (a b : Nat) : (a &&& b) % 2 = (a % 2) * (b % 2) := by
  have h : (a &&& b).testBit 0 = (a.testBit 0 && b.testBit 0) := Nat.testBit_and a b 0
  simp only [Nat.testBit_zero] at h
  rcases Nat.mod_two_eq_zero_or_one a with e1 | e1 <;> rcases Nat.mod_two_eq_zero_or_one b with e2 | e2 <;> rcases Nat.mod_two_eq_zero_or_one (a &&& b) with e3 | e3 <;> rw [e1, e2, e3] at h <;> simp_all
theorem Part.and_ {q s : Nat} (h : Part q s) : q &&& s = q := Nat.eq_of_testBit_eq fun i => by
  rw [Nat.testBit_and]
  cases hq : q.testBit i
  · rfl
  · rw [h i hq]; rfl
theorem part_and (a s : Nat) : Part (a &&& s) s := fun i hi => by rw [Nat.testBit_and, Bool.and_eq_true] at hi; exact hi.2
/-- the next part below p: no part of s lies between -/
theorem part_next {p s : Nat} (hp : Part p s) {q : Nat} (hq : Part q s) (hlt : q < p) : q ≤ (p - 1) &&& s := by
  induction p using Nat.strongRecOn generalizing s q with
  | ind p ih =>
    have h1 := and_half (p - 1) s
    have h2 := and_low (p - 1) s
    have hl := hq.low
    rcases Nat.mod_two_eq_zero_or_one p with e | e
    · have := ih (p / 2) (by omega) hp.half hq.half (by omega)
      rw [show (p - 1) / 2 = p / 2 - 1 by omega] at h1
      rw [show (p - 1) % 2 = 1 by omega, Nat.one_mul] at h2
      omega
    · rw [show (p - 1) / 2 = p / 2 by omega, hp.half.and_] at h1
      omega
theorem next_lt {p s : Nat} (h : 0 < p) : (p - 1) &&& s < p := by
  have := Nat.and_le_left (n := p - 1) (m := s)
  omega

theorem ite_iff {p q : Prop} [Decidable p] [Decidable q] {a : Int} (h : p ↔ q) : (if p then a else 0) = (if q then a else 0) := by
  by_cases hp : p
  · rw [if_pos hp, if_pos (h.1 hp)]
  · rw [if_neg hp, if_neg (fun hq => hp (h.2 hq))]
/-- a bin is emptied: the set's rest needs one less -/
theorem Bins.step {most : Int} {xs : List Int} {s l t : Nat} (hm : 0 ≤ most) (hl : l < xs.length) (hs : s.testBit l = true) (h : Bins most xs s t) :
    ∃ q, Part q s ∧ q.testBit l = true ∧ wsum xs q xs.length ≤ most ∧ 0 < t ∧ Bins most xs (s - q) (t - 1) := by
  obtain ⟨f, h1, h2⟩ := h
  have hft := h1 l hl hs
  refine ⟨mask (fun i => s.testBit i && decide (f i = f l)) xs.length, ?_, ?_, ?_, by omega, ?_⟩
  · intro i hi
    rw [mask_bit] at hi
    simp only [Bool.and_eq_true] at hi
    exact hi.2.1
  · rw [mask_bit]; simp [hl, hs]
  · refine Int.le_trans (Int.le_of_eq (sig_congr fun i hi => ?_)) (h2 (f l))
    rw [mask_bit]
    simp only [hi, decide_true, Bool.true_and, Bool.and_eq_true, decide_eq_true_eq]
  · have hp : Part (mask (fun i => s.testBit i && decide (f i = f l)) xs.length) s := fun i hi => by
      rw [mask_bit] at hi
      simp only [Bool.and_eq_true] at hi
      exact hi.2.1
    have hb : ∀ i, i < xs.length → ((s - mask (fun i => s.testBit i && decide (f i = f l)) xs.length).testBit i = true ↔ s.testBit i = true ∧ f i ≠ f l) := by
      intro i hi
      rw [hp.sub.2 i, mask_bit]
      simp only [hi, decide_true, Bool.true_and, Bool.and_eq_true, Bool.not_eq_true']
      cases hsi : s.testBit i <;> simp
    refine ⟨fun i => if f i = t - 1 then f l else f i, fun i hi hbit => ?_, fun j => ?_⟩
    · obtain ⟨a, b⟩ := (hb i hi).1 hbit
      have := h1 i hi a
      simp only
      split <;> omega
    · by_cases e : j = f l
      · subst e
        by_cases e2 : f l = t - 1
        · refine Int.le_trans (Int.le_of_eq (sig_zero fun i hi => ?_)) hm
          rw [if_neg]
          rintro ⟨a, b⟩
          dsimp only at b
          have := ((hb i hi).1 a).2
          split at b
          · rename_i h3; omega
          · exact this b
        · refine Int.le_trans (Int.le_of_eq (sig_congr fun i hi => ite_iff ⟨?_, ?_⟩)) (h2 (t - 1))
          · rintro ⟨a, b⟩
            obtain ⟨c, d⟩ := (hb i hi).1 a
            refine ⟨c, ?_⟩
            by_cases h3 : f i = t - 1
            · exact h3
            · exact absurd ((if_neg h3).symm.trans b) d
          · rintro ⟨c, d⟩
            exact ⟨(hb i hi).2 ⟨c, by omega⟩, if_pos d⟩
      · by_cases e3 : j = t - 1
        · refine Int.le_trans (Int.le_of_eq (sig_zero fun i hi => ?_)) hm
          rw [if_neg]
          rintro ⟨_, b⟩
          dsimp only at b
          split at b
          · exact e b.symm
          · omega
        · refine Int.le_trans (Int.le_of_eq (sig_congr fun i hi => ite_iff ⟨?_, ?_⟩)) (h2 j)
          · rintro ⟨a, b⟩
            refine ⟨((hb i hi).1 a).1, ?_⟩
            by_cases h3 : f i = t - 1
            · exact absurd ((if_pos h3).symm.trans b).symm e
            · exact (if_neg h3).symm.trans b
          · rintro ⟨c, d⟩
            exact ⟨(hb i hi).2 ⟨c, by omega⟩, (if_neg (by omega)).trans d⟩
/-- a part in one bin more -/
theorem Bins.back {most : Int} {xs : List Int} {s q t : Nat} (hq : Part q s) (hw : wsum xs q xs.length ≤ most) (h : Bins most xs (s - q) t) : Bins most xs s (t + 1) := by
  obtain ⟨f, h1, h2⟩ := h
  have hb := hq.sub.2
  refine ⟨fun i => if q.testBit i = true then t else f i, fun i hi hs => ?_, fun j => ?_⟩
  · by_cases e : q.testBit i = true
    · simp only [if_pos e]; omega
    · simp only [if_neg e]
      have := h1 i hi (by rw [hb i, hs]; simpa using e)
      omega
  · by_cases ej : j = t
    · subst ej
      refine Int.le_trans (Int.le_of_eq (sig_congr fun i hi => ite_iff ⟨?_, ?_⟩)) hw
      · rintro ⟨a, b⟩
        cases e : q.testBit i
        · exfalso
          have h3 : f i = j := (if_neg (by simp [e])).symm.trans b
          have := h1 i hi (by rw [hb i, a, e]; rfl)
          omega
        · rfl
      · intro e
        exact ⟨hq i e, if_pos e⟩
    · refine Int.le_trans (Int.le_of_eq (sig_congr fun i hi => ite_iff ⟨?_, ?_⟩)) (h2 j)
      · rintro ⟨a, b⟩
        cases e : q.testBit i
        · exact ⟨by rw [hb i, a, e]; rfl, (if_neg (by simp [e])).symm.trans b⟩
        · exact absurd ((if_pos e).symm.trans b).symm ej
      · rintro ⟨c, d⟩
        rw [hb i, Bool.and_eq_true] at c
        exact ⟨c.1, (if_neg (by simpa using c.2)).trans d⟩
/-- the last load of a set -/
theorem part_last {p s l : Nat} (hs : s < 2 ^ (l + 1)) (hp : Part p s) (hb : p.testBit l = false) : p < 2 ^ l := by
  have hle := hp.sub.1
  have : p < 2 ^ (l + 1) := by omega
  rcases Nat.lt_or_ge p (2 ^ l) with h | h
  · exact h
  · have : p.testBit l = true := by
      rw [Nat.testBit_eq_decide_div_mod_eq]
      have h1 : p / 2 ^ l = 1 := by
        have h3 : 2 ^ (l + 1) = 2 * 2 ^ l := by rw [Nat.pow_succ]; omega
        have h2 : 0 < 2 ^ l := Nat.two_pow_pos l
        rw [Nat.div_eq_iff h2]
        omega
      rw [h1]; rfl
    rw [hb] at this; cases this
theorem bit_ge {q l : Nat} (h : q.testBit l = true) : 2 ^ l ≤ q := Nat.ge_two_pow_of_testBit h

/-- the number's own property -/
def Least (most : Int) (xs : List Int) (s : Nat) (v : Int) : Prop := 0 ≤ v ∧ ∀ t : Nat, v ≤ t ↔ Bins most xs s t
/-- in the midst of a set's parts: those above p are done -/
structure DPI (most : Int) (xs : List Int) (D : Nat → Int) (s l p : Nat) (v : Int) : Prop where
  part : Part p s
  done : ∀ q, Part q s → p < q → q.testBit l = true → wsum xs q xs.length ≤ most → v ≤ D (s - q) + 1
  some : v = xs.length ∨ ∃ q, Part q s ∧ q.testBit l = true ∧ wsum xs q xs.length ≤ most ∧ v = D (s - q) + 1
theorem DPI.start {most : Int} {xs : List Int} {D : Nat → Int} {s l : Nat} : DPI most xs D s l s (xs.length : Int) :=
  ⟨fun _ h => h, fun q hq hlt => by have := hq.sub.1; omega, .inl rfl⟩
theorem DPI.take {most : Int} {xs : List Int} {D : Nat → Int} {s l p : Nat} {v : Int} (h : DPI most xs D s l p v) (hp : 0 < p) (hb : p.testBit l = true) (hw : wsum xs p xs.length ≤ most) : DPI most xs D s l ((p - 1) &&& s) (min v (D (s - p) + 1)) := by
  refine ⟨part_and _ _, fun q hq hlt hql hqw => ?_, ?_⟩
  · by_cases e : q = p
    · subst e; omega
    · by_cases e2 : p < q
      · have := h.done q hq e2 hql hqw; omega
      · have := part_next h.part hq (by omega); omega
  · by_cases e : v ≤ D (s - p) + 1
    · rw [show min v (D (s - p) + 1) = v by omega]; exact h.some
    · exact .inr ⟨p, h.part, hb, hw, by omega⟩
theorem DPI.skip {most : Int} {xs : List Int} {D : Nat → Int} {s l p : Nat} {v : Int} (h : DPI most xs D s l p v) (hw : ¬ wsum xs p xs.length ≤ most) : DPI most xs D s l ((p - 1) &&& s) v := by
  refine ⟨part_and _ _, fun q hq hlt hql hqw => ?_, h.some⟩
  by_cases e : q = p
  · subst e; exact absurd hqw hw
  · by_cases e2 : p < q
    · exact h.done q hq e2 hql hqw
    · have := part_next h.part hq (by omega); omega
theorem DPI.least {most : Int} {xs : List Int} {D : Nat → Int} {s l p : Nat} {v : Int} (hx : ∀ x ∈ xs, 1 ≤ x ∧ x ≤ most) (hm : 0 ≤ most) (hl : l < xs.length) (hsl : s.testBit l = true) (hs2 : s < 2 ^ (l + 1))
    (hD : ∀ q, q < s → Least most xs q (D q)) (h : DPI most xs D s l p v) (hp : p.testBit l = false) : Least most xs s v := by
  have hpl := part_last hs2 h.part hp
  have h2 : 0 < 2 ^ l := Nat.two_pow_pos l
  refine ⟨?_, fun t => ⟨fun hvt => ?_, fun hb => ?_⟩⟩
  · rcases h.some with e | ⟨q, hq, hql, hqw, e⟩
    · omega
    · have hq0 := bit_ge hql
      have hlt : s - q < s := by have := bit_ge hsl; omega
      have := (hD (s - q) hlt).1
      omega
  · rcases h.some with e | ⟨q, hq, hql, hqw, e⟩
    · exact (Bins.each hx hm s).mono (by omega)
    · have hq0 := bit_ge hql
      have hlt : s - q < s := by have := bit_ge hsl; omega
      have hd0 := (hD (s - q) hlt).1
      have hd := ((hD (s - q) hlt).2 (t - 1)).1
      have := Bins.back hq hqw (hd (by omega))
      rw [show t - 1 + 1 = t by omega] at this
      exact this
  · obtain ⟨q, hq, hql, hqw, ht, hb'⟩ := hb.step hm hl hsl
    have hq0 := bit_ge hql
    have hlt : s - q < s := by have := bit_ge hsl; omega
    have := ((hD (s - q) hlt).2 (t - 1)).2 hb'
    have := h.done q hq (by omega) hql hqw
    omega

/-! the searches' number -/
def asum (xs : List Int) (f : Nat → Nat) (j : Nat) : Int := sig (fun i => if f i = j then xs.getD i 0 else 0) xs.length
theorem asum_cons (x : Int) (xs : List Int) (f : Nat → Nat) (j : Nat) : asum (x :: xs) f j = (if f 0 = j then x else 0) + asum xs (fun i => f (i + 1)) j := by
  unfold asum
  rw [List.length_cons, sig_shift]
  rfl
theorem asum_nn {xs : List Int} (h : ∀ x ∈ xs, 0 ≤ x) (f : Nat → Nat) (j : Nat) : 0 ≤ asum xs f j := by
  refine Int.le_trans (Int.le_of_eq (sig_zero (g := fun _ => 0) (n := xs.length) fun i hi => rfl).symm) (sig_le fun i hi => ?_)
  split
  · rw [getD_lt xs 0 hi]; exact h _ (List.getElem_mem hi)
  · exact Int.le_refl _
theorem feas_fun {most : Int} {xs : List Int} (hx : ∀ x ∈ xs, 0 ≤ x) : ∀ s : List Int, (∀ v ∈ s, v ≤ most) → (Feas most xs s ↔ ∃ f : Nat → Nat, (∀ i, i < xs.length → f i < s.length) ∧ ∀ j (hj : j < s.length), s[j] + asum xs f j ≤ most) := by
  induction xs with
  | nil =>
    intro s hs
    refine ⟨fun _ => ⟨fun _ => 0, fun i hi => by simp at hi, fun j hj => ?_⟩, fun _ => trivial⟩
    have := hs _ (List.getElem_mem hj)
    simp [asum, sig]
    exact this
  | cons x xs ih =>
    intro s hs
    have hx' : ∀ y ∈ xs, 0 ≤ y := fun y hy => hx y (List.mem_cons_of_mem _ hy)
    constructor
    · intro h
      obtain ⟨k, hk, hm, hf⟩ := h.get
      obtain ⟨f, h1, h2⟩ := (ih hx' (s.set k (s[k] + x)) (fun v hv => by
        rcases List.mem_or_eq_of_mem_set hv with h | h
        · exact hs v h
        · rw [h]; exact hm)).1 hf
      refine ⟨fun i => match i with | 0 => k | i + 1 => f i, fun i hi => ?_, fun j hj => ?_⟩
      · cases i with
        | zero => exact hk
        | succ i => have := h1 i (by simpa using hi); simpa using this
      · rw [asum_cons]
        show s[j] + ((if k = j then x else 0) + asum xs f j) ≤ most
        have := h2 j (by simpa using hj)
        rw [List.getElem_set] at this
        by_cases e : k = j
        · subst e
          rw [if_pos rfl] at this
          simp only [if_pos]
          omega
        · rw [if_neg e] at this
          simp only [if_neg e]
          omega
    · rintro ⟨f, h1, h2⟩
      have hk : f 0 < s.length := h1 0 (by simp)
      have h3 := h2 (f 0) hk
      rw [asum_cons, if_pos rfl] at h3
      have := asum_nn hx' (fun i => f (i + 1)) (f 0)
      refine Feas.at_ hk (by omega) ((ih hx' _ (fun v hv => ?_)).2 ⟨fun i => f (i + 1), fun i hi => ?_, fun j hj => ?_⟩)
      · rcases List.mem_or_eq_of_mem_set hv with h | h
        · exact hs v h
        · rw [h]; omega
      · have := h1 (i + 1) (by simpa using hi); simpa using this
      · have h4 := h2 j (by simpa using hj)
        rw [asum_cons] at h4
        rw [List.getElem_set]
        by_cases e : f 0 = j
        · subst e
          rw [if_pos rfl] at h4 ⊢
          omega
        · rw [if_neg e] at h4 ⊢
          omega
theorem bins_feas {most : Int} {xs : List Int} (hx : ∀ x ∈ xs, 0 ≤ x) (hm : 0 ≤ most) (t : Nat) : Bins most xs (2 ^ xs.length - 1) t ↔ Feas most xs (List.replicate t 0) := by
  have hbit : ∀ i, i < xs.length → (2 ^ xs.length - 1).testBit i = true := fun i hi => by rw [Nat.testBit_two_pow_sub_one]; simpa using hi
  have hs : ∀ f j, bsum xs (2 ^ xs.length - 1) f j = asum xs f j := fun f j => sig_congr fun i hi => by simp [hbit i hi]
  rw [feas_fun hx _ (fun v hv => by have := List.eq_of_mem_replicate hv; omega)]
  constructor
  · rintro ⟨f, h1, h2⟩
    refine ⟨f, fun i hi => by have := h1 i hi (hbit i hi); simpa using this, fun j hj => ?_⟩
    have := h2 j
    rw [hs] at this
    simpa using this
  · rintro ⟨f, h1, h2⟩
    refine ⟨f, fun i hi _ => by have := h1 i hi; simpa using this, fun j => ?_⟩
    rw [hs]
    by_cases hj : j < t
    · have := h2 j (by simpa using hj)
      simpa using this
    · refine Int.le_trans (Int.le_of_eq (sig_zero fun i hi => ?_)) hm
      rw [if_neg]
      intro e
      have := h1 i hi
      simp at this
      omega
/-- both numbers are one -/
theorem least_few {most : Int} {xs : List Int} (hx : ∀ x ∈ xs, 1 ≤ x ∧ x ≤ most) (hm : 0 ≤ most) {v : Int} (hv : Least most xs (2 ^ xs.length - 1) v) :
    ∃ l, l ∈ lvs most xs [] [] ∧ (lvs most xs [] []).foldl upd (-1, []) = ((l.2 : Int), l.1) ∧ v = l.2 ∧ (lvs most xs [] []).find? (fun x => x.2 ≤ l.2) = some l := by
  have hf : ∀ t : Nat, v ≤ t ↔ ∃ l ∈ lvs most xs [] [], l.2 ≤ t := fun t => by
    rw [hv.2 t, bins_feas (fun x h => by have := hx x h; omega) hm, lvs_feas (sums := []) (wh := []) (Nat.zero_le t)]
    simp
  have hne : lvs most xs [] [] ≠ [] := by
    intro e
    obtain ⟨l, hl, _⟩ := (hf xs.length).1 ((hv.2 _).2 (Bins.each hx hm _))
    rw [e] at hl
    cases hl
  obtain ⟨l, h1, h2, h3, h4⟩ := upd_first hne
  refine ⟨l, h1, h2, ?_, h4⟩
  have a := (hf l.2).2 ⟨l, h1, Nat.le_refl _⟩
  have h0 := hv.1
  obtain ⟨l', h5, h6⟩ := (hf v.toNat).1 (by omega)
  have := h3 l' h5
  omega
end Go.Proofs.Ytcookepklcbfeaa
