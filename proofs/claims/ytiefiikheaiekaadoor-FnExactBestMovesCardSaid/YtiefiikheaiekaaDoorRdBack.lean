/-
  Texts that are read back, the plain part: joined and parted again.
-/
import Derived.Test.YtiefiikheaiekaaDoorRdPlain
namespace Go.Proofs.YtiefiikheaiekaaDoor

/-! ## texts -/
theorem splA_pre (b : UInt8) (x : List UInt8) : ∀ (acc rest : List UInt8), b ∉ x → splA b acc (x ++ rest) = splA b (acc ++ x) rest := by
  induction x with
  | nil => intro acc rest _; simp
  | cons c r ih =>
    intro acc rest h
    have h1 : c ≠ b := fun e => h (by rw [e]; exact List.mem_cons_self)
    rw [List.cons_append, splA_miss _ _ h1, ih _ _ (fun hm => h (List.mem_cons_of_mem _ hm)), List.append_assoc]
    rfl
theorem spl_join (b : UInt8) : ∀ (L : List (List UInt8)), L ≠ [] → (∀ p ∈ L, b ∉ p) → spl b (Lib.join L [b]) = L := by
  intro L
  induction L with
  | nil => intro h; exact absurd rfl h
  | cons x r ih =>
    intro _ hp
    have hx := hp x List.mem_cons_self
    by_cases hr : r = []
    · subst hr
      rw [Lib.join_one]
      have := splA_pre b x [] [] hx
      rw [List.append_nil, List.nil_append] at this
      unfold spl
      rw [this, splA_nil]
    · have h1 := ih hr (fun p h => hp p (List.mem_cons_of_mem _ h))
      rw [join_more _ hr]
      unfold spl at h1 ⊢
      rw [splA_pre b x [] _ hx, List.nil_append, List.singleton_append, splA_hit _ _ rfl, h1]
theorem dec_digit (u : Nat) : ∀ c ∈ Lib.decDigits u, 48 ≤ c.toNat ∧ c.toNat ≤ 57 := by
  induction u using Nat.strongRecOn with
  | _ u ih =>
    rw [Lib.decDigits]
    by_cases h : u < 10
    · rw [dif_pos h]
      intro c hc
      simp only [List.mem_singleton] at hc
      subst hc
      have e : (UInt8.ofNat (48 + u)).toNat = 48 + u := by simp; omega
      omega
    · rw [dif_neg h]
      intro c hc
      rcases List.mem_append.1 hc with hc | hc
      · exact ih (u / 10) (by omega) c hc
      · simp only [List.mem_singleton] at hc
        subst hc
        have e : (UInt8.ofNat (48 + u % 10)).toNat = 48 + u % 10 := by simp; omega
        omega
theorem dec_len (k : Nat) : ∀ u : Nat, u < 10 ^ (k + 1) → (Lib.decDigits u).length ≤ k + 1 := by
  induction k with
  | zero =>
    intro u h
    rw [Lib.decDigits, dif_pos (by omega)]
    simp
  | succ k ih =>
    intro u h
    rw [Lib.decDigits]
    by_cases h1 : u < 10
    · rw [dif_pos h1]; simp
    · rw [dif_neg h1, List.length_append]
      have := ih (u / 10) (by rw [Nat.pow_succ] at h; omega)
      simp
      omega
theorem itoa_pos {n : Int} (h : 0 ≤ n) : Lib.itoa n = Lib.decDigits n.toNat := by
  unfold Lib.itoa
  rw [if_neg (by omega)]
theorem itoa_digit {n : Int} (h : 0 ≤ n) : ∀ c ∈ Lib.itoa n, 48 ≤ c.toNat ∧ c.toNat ≤ 57 := by
  rw [itoa_pos h]
  exact dec_digit _
theorem rdN_itoa {n : Int} (h0 : 0 ≤ n) (h1 : n < 1000000000000000000) : rdN (Lib.itoa n) = some n := by
  rw [← rdS_eq]
  have ht := trm_itoa n
  have e : n.natAbs = n.toNat := by omega
  rw [e] at ht
  have hl := dec_len 17 n.toNat (by have : (10 : Nat) ^ (17 + 1) = 1000000000000000000 := by decide
                                    omega)
  have hp := List.length_pos_iff.2 (dec_ne n.toNat)
  unfold rdS
  rw [ht, dv_dec, if_pos ⟨hp, by omega⟩]
  have hs : sgd (Lib.itoa n) n.toNat = n := by
    unfold sgd
    rw [ht, itoa_pos h0, if_neg (by omega)]
    omega
  simp only [hs]
  rfl
theorem mapO_map_some {α β : Type} {f : α → Option β} {g : β → α} : ∀ {ys : List β}, (∀ y ∈ ys, f (g y) = some y) → mapO f (ys.map g) = some ys
  | [], _ => rfl
  | y :: r, h => by
    rw [List.map_cons, mapO, h y List.mem_cons_self, mapO_map_some fun z hz => h z (List.mem_cons_of_mem _ hz)]
    rfl
theorem join_mem (b c : UInt8) : ∀ (L : List (List UInt8)), c ∈ Lib.join L [b] → c = b ∨ ∃ p ∈ L, c ∈ p := by
  intro L
  induction L with
  | nil => intro h; simp [Lib.join_nil] at h
  | cons x r ih =>
    intro h
    by_cases hr : r = []
    · subst hr
      rw [Lib.join_one] at h
      exact .inr ⟨x, List.mem_cons_self, h⟩
    · rw [join_more _ hr] at h
      rcases List.mem_append.1 h with h | h
      · exact .inr ⟨x, List.mem_cons_self, h⟩
      · rw [List.singleton_append] at h
        rcases List.mem_cons.1 h with h | h
        · exact .inl h
        · rcases ih h with h | ⟨p, hp, h⟩
          · exact .inl h
          · exact .inr ⟨p, List.mem_cons_of_mem _ hp, h⟩
end Go.Proofs.YtiefiikheaiekaaDoor
