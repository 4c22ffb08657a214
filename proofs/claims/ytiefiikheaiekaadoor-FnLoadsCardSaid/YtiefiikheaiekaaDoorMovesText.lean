/-
  The text of a yard tells the yard.
-/
import Derived.Test.YtiefiikheaiekaaDoorRows
import Derived.Lib.Join
import Derived.Lib.ItoaNum
import Derived.Lib.SplitLaws
import Derived.Lib.ParseIntBTie
import Derived.Lib.Strings
import Derived.Test.YtiefiikheaiekaaDoorYardZ
/-
  Texts that are read back, the plain part: the parts between bytes, the numbers in decimal.
-/
namespace Go.Proofs.YtiefiikheaiekaaDoor

/-- the parts between bytes, behind what has been read of the first one -/
def splA (b : UInt8) : List UInt8 → List UInt8 → List (List UInt8)
  | acc, [] => [acc]
  | acc, c :: r => if c = b then acc :: splA b [] r else splA b (acc ++ [c]) r
def spl (b : UInt8) (s : List UInt8) : List (List UInt8) := splA b [] s
theorem splA_nil (b : UInt8) (acc : List UInt8) : splA b acc [] = [acc] := rfl
theorem splA_hit {b c : UInt8} (acc r : List UInt8) (h : c = b) : splA b acc (c :: r) = acc :: splA b [] r := by
  rw [splA, if_pos h]
theorem splA_miss {b c : UInt8} (acc r : List UInt8) (h : c ≠ b) : splA b acc (c :: r) = splA b (acc ++ [c]) r := by
  rw [splA, if_neg h]
theorem splA_ne (b : UInt8) (s : List UInt8) : ∀ acc, splA b acc s ≠ [] := by
  induction s with
  | nil => intro acc; simp [splA]
  | cons c r ih =>
    intro acc
    by_cases h : c = b
    · rw [splA_hit _ _ h]; simp
    · rw [splA_miss _ _ h]; exact ih _
theorem splA_len (b : UInt8) (s : List UInt8) : ∀ acc, (splA b acc s).length = s.count b + 1 := by
  induction s with
  | nil => intro acc; simp [splA]
  | cons c r ih =>
    intro acc
    by_cases h : c = b
    · rw [splA_hit _ _ h, List.length_cons, ih, h, List.count_cons_self]
    · rw [splA_miss _ _ h, ih, List.count_cons_of_ne h]
theorem spl_len (b : UInt8) (s : List UInt8) : (spl b s).length = s.count b + 1 := splA_len b s []
theorem splA_lens (b : UInt8) (s : List UInt8) : ∀ acc, ∀ p ∈ splA b acc s, p.length ≤ acc.length + s.length := by
  induction s with
  | nil => intro acc p hp; simp [splA] at hp; subst hp; simp
  | cons c r ih =>
    intro acc p hp
    by_cases h : c = b
    · rw [splA_hit _ _ h] at hp
      rcases List.mem_cons.1 hp with rfl | hp
      · omega
      · have := ih _ p hp
        simp at this ⊢
        omega
    · rw [splA_miss _ _ h] at hp
      have := ih _ p hp
      simp at this ⊢
      omega
theorem join_more (x : List UInt8) {r : List (List UInt8)} (h : r ≠ []) (sep : List UInt8) : Lib.join (x :: r) sep = x ++ (sep ++ Lib.join r sep) := by
  cases r with
  | nil => exact absurd rfl h
  | cons y q =>
    rw [Lib.join_cons, Lib.join_cons]
    simp [Lib.joinTail]
theorem join_splA (b : UInt8) (s : List UInt8) : ∀ acc, Lib.join (splA b acc s) [b] = acc ++ s := by
  induction s with
  | nil => intro acc; rw [splA_nil, Lib.join_one, List.append_nil]
  | cons c r ih =>
    intro acc
    by_cases h : c = b
    · rw [splA_hit _ _ h, join_more _ (splA_ne b r []), ih, h]
      simp
    · rw [splA_miss _ _ h, ih, List.append_assoc]
      rfl
theorem join_spl (b : UInt8) (s : List UInt8) : Lib.join (spl b s) [b] = s := by
  unfold spl
  rw [join_splA]
  rfl
theorem splA_index (b : UInt8) (s : List UInt8) : ∀ acc, (Lib.index s [b] = -1 ∧ splA b acc s = [acc ++ s]) ∨ ∃ i : Nat, Lib.index s [b] = i ∧ splA b acc s = (acc ++ s.take i) :: splA b [] (s.drop (i + 1)) := by
  induction s with
  | nil => intro acc; exact .inl ⟨rfl, by rw [splA_nil, List.append_nil]⟩
  | cons c r ih =>
    intro acc
    by_cases h : c = b
    · refine .inr ⟨0, ?_, ?_⟩
      · unfold Lib.index
        rw [if_pos (by simp [List.isPrefixOf, h])]
        rfl
      · rw [splA_hit _ _ h]
        simp
    · have hp : ¬ (List.isPrefixOf [b] (c :: r) = true) := by
        simp [List.isPrefixOf]
        exact fun e => h e.symm
      rw [splA_miss _ _ h]
      rcases ih (acc ++ [c]) with ⟨h1, h2⟩ | ⟨i, h1, h2⟩
      · refine .inl ⟨?_, ?_⟩
        · unfold Lib.index
          rw [if_neg hp, if_pos (by rw [h1]; rfl)]
        · rw [h2, List.append_assoc]
          rfl
      · refine .inr ⟨i + 1, ?_, ?_⟩
        · unfold Lib.index
          rw [if_neg hp, if_neg (by rw [h1, beq_iff_eq]; omega), h1]
          omega
        · rw [h2, List.append_assoc]
          rfl
theorem splitK_full (b : UInt8) : ∀ (k : Nat) (s : List UInt8), (spl b s).length ≤ k + 1 → Lib.splitK [b] 0 k s = spl b s := by
  intro k
  induction k with
  | zero =>
    intro s h
    rcases splA_index b s [] with ⟨_, h2⟩ | ⟨i, _, h2⟩
    · unfold spl
      rw [h2]
      rfl
    · exfalso
      unfold spl at h
      rw [h2, List.length_cons] at h
      have := List.length_pos_iff.2 (splA_ne b (s.drop (i + 1)) [])
      omega
  | succ k ih =>
    intro s h
    rcases splA_index b s [] with ⟨h1, h2⟩ | ⟨i, h1, h2⟩
    · unfold spl Lib.splitK
      rw [h2, if_pos (by rw [h1]; rfl)]
      rfl
    · unfold spl at h ⊢
      rw [h2, List.length_cons] at h
      unfold Lib.splitK
      rw [h2, if_neg (by rw [h1, beq_iff_eq]; omega), h1]
      have := ih (s.drop (i + 1)) (by unfold spl; omega)
      unfold spl at this
      rw [← this]
      rfl
theorem splitK_many (b : UInt8) : ∀ (k : Nat) (s : List UInt8), k + 1 ≤ (spl b s).length → (Lib.splitK [b] 0 k s).length = k + 1 := by
  intro k
  induction k with
  | zero => intro s _; rfl
  | succ k ih =>
    intro s h
    rcases splA_index b s [] with ⟨_, h2⟩ | ⟨i, h1, h2⟩
    · exfalso
      unfold spl at h
      rw [h2] at h
      simp at h
    · unfold spl at h
      rw [h2, List.length_cons] at h
      unfold Lib.splitK
      rw [if_neg (by rw [h1, beq_iff_eq]; omega), h1, List.length_cons]
      have := ih (s.drop (i + 1)) (by unfold spl; omega)
      show (Lib.splitK [b] 0 k (s.drop (i + 1))).length + 1 = _
      rw [this]
/-- at most so many parts -/
def spN (b : UInt8) (n : Nat) (s : List UInt8) : List (List UInt8) := Lib.splitK [b] 0 (min n (s.length + 1) - 1) s
theorem spl_len_le (b : UInt8) (s : List UInt8) : (spl b s).length ≤ s.length + 1 := by
  rw [spl_len]
  have := List.count_le_length (a := b) (l := s)
  omega
theorem spN_full {b : UInt8} {n : Nat} {s : List UInt8} (h : (spl b s).length ≤ n) : spN b n s = spl b s := by
  have h1 := spl_len_le b s
  exact splitK_full b _ s (by omega)
theorem spN_many {b : UInt8} {n : Nat} {s : List UInt8} (h0 : 1 ≤ n) (h : n ≤ (spl b s).length) : (spN b n s).length = n := by
  have h1 := spl_len_le b s
  unfold spN
  rw [splitK_many b _ s (by omega)]
  omega
theorem spN_le (b : UInt8) {n : Nat} (s : List UInt8) (h0 : 1 ≤ n) : (spN b n s).length ≤ n := by
  by_cases h : (spl b s).length ≤ n
  · rw [spN_full h]; exact h
  · rw [spN_many h0 (by omega)]; omega

/-- digits -/
def dv (acc : Nat) : List UInt8 → Option Nat
  | [] => some acc
  | c :: r => if 48 ≤ c.toNat ∧ c.toNat ≤ 57 then dv (acc * 10 + (c.toNat - 48)) r else none
theorem dv_app (l : List UInt8) : ∀ (acc : Nat) (m : List UInt8), dv acc (l ++ m) = (dv acc l).bind fun a => dv a m := by
  induction l with
  | nil => intro acc m; rfl
  | cons c r ih =>
    intro acc m
    rw [List.cons_append, dv, dv]
    by_cases h : 48 ≤ c.toNat ∧ c.toNat ≤ 57
    · rw [if_pos h, if_pos h, ih]
    · rw [if_neg h, if_neg h]
      rfl
theorem dv_bound (l : List UInt8) : ∀ (acc u : Nat), dv acc l = some u → acc * 10 ^ l.length ≤ u ∧ u < (acc + 1) * 10 ^ l.length := by
  induction l with
  | nil => intro acc u h; simp only [dv, Option.some.injEq] at h; subst h; simp
  | cons c r ih =>
    intro acc u h
    rw [dv] at h
    by_cases hc : 48 ≤ c.toNat ∧ c.toNat ≤ 57
    · rw [if_pos hc] at h
      obtain ⟨h1, h2⟩ := ih _ _ h
      rw [List.length_cons, Nat.pow_succ]
      have hp : 0 < 10 ^ r.length := Nat.pow_pos (by omega)
      generalize 10 ^ r.length = q at *
      constructor
      · refine Nat.le_trans ?_ h1
        rw [← Nat.mul_assoc, Nat.mul_right_comm]
        exact Nat.mul_le_mul (by omega) (Nat.le_refl _)
      · refine Nat.lt_of_lt_of_le h2 ?_
        rw [← Nat.mul_assoc, Nat.mul_right_comm]
        exact Nat.mul_le_mul (by omega) (Nat.le_refl _)
    · rw [if_neg hc] at h
      cases h
theorem dv_parse (l : List UInt8) : ∀ (acc u : Nat), dv acc l = some u → u < 1000000000000000000 → Lib.parseUintM 18446744073709551615 acc l = .ok u := by
  induction l with
  | nil => intro acc u h _; simp only [dv, Option.some.injEq] at h; subst h; rfl
  | cons c r ih =>
    intro acc u h hu
    rw [dv] at h
    by_cases hc : 48 ≤ c.toNat ∧ c.toNat ≤ 57
    · rw [if_pos hc] at h
      obtain ⟨h1, _⟩ := dv_bound r _ _ h
      have hp : 0 < 10 ^ r.length := Nat.pow_pos (by omega)
      have h3 : acc * 10 + (c.toNat - 48) ≤ u := Nat.le_trans (Nat.le_mul_of_pos_right _ hp) h1
      rw [Lib.parseUintM, if_pos hc, if_neg (by omega), if_neg (by omega)]
      exact ih _ _ h hu
    · rw [if_neg hc] at h
      cases h
theorem dv_dec (u : Nat) : dv 0 (Lib.decDigits u) = some u := by
  induction u using Nat.strongRecOn with
  | _ u ih =>
    rw [Lib.decDigits]
    by_cases h : u < 10
    · rw [dif_pos h]
      have e : (UInt8.ofNat (48 + u)).toNat = 48 + u := by simp; omega
      rw [dv, e, if_pos (by omega), dv]
      congr 1
      omega
    · rw [dif_neg h, dv_app, ih (u / 10) (by omega)]
      have e : (UInt8.ofNat (48 + u % 10)).toNat = 48 + u % 10 := by simp; omega
      show dv (u / 10) [UInt8.ofNat (48 + u % 10)] = _
      rw [dv, e, if_pos (by omega), dv]
      congr 1
      omega
theorem dec_ne (u : Nat) : Lib.decDigits u ≠ [] := by
  rw [Lib.decDigits]
  by_cases h : u < 10
  · rw [dif_pos h]; simp
  · rw [dif_neg h]; simp
theorem dv_head {c : UInt8} {r : List UInt8} {u : Nat} (h : dv 0 (c :: r) = some u) : 48 ≤ c.toNat ∧ c.toNat ≤ 57 := by
  rw [dv] at h
  by_cases hc : 48 ≤ c.toNat ∧ c.toNat ≤ 57
  · exact hc
  · rw [if_neg hc] at h; cases h
/-- behind the sign -/
def trm (s : List UInt8) : List UInt8 := Lib.trimPrefix s [45]
theorem trm_cons (c : UInt8) (r : List UInt8) : trm (c :: r) = if c = 45 then r else c :: r := by
  unfold trm Lib.trimPrefix Lib.hasPrefix
  by_cases h : c = 45
  · rw [if_pos (by simp [List.isPrefixOf, h]), if_pos h]
    rfl
  · rw [if_neg (by simp [List.isPrefixOf]; exact fun e => h e.symm), if_neg h]
theorem trm_nil : trm [] = [] := rfl
/-- the number with a decimal form of at most 18 digits -/
def rdN (s : List UInt8) : Option Int :=
  if (trm s).length ≤ 18 then
    match Lib.parseIntB 64 s with
    | .ok v => if Lib.itoa v = s then some v else none
    | _ => none
  else none
def sgd (s : List UInt8) (u : Nat) : Int := if (trm s).length < s.length then -(u : Int) else u
def rdS (s : List UInt8) : Option Int :=
  if 1 ≤ (trm s).length ∧ (trm s).length ≤ 18 then
    match dv 0 (trm s) with
    | some u => if Lib.itoa (sgd s u) = s then some (sgd s u) else none
    | none => none
  else none
theorem dv_lt {l : List UInt8} {u : Nat} (h : dv 0 l = some u) (hl : l.length ≤ 18) : u < 1000000000000000000 := by
  have := (dv_bound l 0 u h).2
  have h2 : 10 ^ l.length ≤ 10 ^ 18 := Nat.pow_le_pow_right (by omega) hl
  rw [Nat.zero_add, Nat.one_mul] at this
  exact Nat.lt_of_lt_of_le this (Nat.le_trans h2 (by decide))
theorem parseU_dv {l : List UInt8} {u : Nat} (h : dv 0 l = some u) (hl : l.length ≤ 18) (h1 : l ≠ []) : Lib.parseUintB 64 l = .ok u := by
  unfold Lib.parseUintB
  rw [if_neg h1]
  exact dv_parse l 0 u h (dv_lt h hl)
theorem parse_dv {s : List UInt8} {u : Nat} (h : dv 0 (trm s) = some u) (hl : (trm s).length ≤ 18) (h1 : 1 ≤ (trm s).length) : Lib.parseIntB 64 s = .ok (sgd s u) := by
  have hu := dv_lt h hl
  have hp := parseU_dv h hl (fun e => by rw [e] at h1; simp at h1)
  cases s with
  | nil => rw [trm_nil] at h1; simp at h1
  | cons c r =>
    by_cases hc : c = 45
    · subst hc
      rw [trm_cons, if_pos rfl] at hp
      rw [Lib.parseIntB_minus, hp]
      unfold sgd
      rw [trm_cons, if_pos rfl, if_pos (by simp)]
      show (if 2 ^ 63 < u then _ else _) = _
      rw [if_neg (by omega)]
    · have ht : trm (c :: r) = c :: r := by rw [trm_cons, if_neg hc]
      rw [ht] at hp h
      have hd := dv_head h
      rw [Lib.parseIntB_plain 64 c r (by omega) (by omega), hp]
      unfold sgd
      rw [ht, if_neg (by omega)]
      show (if 2 ^ 63 ≤ u then _ else _) = _
      rw [if_neg (by omega)]
theorem trm_itoa (v : Int) : trm (Lib.itoa v) = Lib.decDigits v.natAbs := by
  unfold Lib.itoa
  by_cases h : v < 0
  · rw [if_pos h, trm_cons, if_pos rfl]
  · rw [if_neg h]
    have e : v.toNat = v.natAbs := by omega
    rw [e]
    have hn := dec_ne v.natAbs
    have hd := dv_dec v.natAbs
    generalize Lib.decDigits v.natAbs = l at *
    cases l with
    | nil => exact absurd rfl hn
    | cons c r =>
      have := dv_head hd
      rw [trm_cons, if_neg (fun e => by rw [e] at this; simp at this)]
theorem rdS_eq (s : List UInt8) : rdS s = rdN s := by
  unfold rdS rdN
  by_cases hl : (trm s).length ≤ 18
  · rw [if_pos hl]
    by_cases h1 : 1 ≤ (trm s).length
    · rw [if_pos ⟨h1, hl⟩]
      cases hd : dv 0 (trm s) with
      | some u => rw [parse_dv hd hl h1]
      | none =>
        rcases hp : Lib.parseIntB 64 s with v | _ | _
        · show none = if Lib.itoa v = s then some v else none
          by_cases hv : Lib.itoa v = s
          · exfalso
            rw [← hv, trm_itoa, dv_dec] at hd
            cases hd
          · rw [if_neg hv]
        · rfl
        · rfl
    · rw [if_neg (fun h => h1 h.1)]
      rcases hp : Lib.parseIntB 64 s with v | _ | _
      · show none = if Lib.itoa v = s then some v else none
        by_cases hv : Lib.itoa v = s
        · exfalso
          rw [← hv, trm_itoa] at h1
          exact h1 (List.length_pos_iff.2 (dec_ne _))
        · rw [if_neg hv]
      · rfl
      · rfl
  · rw [if_neg hl, if_neg (fun h => hl h.2)]
theorem rdN_some {s : List UInt8} {v : Int} (h : rdN s = some v) : Lib.itoa v = s := by
  unfold rdN at h
  split at h
  · split at h
    · split at h
      · rename_i h2
        rw [← Option.some.inj h]
        exact h2
      · cases h
    · cases h
  · cases h

/-- all or none -/
def mapO {α β : Type} (f : α → Option β) : List α → Option (List β)
  | [] => some []
  | x :: r => match f x with
    | none => none
    | some y => (mapO f r).map (y :: ·)
theorem mapO_snoc {α β : Type} (f : α → Option β) (l : List α) : ∀ (x : α) (ys : List β) (y : β), mapO f l = some ys → f x = some y → mapO f (l ++ [x]) = some (ys ++ [y]) := by
  induction l with
  | nil => intro x ys y h1 h2; simp only [mapO, Option.some.injEq] at h1; subst h1; simp [mapO, h2]
  | cons a r ih =>
    intro x ys y h1 h2
    rw [mapO] at h1
    rw [List.cons_append, mapO]
    cases ha : f a with
    | none => rw [ha] at h1; cases h1
    | some b =>
      rw [ha] at h1
      cases hr : mapO f r with
      | none => rw [hr] at h1; cases h1
      | some zs =>
        rw [hr] at h1
        simp only [Option.map_some, Option.some.injEq] at h1
        subst h1
        show Option.map (b :: ·) (mapO f (r ++ [x])) = _
        rw [ih x zs y hr h2]
        rfl
theorem mapO_none {α β : Type} {f : α → Option β} {l : List α} {x : α} (hx : x ∈ l) (h : f x = none) : mapO f l = none := by
  induction l with
  | nil => cases hx
  | cons a r ih =>
    rw [mapO]
    rcases List.mem_cons.1 hx with rfl | hx
    · rw [h]
    · rw [ih hx]
      cases f a <;> rfl
theorem mapO_len {α β : Type} {f : α → Option β} : ∀ {l : List α} {ys : List β}, mapO f l = some ys → ys.length = l.length := by
  intro l
  induction l with
  | nil => intro ys h; simp only [mapO, Option.some.injEq] at h; subst h; rfl
  | cons a r ih =>
    intro ys h
    rw [mapO] at h
    cases ha : f a with
    | none => rw [ha] at h; cases h
    | some b =>
      rw [ha] at h
      cases hr : mapO f r with
      | none => rw [hr] at h; cases h
      | some zs =>
        rw [hr] at h
        simp only [Option.map_some, Option.some.injEq] at h
        subst h
        rw [List.length_cons, List.length_cons, ih hr]
theorem mapO_back {α β : Type} {f : α → Option β} {g : β → α} (hfg : ∀ x y, f x = some y → g y = x) : ∀ {l : List α} {ys : List β}, mapO f l = some ys → ys.map g = l := by
  intro l
  induction l with
  | nil => intro ys h; simp only [mapO, Option.some.injEq] at h; subst h; rfl
  | cons a r ih =>
    intro ys h
    rw [mapO] at h
    cases ha : f a with
    | none => rw [ha] at h; cases h
    | some b =>
      rw [ha] at h
      cases hr : mapO f r with
      | none => rw [hr] at h; cases h
      | some zs =>
        rw [hr] at h
        simp only [Option.map_some, Option.some.injEq] at h
        subst h
        rw [List.map_cons, hfg _ _ ha, ih hr]
theorem mapO_all {α β : Type} {f : α → Option β} {l : List α} {k : Nat} {ys : List β} (h : mapO f l = some ys) (hk : k < l.length) : ∃ y, f l[k] = some y := by
  cases hf : f l[k] with
  | some y => exact ⟨y, rfl⟩
  | none => rw [mapO_none (List.getElem_mem hk) hf] at h; cases h
/-- so many numbers between bytes -/
def rdNs (b : UInt8) (n : Nat) (p : List UInt8) : Option (List Int) := if (spl b p).length = n then mapO rdN (spl b p) else none
end Go.Proofs.YtiefiikheaiekaaDoor
/-
  Texts that are read back, the plain part: joined and parted again.
-/
namespace Go.Proofs.YtiefiikheaiekaaDoor

/-! ## texts -/
theorem splA_pre (b : UInt8) (x : List UInt8) : ∀ (acc rest : List UInt8), b ∉ x → splA b acc (x ++ rest) = splA b (acc ++ x) rest := by
  induction x with
  | nil => intro acc rest _; simp
  | cons c r ih =>
    intro acc rest h
    have h1 : c ≠ b := fun e => h (by rw [e]; exact List.mem_cons_self)
    rw [List.cons_append, splA_miss _ _ h1, ih _ _ (fun hm => h (List.mem_cons_of_mem _ hm)), List.append_assoc]
    rfl
theorem spl_join (b : UInt8) : ∀ (L : List (List UInt8)), L ≠ [] → (∀ p ∈ L, b ∉ p) → spl b (Lib.join L [b]) = L := by
  intro L
  induction L with
  | nil => intro h; exact absurd rfl h
  | cons x r ih =>
    intro _ hp
    have hx := hp x List.mem_cons_self
    by_cases hr : r = []
    · subst hr
      rw [Lib.join_one]
      have := splA_pre b x [] [] hx
      rw [List.append_nil, List.nil_append] at this
      unfold spl
      rw [this, splA_nil]
    · have h1 := ih hr (fun p h => hp p (List.mem_cons_of_mem _ h))
      rw [join_more _ hr]
      unfold spl at h1 ⊢
      rw [splA_pre b x [] _ hx, List.nil_append, List.singleton_append, splA_hit _ _ rfl, h1]
theorem dec_digit (u : Nat) : ∀ c ∈ Lib.decDigits u, 48 ≤ c.toNat ∧ c.toNat ≤ 57 := by
  induction u using Nat.strongRecOn with
  | _ u ih =>
    rw [Lib.decDigits]
    by_cases h : u < 10
    · rw [dif_pos h]
      intro c hc
      simp only [List.mem_singleton] at hc
      subst hc
      have e : (UInt8.ofNat (48 + u)).toNat = 48 + u := by simp; omega
      omega
    · rw [dif_neg h]
      intro c hc
      rcases List.mem_append.1 hc with hc | hc
      · exact ih (u / 10) (by omega) c hc
      · simp only [List.mem_singleton] at hc
        subst hc
        have e : (UInt8.ofNat (48 + u % 10)).toNat = 48 + u % 10 := by simp; omega
        omega
theorem dec_len (k : Nat) : ∀ u : Nat, u < 10 ^ (k + 1) → (Lib.decDigits u).length ≤ k + 1 := by
  induction k with
  | zero =>
    intro u h
    rw [Lib.decDigits, dif_pos (by omega)]
    simp
  | succ k ih =>
    intro u h
    rw [Lib.decDigits]
    by_cases h1 : u < 10
    · rw [dif_pos h1]; simp
    · rw [dif_neg h1, List.length_append]
      have := ih (u / 10) (by rw [Nat.pow_succ] at h; omega)
      simp
      omega
theorem itoa_pos {n : Int} (h : 0 ≤ n) : Lib.itoa n = Lib.decDigits n.toNat := by
  unfold Lib.itoa
  rw [if_neg (by omega)]
theorem itoa_digit {n : Int} (h : 0 ≤ n) : ∀ c ∈ Lib.itoa n, 48 ≤ c.toNat ∧ c.toNat ≤ 57 := by
  rw [itoa_pos h]
  exact dec_digit _
theorem rdN_itoa {n : Int} (h0 : 0 ≤ n) (h1 : n < 1000000000000000000) : rdN (Lib.itoa n) = some n := by
  rw [← rdS_eq]
  have ht := trm_itoa n
  have e : n.natAbs = n.toNat := by omega
  rw [e] at ht
  have hl := dec_len 17 n.toNat (by have : (10 : Nat) ^ (17 + 1) = 1000000000000000000 := by decide
                                    omega)
  have hp := List.length_pos_iff.2 (dec_ne n.toNat)
  unfold rdS
  rw [ht, dv_dec, if_pos ⟨hp, by omega⟩]
  have hs : sgd (Lib.itoa n) n.toNat = n := by
    unfold sgd
    rw [ht, itoa_pos h0, if_neg (by omega)]
    omega
  simp only [hs]
  rfl
theorem mapO_map_some {α β : Type} {f : α → Option β} {g : β → α} : ∀ {ys : List β}, (∀ y ∈ ys, f (g y) = some y) → mapO f (ys.map g) = some ys
  | [], _ => rfl
  | y :: r, h => by
    rw [List.map_cons, mapO, h y List.mem_cons_self, mapO_map_some fun z hz => h z (List.mem_cons_of_mem _ hz)]
    rfl
theorem join_mem (b c : UInt8) : ∀ (L : List (List UInt8)), c ∈ Lib.join L [b] → c = b ∨ ∃ p ∈ L, c ∈ p := by
  intro L
  induction L with
  | nil => intro h; simp [Lib.join_nil] at h
  | cons x r ih =>
    intro h
    by_cases hr : r = []
    · subst hr
      rw [Lib.join_one] at h
      exact .inr ⟨x, List.mem_cons_self, h⟩
    · rw [join_more _ hr] at h
      rcases List.mem_append.1 h with h | h
      · exact .inr ⟨x, List.mem_cons_self, h⟩
      · rw [List.singleton_append] at h
        rcases List.mem_cons.1 h with h | h
        · exact .inl h
        · rcases ih h with h | ⟨p, hp, h⟩
          · exact .inl h
          · exact .inr ⟨p, List.mem_cons_of_mem _ hp, h⟩
end Go.Proofs.YtiefiikheaiekaaDoor
/-
  The text of a yard tells the yard.
-/
namespace Go.Proofs.YtiefiikheaiekaaDoor

def rdM (p : List UInt8) : Option (List Int) := if p = [] then some [] else mapO rdN (spl 44 p)
theorem rdM_nt {r : List Int} (h : ∀ x ∈ r, 0 ≤ x ∧ x ≤ 99) : rdM (ntL [44] r) = some r := by
  by_cases h0 : r = []
  · subst h0; rfl
  · have hs : spl 44 (ntL [44] r) = r.map Lib.itoa := by
      unfold ntL jn
      refine spl_join 44 _ (by simpa using h0) (fun p hp hc => ?_)
      obtain ⟨x, hx, rfl⟩ := List.mem_map.1 hp
      have := itoa_digit (h x hx).1 _ hc
      simp at this
    unfold rdM
    have hne : ntL [44] r ≠ [] := by
      intro e
      rw [e] at hs
      cases r with
      | nil => exact h0 rfl
      | cons x q =>
        cases q with
        | nil =>
          have h2 : [[]] = [Lib.itoa x] := hs
          have h3 := congrArg (fun l => (l.headD []).length) h2
          have h4 := List.length_pos_iff.2 (dec_ne x.toNat)
          rw [← itoa_pos (h x List.mem_cons_self).1] at h4
          simp at h3
          rw [h3] at h4
          simp at h4
        | cons y q =>
          have h2 : [[]] = (x :: y :: q).map Lib.itoa := hs
          have h3 := congrArg List.length h2
          simp at h3
    rw [if_neg hne, hs]
    exact mapO_map_some fun y hy => rdN_itoa (h y hy).1 (by have := h y hy; omega)
theorem rdM_back {X : List (List Int)} (hv : vyB X = true) : mapO rdM (spl 124 (ytL X)) = some X := by
  obtain ⟨h1, h2, h3, _⟩ := dB_true hv
  have hb : ∀ r ∈ X, ∀ x ∈ r, 0 ≤ x ∧ x ≤ 99 := fun r hr x hx => by
    have := h3 x (List.mem_flatten.2 ⟨r, hr, hx⟩)
    omega
  have hs : spl 124 (ytL X) = X.map (ntL [44]) := by
    unfold ytL jn
    refine spl_join 124 _ (by intro e; rw [List.map_eq_nil_iff] at e; rw [e] at h1; simp at h1) (fun p hp hc => ?_)
    obtain ⟨r, hr, rfl⟩ := List.mem_map.1 hp
    unfold ntL jn at hc
    rcases join_mem 44 124 _ hc with h | ⟨q, hq, h⟩
    · exact absurd h (by decide)
    · obtain ⟨x, hx, rfl⟩ := List.mem_map.1 hq
      have := itoa_digit (hb r hr x hx).1 _ h
      simp at this
  rw [hs, mapO_map_some (fun r hr => rdM_nt (hb r hr))]
theorem ytL_inj {X Y : List (List Int)} (hv : vyB X = true) (hv2 : vyB Y = true) (e : ytL X = ytL Y) : X = Y := by
  have h := rdM_back hv
  rw [e, rdM_back hv2] at h
  exact (Option.some.inj h).symm
theorem ytM_size {X : List (List Int)} (hv : vyB X = true) : (bs (ytL X)).size ≤ 1048576 := by
  have h := (YB.of hv).all X.length
  rw [List.take_of_length_le (Nat.le_refl _)] at h
  rw [bs_size]
  unfold ytL
  omega
theorem ytL_mem {K : List (List (List Int))} (hK : ∀ Y ∈ K, vyB Y = true) {X : List (List Int)} (hv : vyB X = true) : ytL X ∈ K.map ytL ↔ X ∈ K := by
  constructor
  · intro h
    obtain ⟨Y, hY, e⟩ := List.mem_map.1 h
    rw [ytL_inj hv (hK Y hY) e.symm]
    exact hY
  · exact fun h => List.mem_map.2 ⟨X, h, rfl⟩
end Go.Proofs.YtiefiikheaiekaaDoor
