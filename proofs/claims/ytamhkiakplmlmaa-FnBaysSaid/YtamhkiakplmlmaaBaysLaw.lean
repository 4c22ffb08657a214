/-
  FnBays: what bays, boards and ties are, in plain terms.
-/
import Derived.Test.YtamhkiakplmlmaaBaysS
import Derived.Test.YtamhkiakplmlmaaScafF
import Derived.Test.YtamhkiakplmlmaaScafG
namespace Go.Proofs.Ytamhkiakplmlmaa
open Go.ChangeShapes Go.WideShapes Go.RowKit

theorem bOut_law {xs : List Int} (h : Szs xs) : ∀ (c n : Nat), (bF (stepsOf xs) n).1 = (c : Int) → sm ((bOut xs c n).map fun x => x / 50) = bL (stepsOf xs) n ∧ ∀ v ∈ bOut xs c n, v ∈ xs
  | 0, n, hc => by
    have : n = 0 := (bF_nil h).1 (by simpa using hc)
    subst this
    exact ⟨rfl, fun v hv => by cases hv⟩
  | c + 1, n, hc => by
    obtain ⟨m, rfl⟩ : ∃ m, n = m + 1 := by
      cases n with
      | zero => rw [bF_zero] at hc; simp at hc; omega
      | succ m => exact ⟨m, rfl⟩
    obtain ⟨j, hj, hp, _, _, h1, h2⟩ := bF_pick h.ne h.pos m c (by rw [hc]; simp)
    have hjx : j < xs.length := by rw [stepsOf_len] at hj; exact hj
    obtain ⟨i1, i2⟩ := bOut_law h c _ h1
    have e : xs.getD (bF (stepsOf xs) (m + 1)).2.2.toNat 0 = xs[j] := by rw [hp, Int.toNat_natCast, getD_lt _ _ hjx]
    have e2 : (stepsOf xs).getD (bF (stepsOf xs) (m + 1)).2.2.toNat 0 = (stepsOf xs).getD j 0 := by rw [hp, Int.toNat_natCast]
    unfold bOut
    rw [e, e2]
    refine ⟨?_, ?_⟩
    · rw [List.map_cons, sm_cons, i1, h2, stepsOf_get hjx]
      omega
    · intro v hv
      rcases List.mem_cons.1 hv with h3 | h3
      · rw [h3]; exact List.getElem_mem _
      · exact i2 v h3
/-- the bays that are told -/
theorem bf_walk {len : Int} {xs M : List Int} (h : bfP len xs = (M, 0)) :
    M.length ≤ 20 ∧ 1 ≤ xs.length ∧ xs.length ≤ 5 ∧ (∀ x ∈ xs, 500 ≤ x ∧ x ≤ 3000) ∧ (∀ v ∈ M, v ∈ xs) ∧ 500 ≤ len ∧ len ≤ 20000 ∧ len ≤ 50 * sm (M.map fun x => x / 50) ∧ (∀ k, 0 ≤ sm ((M.map fun x => x / 50).take k) ∧ sm ((M.map fun x => x / 50).take k) ≤ 1200) ∧
      ∃ top, top = (xs.getD (xs.length - 1) 0) / 50 ∧ 10 ≤ top ∧ top ≤ 60 ∧ ((M.length : Int) - 1) * top * 50 < len ∧ 0 ≤ ((M.length : Int) - 1) * top ∧ ((M.length : Int) - 1) * top ≤ 1200 := by
  unfold bfP at h
  split at h
  · rename_i hc
    obtain ⟨hl, hr, hn⟩ := hc
    obtain ⟨l0, l1⟩ := inB_yes hl
    obtain ⟨n0, n1⟩ := inB_yes hn
    have hz : Szs xs := ⟨dB_true hr, by omega, by omega⟩
    split at h
    · cases h
    · rename_i h20
      obtain ⟨N, hN⟩ : ∃ N : Nat, N = ((len + 49) / 50).toNat := ⟨_, rfl⟩
      rw [← hN] at h h20
      have hNi : (N : Int) = (len + 49) / 50 := by rw [hN]; omega
      obtain ⟨⟨c, hcc, hrc⟩, hge, _⟩ := bF_ok hz.ne hz.pos N
      rw [hcc] at h h20
      obtain ⟨rfl, _⟩ := Prod.mk.inj h
      rw [Int.toNat_natCast]
      obtain ⟨s1, s2⟩ := bOut_law hz c N hcc
      obtain ⟨t1, t2⟩ := hz.last
      have hlast : xs.getD (xs.length - 1) 0 = xs[xs.length - 1]'(by omega) := getD_lt _ _ (by omega)
      obtain ⟨m0, m1⟩ := hz.mem t1
      have hcnt := count_eq hz (n := N) t1 t2
      rw [hcc] at hcnt
      rw [hlast]
      obtain ⟨top, htop⟩ : ∃ top, top = xs[xs.length - 1]'(by omega) / 50 := ⟨_, rfl⟩
      rw [← htop] at m0 m1 hcnt ⊢
      have hx : ∀ x ∈ xs, 500 ≤ x ∧ x ≤ 3000 := fun x hx => by
        obtain ⟨i, hi, rfl⟩ := List.getElem_of_mem hx
        exact hz.at_ hi
      have hc1 : 1 ≤ c := by
        by_cases e : c = 0
        · subst e
          have := (bF_nil hz (n := N)).1 (by rw [hcc]; rfl)
          omega
        · omega
      have h2 := Int.mul_ediv_self_le (x := (N : Int) + top - 1) (k := top) (by omega)
      rw [← hcnt] at h2
      have h3 : ((c : Int) - 1) * top = top * c - top := by rw [Int.sub_mul, Int.mul_comm]; omega
      have h4 : ((c : Int) - 1) * top ≤ 20 * 60 := Int.mul_le_mul (by omega) (by omega) (by omega) (by omega)
      have h5 : 0 ≤ ((c : Int) - 1) * top := Int.mul_nonneg (by omega) (by omega)
      have hM : ∀ v ∈ (bOut xs c N).map fun x => x / 50, 0 ≤ v ∧ v ≤ 60 := fun v hv => by
        obtain ⟨x, hx2, rfl⟩ := List.mem_map.1 hv
        have := hx x (s2 x hx2)
        omega
      have hsb := sm_bound (M := 60) (n := 20) (by omega) (fun v hv => (hM v hv).2) (by rw [List.length_map, bOut_len]; omega)
      refine ⟨by rw [bOut_len]; omega, by omega, by omega, hx, s2, l0, l1, by rw [s1]; omega, fun k => ?_, top, rfl, m0, m1, ?_, ?_, ?_⟩
      · have := sm_take_bd (fun v hv => (hM v hv).1) k
        omega
      · rw [bOut_len]; omega
      · rw [bOut_len]; exact h5
      · rw [bOut_len]; omega
  · cases h
/-- rows of ties -/
theorem ty_walk {b t : List Int} {n : Int} {L : List (List Int)} (h : tyP b t n = (L, 0)) : ∀ r ∈ L, ∃ x y : Int, r = [x, y] ∧ 0 ≤ x ∧ x ≤ 100 ∧ 0 ≤ y ∧ y ≤ 100 ∧ (x + y) % 2 = 0 := by
  unfold tyP at h
  split at h
  · rename_i hv
    obtain ⟨rfl, _⟩ := Prod.mk.inj h
    obtain ⟨⟨_, h1⟩, _, ⟨_, h2⟩, _⟩ := vsB_parts hv
    intro r hr
    obtain ⟨q, hq, hr2⟩ := List.mem_flatMap.1 hr
    have hq2 := List.mem_range.1 hq
    unfold tyR at hr2
    obtain ⟨p, hp, rfl⟩ := List.mem_map.1 hr2
    obtain ⟨hp1, hp2⟩ := List.mem_filter.1 hp
    have hp3 := List.mem_range.1 hp1
    have hp4 : (q + p) % 2 = 0 := by simpa using hp2
    exact ⟨_, _, rfl, by omega, by omega, by omega, by omega, by omega⟩
  · cases h
/-- so many boards -/
theorem bo_sum {board : Int} {xs : List Int} (h : ∀ x ∈ xs, 0 ≤ x ∧ x ≤ board) : ∀ k, k ≤ xs.length → sm (xs.take k) + (boF board xs k).2 ≤ (boF board xs k).1 * board ∧ 0 ≤ (boF board xs k).2
  | 0, _ => by simp [boF, sm]
  | k + 1, hk => by
    obtain ⟨i1, i2⟩ := bo_sum h k (by omega)
    obtain ⟨x0, x1⟩ := h _ (List.getElem_mem (show k < xs.length by omega))
    rw [boF_succ board xs (by omega), sm_succ xs (by omega)]
    generalize boF board xs k = st at *
    generalize xs[k] = x at *
    unfold boS
    split
    · rename_i hlt
      dsimp only
      rw [Int.add_mul]
      omega
    · rename_i hlt
      dsimp only
      omega
theorem bo_walk {b t : List Int} {n board wide N : Int} (h : boP b t n board wide = (N, 0)) :
    ∃ c : Int, 0 ≤ c ∧ c ≤ b.length ∧ N = c * wide ∧ 1 ≤ wide ∧ wide ≤ 8 ∧ 500 ≤ board ∧ board ≤ 6000 ∧ sm b ≤ c * board ∧ 0 ≤ c * board ∧ c * board ≤ 120000 ∧ b.length ≤ 20 ∧ lbP b t n = (sm b, 0) ∧ N % wide = 0 ∧ N / wide = c ∧ 0 ≤ N ∧ N ≤ 160 := by
  unfold boP at h
  split at h
  · rename_i hv
    split at h
    · rename_i hi
      obtain ⟨hb, hw⟩ := hi
      obtain ⟨b0, b1⟩ := inB_yes hb
      obtain ⟨w0, w1⟩ := inB_yes hw
      split at h
      · rename_i hm
        obtain ⟨rfl, _⟩ := Prod.mk.inj h
        obtain ⟨⟨hl0, hl⟩, hx, _⟩ := vsB_parts hv
        have hx2 : ∀ x ∈ b, 0 ≤ x ∧ x ≤ board := fun x hx1 => by
          have := (mxL_le (show 0 < b.length by omega) board).1 hm x hx1
          have := hx x hx1
          omega
        obtain ⟨s1, s2⟩ := bo_sum hx2 b.length (Nat.le_refl _)
        rw [List.take_length] at s1
        obtain ⟨c0, c1, _⟩ := boF_bd board b ⟨b0, b1⟩ (fun x hx1 => hx x hx1) b.length (Nat.le_refl _)
        generalize (boF board b b.length).1 = c at *
        have h1 : c * board ≤ 20 * 6000 := Int.mul_le_mul (by omega) (by omega) (by omega) (by omega)
        have h2 : c * wide ≤ 20 * 8 := Int.mul_le_mul (by omega) (by omega) (by omega) (by omega)
        exact ⟨c, c0, c1, rfl, w0, w1, b0, b1, by omega, Int.mul_nonneg c0 (by omega), by omega, by omega, by unfold lbP; rw [hv]; rfl, Int.mul_emod_left _ _, Int.mul_ediv_cancel _ (by omega), Int.mul_nonneg c0 (by omega), by omega⟩
      · cases h
    · cases h
  · cases h
end Go.Proofs.Ytamhkiakplmlmaa
