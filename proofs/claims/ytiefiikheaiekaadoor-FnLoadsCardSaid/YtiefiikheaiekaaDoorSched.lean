/-
  A long region that draws its order, taken by a written order: what the kernel reckons is small.
-/
import Derived.Deep.RegionHeld3
import Derived.Lib.Hide
namespace Go.Proofs.YtiefiikheaiekaaDoor
open Go Go.RowKit

section
variable {P : Program} {ops : Array Oper} {Q : Exit → Act → World → Prop} {S : World → Prop}

/-- those that have come up -/
def lstd (n : Nat) : List Nat → Array Bool
  | [] => Array.replicate n false
  | i :: is => (lstd n is).setIfInBounds i true
theorem lstd_size (n : Nat) : ∀ is, (lstd n is).size = n
  | [] => by simp [lstd]
  | i :: is => by simp [lstd, lstd_size n is]
theorem lstd_getD (n : Nat) (b : Bool) : ∀ (is : List Nat) (j : Nat), (lstd n is).getD j b = if j < n then is.contains j else b
  | [], j => by
    by_cases h : j < n
    · simp [lstd, Array.getD_eq_getD_getElem?, h]
    · simp [lstd, Array.getD_eq_getD_getElem?, h]
  | i :: is, j => by
    have ih := lstd_getD n b is j
    rw [Array.getD_eq_getD_getElem?] at ih ⊢
    unfold lstd
    by_cases e : i = j
    · subst e
      by_cases h : i < n
      · rw [Array.getElem?_setIfInBounds_self_of_lt (by rw [lstd_size]; exact h)]
        simp [h]
      · rw [Array.getElem?_eq_none (by simp [lstd_size]; omega)]
        simp [h]
    · rw [Array.getElem?_setIfInBounds_ne e, ih]
      have e2 : (j == i) = false := by simpa using fun h => e h.symm
      by_cases h : j < n
      · rw [if_pos h, if_pos h, List.contains_cons, e2, Bool.false_or]
      · rw [if_neg h, if_neg h]
def free0 (ops : Array Oper) (i : Nat) (oi : Oper) : Bool :=
  (List.range ops.size).all fun j => j == i || match ops[j]? with
    | some oj => oi.after.any (fun e => Region.binds .any e && e.on == j) || (oj.after.any (fun e => Region.binds .any e && e.on == i) || oi.apart ops oj)
    | none => true
def freeAll (ops : Array Oper) (is : List Nat) : Bool := is.all fun i => match ops[i]? with | some oi => free0 ops i oi | none => false
theorem freeAll_at {is : List Nat} (h : freeAll ops is = true) {i : Nat} {oi : Oper} (hi : ops[i]? = some oi) (hm : is.contains i = true) : free0 ops i oi = true := by
  unfold freeAll at h
  rw [List.all_eq_true] at h
  have := h i (by simpa using hm)
  rw [hi] at this
  exact this
def rdy (ops : Array Oper) (done : List Nat) (j : Nat) : Bool :=
  !done.contains j && ((ops[j]?).map (·.after.all fun e => !Region.binds .any e || done.contains e.on)).getD false
theorem ready_eq {n : Nat} (hn : ops.size = n) {done : List Nat} (hd : done.all (· < n) = true) : Region.ready .any ops (lstd n done) = (List.range n).filter (rdy ops done) := by
  unfold Region.ready
  rw [hn]
  apply List.filter_congr
  intro j hj
  have hj' := List.mem_range.1 hj
  unfold rdy
  rw [lstd_getD, if_pos hj']
  congr 2
  congr 1
  funext o
  congr 1
  funext e
  rw [lstd_getD]
  by_cases h : e.on < n
  · rw [if_pos h]
  · rw [if_neg h]
    have : done.contains e.on = false := by
      rw [List.all_eq_true] at hd
      rw [Bool.eq_false_iff]
      intro hc
      have := hd e.on (by simpa using hc)
      simp at this
      omega
    rw [this]
theorem free_of {n i : Nat} {oi : Oper} {done : List Nat} (hn : ops.size = n) (hi : ops[i]? = some oi) (h : free0 ops i oi = true) (hr : rdy ops done i = true) : Region.free .any ops (lstd n done) i = true := by
  unfold Region.free
  simp only [hi]
  unfold free0 at h
  rw [List.all_eq_true] at h ⊢
  intro j hj
  have hjn : j < n := by have := List.mem_range.1 hj; omega
  have h0 := h j hj
  rw [lstd_getD, if_pos hjn, Bool.or_assoc]
  rw [Bool.or_eq_true] at h0 ⊢
  rcases h0 with h1 | h1
  · exact .inl h1
  · right
    rw [Bool.or_eq_true]
    cases hoj : ops[j]? with
    | none => exact .inr rfl
    | some oj =>
      rw [hoj] at h1
      simp only at h1 ⊢
      rw [Bool.or_eq_true] at h1
      rcases h1 with h2 | h2
      · left
        rw [Array.any_eq_true] at h2
        obtain ⟨x, hx, h3⟩ := h2
        have he := Array.getElem_mem hx
        generalize oi.after[x] = e at *
        rw [Bool.and_eq_true] at h3
        unfold rdy at hr
        rw [Bool.and_eq_true, hi] at hr
        have h4 := hr.2
        simp only [Option.map_some, Option.getD_some] at h4
        have h5 := Array.all_eq_true_iff_forall_mem.1 h4 e he
        rw [h3.1] at h5
        have h6 : e.on = j := by simpa using h3.2
        rw [h6] at h5
        simpa using h5
      · exact .inr h2
theorem startS {id : Nat} {a : Act} {w : World} (n : Nat) (hn : ops.size = n) (hm : P.follows .mixedOrders = true) (hS : S w.drew)
    (h : S w.drew → wpAnyH P .any ops Q S n (lstd n []) a w.drew) : (Code.region id ops true).wp P Q a w := by
  subst hn
  exact wp_region_held_drew hm hS h
theorem takeS {n i d fuel : Nat} {done is : List Nat} {oi : Oper} {v : Value} {l l' : List Value} {df : List Deferred} {w : World}
    (hF : freeAll ops is = true) (hs : Region.noSelect ops = true) (hn : ops.size = n) (hQ : ∀ (c : _) (a : Act) (d : Option Tmp) (v : Value) (w : World), Q (.panic c) (a.put d v) w → Q (.panic c) a w)
    (hi : ops[i]? = some oi) (hm : is.contains i = true) (hd : done.all (· < n) = true) (hl : i < n) (hr : rdy ops done i = true)
    (hy : YieldsIf P ops S oi v ⟨l.toArray, df⟩) (hS : S w) (hdst : oi.dst = some d) (hset : l.set d v = l')
    (h : wpAnyH P .any ops Q S fuel (lstd n (i :: done)) ⟨l'.toArray, df⟩ w) : wpAnyH P .any ops Q S (fuel + 1) (lstd n done) ⟨l.toArray, df⟩ w := by
  refine wpAnyH_take hi hs (free_of hn hi (freeAll_at hF hi hm) hr) ?_ (fun c a w h => hQ c a _ _ w h) hy hS ?_
  · rw [ready_eq hn hd]
    simp only [List.contains_eq_mem, decide_eq_true_eq]
    exact List.mem_filter.2 ⟨List.mem_range.2 hl, hr⟩
  · have e : (Act.put ⟨l.toArray, df⟩ oi.dst v) = ⟨l'.toArray, df⟩ := by
      rw [hdst, ← hset]
      simp [Act.put]
    rw [e]
    exact h
theorem callS {n i fuel : Nat} {done : List Nat} {oi : Oper} {a : Act} {w : World}
    (hn : ops.size = n) (hd : done.all (· < n) = true) (hr : (List.range n).filter (rdy ops done) = [i]) (hi : ops[i]? = some oi)
    (h : ∀ K' : Act → World → Prop, Shut (∀ a w, S w → (S w → wpAnyH P .any ops Q S fuel (lstd n (i :: done)) a w) → K' a w) → if Region.wanted oi (yielded ops a.tmps) = true then Oper.wp P oi a w K' Q else K' (a.put oi.dst undef) w) :
    wpAnyH P .any ops Q S (fuel + 1) (lstd n done) a w := by
  refine wpAnyH_ready (rs := [i]) (by rw [ready_eq hn hd]; exact hr) (by simp) ?_
  exact AllReadyH.cons hi h AllReadyH.nil
/-- two are ready: both orders -/
theorem callS2 {n i j fuel : Nat} {done : List Nat} {oi oj : Oper} {a : Act} {w : World}
    (hn : ops.size = n) (hd : done.all (· < n) = true) (hr : (List.range n).filter (rdy ops done) = [i, j]) (hi : ops[i]? = some oi) (hj : ops[j]? = some oj)
    (h : ∀ K' : Act → World → Prop, Shut (∀ a w, S w → (S w → wpAnyH P .any ops Q S fuel (lstd n (i :: done)) a w) → K' a w) → if Region.wanted oi (yielded ops a.tmps) = true then Oper.wp P oi a w K' Q else K' (a.put oi.dst undef) w)
    (h2 : ∀ K' : Act → World → Prop, Shut (∀ a w, S w → (S w → wpAnyH P .any ops Q S fuel (lstd n (j :: done)) a w) → K' a w) → if Region.wanted oj (yielded ops a.tmps) = true then Oper.wp P oj a w K' Q else K' (a.put oj.dst undef) w) :
    wpAnyH P .any ops Q S (fuel + 1) (lstd n done) a w := by
  refine wpAnyH_ready (rs := [i, j]) (by rw [ready_eq hn hd]; exact hr) (by simp) ?_
  exact AllReadyH.cons hi h (AllReadyH.cons hj h2 AllReadyH.nil)
/-- three are ready -/
theorem callS3 {n i j k fuel : Nat} {done : List Nat} {oi oj ok : Oper} {a : Act} {w : World}
    (hn : ops.size = n) (hd : done.all (· < n) = true) (hr : (List.range n).filter (rdy ops done) = [i, j, k]) (hi : ops[i]? = some oi) (hj : ops[j]? = some oj) (hk : ops[k]? = some ok)
    (h : ∀ K' : Act → World → Prop, Shut (∀ a w, S w → (S w → wpAnyH P .any ops Q S fuel (lstd n (i :: done)) a w) → K' a w) → if Region.wanted oi (yielded ops a.tmps) = true then Oper.wp P oi a w K' Q else K' (a.put oi.dst undef) w)
    (h2 : ∀ K' : Act → World → Prop, Shut (∀ a w, S w → (S w → wpAnyH P .any ops Q S fuel (lstd n (j :: done)) a w) → K' a w) → if Region.wanted oj (yielded ops a.tmps) = true then Oper.wp P oj a w K' Q else K' (a.put oj.dst undef) w)
    (h3 : ∀ K' : Act → World → Prop, Shut (∀ a w, S w → (S w → wpAnyH P .any ops Q S fuel (lstd n (k :: done)) a w) → K' a w) → if Region.wanted ok (yielded ops a.tmps) = true then Oper.wp P ok a w K' Q else K' (a.put ok.dst undef) w) :
    wpAnyH P .any ops Q S (fuel + 1) (lstd n done) a w := by
  refine wpAnyH_ready (rs := [i, j, k]) (by rw [ready_eq hn hd]; exact hr) (by simp) ?_
  exact AllReadyH.cons hi h (AllReadyH.cons hj h2 (AllReadyH.cons hk h3 AllReadyH.nil))
theorem withS {a : Act} {w : World} {fuel : Nat} (n : Nat) (is : List Nat) (hF : freeAll ops is = true) (hs : Region.noSelect ops = true) (hn : ops.size = n) (hQ : ∀ (c : _) (a : Act) (d : Option Tmp) (v : Value) (w : World), Q (.panic c) (a.put d v) w → Q (.panic c) a w)
    (h : Hid (freeAll ops is = true) → Hid (Region.noSelect ops = true) → Hid (ops.size = n) → Hid (∀ (c : _) (a : Act) (d : Option Tmp) (v : Value) (w : World), Q (.panic c) (a.put d v) w → Q (.panic c) a w) → wpAnyH P .any ops Q S fuel (lstd n []) a w) : wpAnyH P .any ops Q S fuel (lstd n []) a w :=
  h (Lib.hid hF) (Lib.hid hs) (Lib.hid hn) (Lib.hid hQ)
theorem doneS {n fuel : Nat} {done : List Nat} {a : Act} {w : World} (hn : ops.size = n) (hd : done.all (· < n) = true) (hr : (List.range n).filter (rdy ops done) = []) (h : Q .normal a w) : wpAnyH P .any ops Q S fuel (lstd n done) a w :=
  wpAnyH_done (by rw [ready_eq hn hd]; exact hr) h _
end
end Go.Proofs.YtiefiikheaiekaaDoor
