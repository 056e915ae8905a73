/-
  The ring in plain Lean: the next visit is the first one behind the last, else the first. No program.
-/
import Derived.Test.YtoigmepkhiknbaaDoorSchPure
namespace Go.Proofs.YtoigmepkhiknbaaDoor
set_option linter.unusedVariables false
set_option linter.unusedSimpArgs false

theorem cmpS_gr (a b : List UInt8) : decide (0 < cmpS a b) = ltS b a := by
  unfold cmpS
  cases h : ltS a b with
  | true => rw [ltS_strict.asym _ _ h]; rfl
  | false => cases h2 : ltS b a <;> rfl
theorem cmpP_gr (a b : List (List UInt8)) : decide (0 < cmpP a b) = ltP b a := by
  unfold cmpP
  cases h : ltP a b with
  | true => rw [ltP_strict.asym _ _ h]; rfl
  | false => cases h2 : ltP b a <;> rfl
theorem cmpL_gr (a b : List UInt8) : decide (0 < cmpL a b) = lessB b a := by
  unfold cmpL lessB
  cases validB a <;> cases validB b
  · exact cmpS_gr a b
  · rfl
  · rfl
  · exact cmpP_gr _ _
theorem cmpL_eq (a b : List UInt8) : decide (cmpL a b = 0) = (a == b) := by
  have h1 := cmpL_less a b
  have h2 := cmpL_gr a b
  by_cases h : a = b
  · subst h
    rw [lessB_strict.irr] at h1 h2
    rw [beq_self_eq_true]
    simp only [decide_eq_false_iff_not] at h1 h2
    rw [decide_eq_true_eq]; omega
  · rw [beq_eq_false_iff_ne.2 h, decide_eq_false_iff_not]
    intro h0
    rw [h0] at h1 h2
    exact h (lessB_strict.tri _ _ h1.symm h2.symm)
theorem behB_eq (S : SS) (p : List UInt8) (k : Nat) : behB S p k = (!S.told || (lessB S.lp p || (p == S.lp && decide (S.lb < k)))) := by
  unfold behB
  rw [cmpL_gr, cmpL_eq]

/-- All visits. -/
def flatL (l : List Ent) : List Ent := l.flatMap fun x => (List.range x.2).map fun k => (x.1, k)
theorem flatL_cons (p : List UInt8) (n : Nat) (r : List Ent) : flatL ((p, n) :: r) = (List.range n).map (fun k => (p, k)) ++ flatL r := rfl
theorem flatL_len : ∀ l : List Ent, (flatL l).length = totL l
  | [] => rfl
  | (p, n) :: r => by rw [flatL_cons, List.length_append, flatL_len r]; simp [totL]
theorem flatL_mem {l : List Ent} {x : Ent} (h : x ∈ flatL l) : ∃ n, (x.1, n) ∈ l ∧ x.2 < n := by
  obtain ⟨y, hy, hx⟩ := List.mem_flatMap.1 h
  obtain ⟨k, hk, rfl⟩ := List.mem_map.1 hx
  exact ⟨y.2, hy, List.mem_range.1 hk⟩
theorem find_range {n : Nat} {q : Nat → Bool} {m : Nat} (h1 : ∀ k, k < m → q k = false) (h2 : q m = true) : (List.range n).find? q = if m < n then some m else none := by
  induction n with
  | zero => simp
  | succ n ih =>
    rw [List.range_succ, List.find?_append, ih]
    by_cases h : m < n
    · rw [if_pos h, if_pos (by omega)]; rfl
    · rw [if_neg h]
      by_cases h3 : m < n + 1
      · obtain rfl : m = n := by omega
        rw [if_pos h3]
        simp [h2]
      · rw [if_neg h3]
        simp [h1 n (by omega)]
theorem find_none {n : Nat} {q : Nat → Bool} (h1 : ∀ k, q k = false) : (List.range n).find? q = none := by
  rw [List.find?_eq_none]
  intro k _
  rw [h1]; decide
theorem ent_find (S : SS) (p : List UInt8) (n : Nat) : ((List.range n).map fun k => (p, k)).find? (fun v => behB S v.1 v.2) = if (decide (fromN S p < n) && behB S p (fromN S p)) = true then some (p, fromN S p) else none := by
  rw [List.find?_map]
  have hh : ((fun v : Ent => behB S v.1 v.2) ∘ fun k => (p, k)) = fun k => behB S p k := rfl
  rw [hh]
  have hcongr : ∀ q : Nat → Bool, (∀ k, behB S p k = q k) → (fun k => behB S p k) = q := fun q h => funext h
  have hS : ∀ k, behB S p k = (!S.told || (lessB S.lp p || (p == S.lp && decide (S.lb < k)))) := behB_eq S p
  by_cases ht : S.told = true
  · by_cases hp : p = S.lp
    · have hf : fromN S p = S.lb + 1 := by unfold fromN; rw [ht, hp, beq_self_eq_true]; rfl
      have hq : ∀ k, behB S p k = decide (S.lb < k) := by
        intro k
        rw [hS k, ht, hp, lessB_strict.irr, beq_self_eq_true]
        simp
      rw [find_range (m := S.lb + 1) (fun k hk => by rw [hq, decide_eq_false_iff_not]; omega) (by rw [hq, decide_eq_true_eq]; omega), hf, hq]
      have : decide (S.lb < S.lb + 1) = true := by simp
      rw [this, Bool.and_true]
      by_cases h : S.lb + 1 < n
      · rw [if_pos h, if_pos (by simpa using h)]; rfl
      · rw [if_neg h, if_neg (by simpa using h)]; rfl
    · have hf : fromN S p = 0 := by unfold fromN; rw [ht, beq_eq_false_iff_ne.2 hp]; rfl
      have hq : ∀ k, behB S p k = lessB S.lp p := by
        intro k
        rw [hS k, ht, beq_eq_false_iff_ne.2 hp]
        simp
      rw [hf, hq]
      cases hl : lessB S.lp p with
      | true =>
        rw [find_range (m := 0) (fun k hk => absurd hk (by omega)) (by rw [hq, hl]), Bool.and_true]
        by_cases h : 0 < n
        · rw [if_pos h, if_pos (by simpa using h)]; rfl
        · rw [if_neg h, if_neg (by simpa using h)]; rfl
      | false =>
        rw [find_none (fun k => by rw [hq, hl]), Bool.and_false]; rfl
  · have ht : S.told = false := by simpa using ht
    have hf : fromN S p = 0 := by unfold fromN; rw [ht]; rfl
    have hq : ∀ k, behB S p k = true := by intro k; rw [hS k, ht]; rfl
    rw [hf, hq, find_range (m := 0) (fun k hk => absurd hk (by omega)) (hq 0), Bool.and_true]
    by_cases h : 0 < n
    · rw [if_pos h, if_pos (by simpa using h)]; rfl
    · rw [if_neg h, if_neg (by simpa using h)]; rfl
theorem goO_find (S : SS) : ∀ (l : List Ent) (f : Option Ent), goO S l f = ((flatL l).find? fun v => behB S v.1 v.2).or (f.or (flatL l).head?)
  | [], f => by simp [goO, flatL]
  | (p, n) :: r, f => by
    rw [goO, flatL_cons, List.find?_append, ent_find]
    by_cases h0 : n = 0
    · subst h0
      rw [if_pos rfl, goO_find S r f]
      simp
    · rw [if_neg h0]
      by_cases hc : (decide (fromN S p < n) && behB S p (fromN S p)) = true
      · rw [if_pos hc, if_pos hc]; rfl
      · rw [if_neg hc, if_neg hc, goO_find S r]
        have hd : (List.map (fun k => (p, k)) (List.range n) ++ flatL r).head? = some (p, 0) := by
          obtain ⟨m, rfl⟩ : ∃ m, n = m + 1 := ⟨n - 1, by omega⟩
          rw [List.range_succ_eq_map]; rfl
        rw [hd]
        cases f <;> cases List.find? (fun v => behB S v.1 v.2) (flatL r) <;> rfl
theorem nextV_find (S : SS) : nextV S = (((flatL S.l).find? fun v => behB S v.1 v.2).or (flatL S.l).head?).getD ([], 0) := by
  unfold nextV
  rw [goO_find]; rfl

/-- Which visit comes first. -/
def visLt (a b : Ent) : Bool := lessB a.1 b.1 || (b.1 == a.1 && decide (a.2 < b.2))
theorem flatL_sorted {l : List Ent} (h : Good l) : (flatL l).Pairwise fun x y => visLt x y = true := by
  have h1 := h.sorted
  clear h
  induction l with
  | nil => exact List.Pairwise.nil
  | cons x r ih =>
    obtain ⟨p, n⟩ := x
    rw [List.pairwise_cons] at h1
    rw [flatL_cons, List.pairwise_append]
    refine ⟨?_, ih h1.2, ?_⟩
    · rw [List.pairwise_map]
      refine List.pairwise_lt_range.imp fun {a b} hab => ?_
      unfold visLt
      rw [beq_self_eq_true, lessB_strict.irr]
      simpa using hab
    · intro a ha b hb
      obtain ⟨k, _, rfl⟩ := List.mem_map.1 ha
      obtain ⟨m, hm, _⟩ := flatL_mem hb
      unfold visLt
      rw [h1.1 _ hm]; rfl
theorem visLt_irr (a : Ent) : visLt a a = false := by unfold visLt; rw [lessB_strict.irr, beq_self_eq_true]; simp
theorem visLt_asym {a b : Ent} (h : visLt a b = true) : visLt b a = false := by
  unfold visLt at h ⊢
  cases hl : lessB a.1 b.1 with
  | true =>
    rw [lessB_strict.asym _ _ hl]
    have : (a.1 == b.1) = false := by rw [beq_eq_false_iff_ne]; intro e; rw [e, lessB_strict.irr] at hl; cases hl
    rw [this]; rfl
  | false =>
    rw [hl, Bool.false_or, Bool.and_eq_true, beq_iff_eq, decide_eq_true_eq] at h
    rw [h.1, lessB_strict.irr, beq_self_eq_true]
    simp; omega
theorem find_behind {α : Type} {R : α → α → Bool} (hi : ∀ a, R a a = false) (ha : ∀ a b, R a b = true → R b a = false) : ∀ {L : List α} (hp : L.Pairwise fun x y => R x y = true) (i : Nat) (hl : i < L.length), L.find? (R (L[i]'hl)) = L[i + 1]?
  | [], _, i, hl => absurd hl (by simp)
  | x :: L, hp, 0, hl => by
    rw [List.pairwise_cons] at hp
    show List.find? (R x) (x :: L) = _
    rw [List.find?_cons, hi]
    cases L with
    | nil => rfl
    | cons y L => simp [List.find?_cons, hp.1 y (by simp)]
  | x :: L, hp, i + 1, hl => by
    rw [List.pairwise_cons] at hp
    have hl' : i < L.length := by simpa using hl
    show List.find? (R (L[i]'hl')) (x :: L) = _
    rw [List.find?_cons, ha _ _ (hp.1 _ (List.getElem_mem hl'))]
    exact find_behind hi ha hp.2 i hl'

/-- THE RING: behind a visit comes the next one. -/
theorem next_ring {S : SS} (hg : Good S.l) (ht : S.told = true) {i : Nat} (hi : i < totL S.l) (hl : (flatL S.l)[i]? = some (S.lp, S.lb)) : (flatL S.l)[(i + 1) % totL S.l]? = some (nextV S) := by
  have hlen := flatL_len S.l
  have hi' : i < (flatL S.l).length := by omega
  have hel : (flatL S.l)[i]'hi' = (S.lp, S.lb) := by rw [List.getElem?_eq_getElem hi'] at hl; exact Option.some.inj hl
  have hb : (fun v : Ent => behB S v.1 v.2) = visLt ((flatL S.l)[i]'hi') := by
    funext v
    rw [behB_eq, ht, hel]; rfl
  have hf := find_behind (R := visLt) visLt_irr (fun a b => visLt_asym) (flatL_sorted hg) i hi'
  rw [nextV_find, hb, hf]
  by_cases h : i + 1 < totL S.l
  · rw [Nat.mod_eq_of_lt h, List.getElem?_eq_getElem (by omega)]; rfl
  · have : i + 1 = totL S.l := by omega
    have hn : (flatL S.l)[totL S.l]? = none := List.getElem?_eq_none (by omega)
    rw [this, Nat.mod_self, hn, Option.none_or, List.head?_eq_getElem?, List.getElem?_eq_getElem (by omega)]; rfl
theorem next_first {S : SS} (ht : S.told = false) (h0 : 0 < totL S.l) : (flatL S.l)[0]? = some (nextV S) := by
  have hlen := flatL_len S.l
  have hb : (fun v : Ent => behB S v.1 v.2) = fun _ => true := by
    funext v
    rw [behB_eq, ht]; rfl
  rw [nextV_find, hb]
  have h1 : (flatL S.l).find? (fun _ => true) = (flatL S.l).head? := by cases flatL S.l <;> simp
  rw [h1, List.head?_eq_getElem?, List.getElem?_eq_getElem (by omega)]; rfl
/-- Where a ring stands: the place of what comes next. -/
def AtR (S : SS) (i : Nat) : Prop := (S.told = false ∧ i % totL S.l = 0) ∨ (S.told = true ∧ ∃ j, j < totL S.l ∧ (flatL S.l)[j]? = some (S.lp, S.lb) ∧ i % totL S.l = (j + 1) % totL S.l)
theorem at_next {S : SS} (hg : Good S.l) (h0 : 0 < totL S.l) {i : Nat} (h : AtR S i) : (flatL S.l)[i % totL S.l]? = some (nextV S) := by
  rcases h with ⟨h1, h2⟩ | ⟨h1, j, h2, h3, h4⟩
  · rw [h2]; exact next_first h1 h0
  · rw [h4]; exact next_ring hg h1 h2 h3
theorem at_step {S : SS} (hg : Good S.l) (h0 : 0 < totL S.l) {i : Nat} (h : AtR S i) : AtR (nextS S) (i + 1) := by
  have h1 := at_next hg h0 h
  refine .inr ⟨rfl, i % totL S.l, Nat.mod_lt _ h0, h1, ?_⟩
  show (i + 1) % totL S.l = (i % totL S.l + 1) % totL S.l
  simp
theorem at_steps {S : SS} (hg : Good S.l) (h0 : 0 < totL S.l) {i : Nat} (h : AtR S i) : ∀ n, AtR (afterN S n) (i + n)
  | 0 => h
  | n + 1 => by
    have h1 := at_steps hg h0 h n
    have hl := afterN_l S n
    exact at_step (by rw [hl]; exact hg) (by rw [hl]; exact h0) h1
/-- The visits from a place of the ring on. -/
def ringN (l : List Ent) (i n : Nat) : List Ent := (List.range n).map fun j => (flatL l).getD ((i + j) % totL l) ([], 0)
theorem vis_ring {S : SS} (hg : Good S.l) (h0 : 0 < totL S.l) {i : Nat} (h : AtR S i) (n : Nat) : visN S n = ringN S.l i n := by
  refine List.map_congr_left fun j hj => ?_
  have hl := afterN_l S j
  have h1 := at_next (by rw [hl]; exact hg) (by rw [hl]; exact h0) (at_steps hg h0 h j)
  rw [hl] at h1
  rw [List.getD_eq_getElem?_getD, h1]; rfl
theorem atR_new (l : List Ent) (p : List UInt8) (b : Nat) : AtR ⟨l, p, b, false⟩ 0 := .inl ⟨rfl, Nat.zero_mod _⟩
end Go.Proofs.YtoigmepkhiknbaaDoor
