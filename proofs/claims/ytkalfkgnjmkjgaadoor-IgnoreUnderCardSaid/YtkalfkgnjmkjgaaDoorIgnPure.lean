/-
  Patterns in plain Lean: pieces, and which beginnings of a text the beginning of a pattern stands for. No program.
-/
import Derived.Test.YtkalfkgnjmkjgaaDoorBase
namespace Go.Proofs.YtkalfkgnjmkjgaaDoor
set_option linter.unusedVariables false
set_option linter.unusedSimpArgs false

/-- A piece of a pattern. -/
structure Tok where
  c : UInt8
  star : Bool
  wide : Bool
  any : Bool
deriving DecidableEq
def tok0 : Tok := ⟨0, false, false, false⟩
/-- May a piece stand for a byte? -/
def fitB (t : Tok) (x : UInt8) : Bool := if t.star = true then (t.wide || x != 47) else if t.any = true then x != 47 else t.c == x
/-- A pattern's pieces. -/
def tokL : List UInt8 → List Tok
  | a :: b :: r => if a = 42 then (if b = 42 then ⟨0, true, true, false⟩ :: tokL r else ⟨0, true, false, false⟩ :: tokL (b :: r)) else ⟨a, false, false, a == 63⟩ :: tokL (b :: r)
  | [a] => if a = 42 then [⟨0, true, false, false⟩] else [⟨a, false, false, a == 63⟩]
  | [] => []
def tk (l : List Tok) (i : Nat) : Tok := l.getD i tok0

/-- A star's row: it goes on where it may. -/
def starRow (prev fit : Nat → Bool) : Nat → Bool
  | 0 => prev 0
  | k + 1 => prev (k + 1) || (fit k && starRow prev fit k)
def oneRow (prev fit : Nat → Bool) : Nat → Bool
  | 0 => false
  | k + 1 => fit k && prev k
/-- Do the first i pieces stand for the first k bytes? -/
def pre (l : List Tok) (s : List UInt8) : Nat → Nat → Bool
  | 0 => fun k => k == 0
  | i + 1 => if (tk l i).star = true then starRow (pre l s i) (fun k => fitB (tk l i) (s.getD k 0)) else oneRow (pre l s i) (fun k => fitB (tk l i) (s.getD k 0))
theorem pre_zero (l : List Tok) (s : List UInt8) (k : Nat) : pre l s 0 k = (k == 0) := rfl
theorem pre_star {l : List Tok} {s : List UInt8} {i : Nat} (h : (tk l i).star = true) (k : Nat) : pre l s (i + 1) (k + 1) = (pre l s i (k + 1) || (fitB (tk l i) (s.getD k 0) && pre l s (i + 1) k)) := by
  simp only [pre, h, if_true, starRow]
theorem pre_star0 {l : List Tok} {s : List UInt8} {i : Nat} (h : (tk l i).star = true) : pre l s (i + 1) 0 = pre l s i 0 := by
  simp only [pre, h, if_true, starRow]
theorem pre_one {l : List Tok} {s : List UInt8} {i : Nat} (h : (tk l i).star = false) (k : Nat) : pre l s (i + 1) (k + 1) = (fitB (tk l i) (s.getD k 0) && pre l s i k) := by
  simp only [pre, h, Bool.false_eq_true, if_false, oneRow]
theorem pre_one0 {l : List Tok} {s : List UInt8} {i : Nat} (h : (tk l i).star = false) : pre l s (i + 1) 0 = false := by
  simp only [pre, h, Bool.false_eq_true, if_false, oneRow]

/-- Does a pattern stand for a text? -/
def matchL (p s : List UInt8) : Bool := if 200 < p.length ∨ 200 < s.length then false else pre (tokL p) s (tokL p).length s.length

/-! ### the program: by bytes -/
/-- At which pieces one is, k bytes being read. -/
def atB (l : List Tok) (s : List UInt8) (i k : Nat) : Bool := if i < l.length ∧ (tk l i).star = true then pre l s (i + 1) k else pre l s i k
def atL (l : List Tok) (s : List UInt8) (k : Nat) : List Bool := (List.range (l.length + 1)).map fun i => atB l s i k
theorem atL_length (l : List Tok) (s : List UInt8) (k : Nat) : (atL l s k).length = l.length + 1 := by simp [atL]
theorem atL_at {l : List Tok} {s : List UInt8} {k i : Nat} (h : i ≤ l.length) : (atL l s k).getD i false = atB l s i k := by
  simp [atL, List.getD_eq_getElem?_getD, List.getElem?_map, List.getElem?_range (show i < l.length + 1 by omega)]
/-- Stars stand for nothing. -/
def skN (l : List Tok) (x : List Bool) : Nat → List Bool
  | 0 => x
  | m + 1 => if ((skN l x m).getD m false && (tk l m).star) = true then (skN l x m).set (m + 1) true else skN l x m
theorem skN_length (l : List Tok) (x : List Bool) : ∀ m, (skN l x m).length = x.length
  | 0 => rfl
  | m + 1 => by
    rw [skN]
    split
    · rw [List.length_set]; exact skN_length l x m
    · exact skN_length l x m
/-- What is next, the first m pieces being looked at. -/
def nxB (l : List Tok) (s : List UInt8) (k m j : Nat) : Bool :=
  (decide (j < m) && ((tk l j).star && (fitB (tk l j) (s.getD k 0) && atB l s j k))) || (decide (0 < j ∧ j - 1 < m) && (!(tk l (j - 1)).star && (fitB (tk l (j - 1)) (s.getD k 0) && atB l s (j - 1) k)))
def nxL (l : List Tok) (s : List UInt8) (k m : Nat) : List Bool := (List.range (l.length + 1)).map fun j => nxB l s k m j
theorem nxL_length (l : List Tok) (s : List UInt8) (k m : Nat) : (nxL l s k m).length = l.length + 1 := by simp [nxL]
theorem nxL_zero (l : List Tok) (s : List UInt8) (k : Nat) : nxL l s k 0 = List.replicate (l.length + 1) false := by
  apply List.ext_getElem
  · simp [nxL]
  · intro i h1 h2
    simp [nxL, nxB]
/-- Is one of the first m met? -/
def metB (l : List Tok) (s : List UInt8) (k : Nat) : Nat → Bool
  | 0 => false
  | m + 1 => metB l s k m || (atB l s m k && fitB (tk l m) (s.getD k 0))
theorem set_range (n m : Nat) (f g : Nat → Bool) (b : Bool) (hm : m < n) (h1 : ∀ j, j < n → j ≠ m → g j = f j) (h2 : g m = b) : (List.range n).map g = ((List.range n).map f).set m b := by
  apply List.ext_getElem
  · simp
  · intro i hi1 hi2
    simp only [List.length_map, List.length_range] at hi1
    rw [List.getElem_set]
    split
    · rename_i he; subst he; simp [h2]
    · rename_i he
      simp only [List.getElem_map, List.getElem_range]
      exact h1 i hi1 (fun e => he e.symm)
theorem nxL_no {l : List Tok} {s : List UInt8} {k m : Nat} (h : (atB l s m k && fitB (tk l m) (s.getD k 0)) = false) : nxL l s k (m + 1) = nxL l s k m := by
  unfold nxL
  congr 1
  funext j
  unfold nxB
  by_cases h1 : j = m
  · subst h1
    have : ((tk l j).star && (fitB (tk l j) (s.getD k 0) && atB l s j k)) = false := by rw [Bool.and_comm (fitB _ _), h, Bool.and_false]
    rw [this, Bool.and_false, Bool.and_false]
    congr 2
    rw [decide_eq_decide]; omega
  · by_cases h2 : 0 < j ∧ j - 1 = m
    · obtain ⟨h3, rfl⟩ := h2
      have : (!(tk l (j - 1)).star && (fitB (tk l (j - 1)) (s.getD k 0) && atB l s (j - 1) k)) = false := by rw [Bool.and_comm (fitB _ _), h, Bool.and_false]
      rw [this, Bool.and_false, Bool.and_false]
      congr 2
      rw [decide_eq_decide]; omega
    · congr 2
      · rw [decide_eq_decide]; omega
      · rw [decide_eq_decide]; omega
theorem nxL_star {l : List Tok} {s : List UInt8} {k m : Nat} (hm : m < l.length) (h : (atB l s m k && fitB (tk l m) (s.getD k 0)) = true) (hs : (tk l m).star = true) : nxL l s k (m + 1) = (nxL l s k m).set m true := by
  simp only [Bool.and_eq_true] at h
  refine set_range _ _ _ _ _ (by omega) (fun j hj hne => ?_) ?_
  · unfold nxB
    by_cases h2 : 0 < j ∧ j - 1 = m
    · obtain ⟨h3, rfl⟩ := h2
      rw [hs]
      simp only [Bool.not_true, Bool.false_and, Bool.and_false, Bool.or_false]
      congr 1
      rw [decide_eq_decide]; omega
    · congr 2
      · rw [decide_eq_decide]; omega
      · rw [decide_eq_decide]; omega
  · unfold nxB
    rw [decide_eq_true (show m < m + 1 by omega), hs, h.1, h.2]
    simp
theorem nxL_one {l : List Tok} {s : List UInt8} {k m : Nat} (hm : m < l.length) (h : (atB l s m k && fitB (tk l m) (s.getD k 0)) = true) (hs : (tk l m).star = false) : nxL l s k (m + 1) = (nxL l s k m).set (m + 1) true := by
  simp only [Bool.and_eq_true] at h
  refine set_range _ _ _ _ _ (by omega) (fun j hj hne => ?_) ?_
  · unfold nxB
    by_cases h2 : j = m
    · subst h2
      rw [hs]
      simp only [Bool.false_and, Bool.and_false, Bool.false_or]
      congr 1
      rw [decide_eq_decide]; omega
    · congr 2
      · rw [decide_eq_decide]; omega
      · rw [decide_eq_decide]; omega
  · unfold nxB
    rw [decide_eq_true (show 0 < m + 1 ∧ m + 1 - 1 < m + 1 by omega), Nat.add_sub_cancel, hs, h.1, h.2]
    simp

/-- What was met not is not gone on from. -/
theorem met_all {l : List Tok} {s : List UInt8} {k : Nat} : ∀ {m : Nat}, metB l s k m = false → ∀ j, j < m → (atB l s j k && fitB (tk l j) (s.getD k 0)) = false
  | 0, _, j, h => by omega
  | m + 1, hm, j, h => by
    simp only [metB, Bool.or_eq_false_iff] at hm
    rcases Nat.lt_or_ge j m with h1 | h1
    · exact met_all hm.1 j h1
    · have : j = m := by omega
      subst this; exact hm.2
theorem skN_at {l : List Tok} {s : List UInt8} {k : Nat} : ∀ m, m ≤ l.length → (∀ j, j ≤ m → (skN l (nxL l s k l.length) m).getD j false = atB l s j (k + 1)) ∧ (∀ j, m < j → j ≤ l.length → (skN l (nxL l s k l.length) m).getD j false = nxB l s k l.length j) := by
  have hn : ∀ j, j ≤ l.length → (nxL l s k l.length).getD j false = nxB l s k l.length j := fun j hj => by
    simp [nxL, List.getD_eq_getElem?_getD, List.getElem?_map, List.getElem?_range (show j < l.length + 1 by omega)]
  intro m
  induction m with
  | zero =>
    intro _
    refine ⟨fun j hj => ?_, fun j _ hj => hn j hj⟩
    have hj0 : j = 0 := by omega
    subst hj0
    show (nxL l s k l.length).getD 0 false = _
    rw [hn 0 (by omega)]
    unfold nxB atB
    simp only [Nat.lt_irrefl, false_and, decide_false, Bool.false_and, Bool.or_false]
    by_cases h0 : 0 < l.length
    · rw [decide_eq_true h0, Bool.true_and]
      cases hs : (tk l 0).star with
      | true =>
        simp only [h0, and_self, if_true, Bool.true_and]
        rw [pre_star hs, pre_zero]
        simp
      | false =>
        simp only [Bool.false_eq_true, and_false, if_false, Bool.false_and]
        rw [pre_zero]; simp
    · rw [decide_eq_false h0, Bool.false_and, if_neg (fun h => h0 h.1), pre_zero]
      simp
  | succ m ih =>
    intro hm
    obtain ⟨h1, h2⟩ := ih (by omega)
    have hlen : (skN l (nxL l s k l.length) m).length = l.length + 1 := by rw [skN_length, nxL_length]
    have hm1 := h1 m (Nat.le_refl _)
    have hm2 := h2 (m + 1) (by omega) hm
    have hset : ∀ j, j ≠ m + 1 → (skN l (nxL l s k l.length) (m + 1)).getD j false = (skN l (nxL l s k l.length) m).getD j false := fun j hj => by
      rw [skN]
      split
      · simp only [List.getD_eq_getElem?_getD, List.getElem?_set]
        rw [if_neg (fun h => hj h.symm)]
      · rfl
    have key : (skN l (nxL l s k l.length) (m + 1)).getD (m + 1) false = (nxB l s k l.length (m + 1) || (atB l s m (k + 1) && (tk l m).star)) := by
      rw [skN, hm1]
      split
      · rename_i h
        rw [h, Bool.or_true, List.getD_eq_getElem?_getD, List.getElem?_set_self (by rw [hlen]; omega)]
        rfl
      · rename_i h
        rw [hm2]
        have h' : (atB l s m (k + 1) && (tk l m).star) = false := by simpa using h
        rw [h', Bool.or_false]
    refine ⟨fun j hj => ?_, fun j hj1 hj2 => by rw [hset j (by omega)]; exact h2 j (by omega) hj2⟩
    rcases Nat.lt_or_ge j (m + 1) with hj3 | hj3
    · rw [hset j (by omega)]; exact h1 j (by omega)
    · have hj4 : j = m + 1 := by omega
      subst hj4
      rw [key]
      have hml : m < l.length := by omega
      -- the two last parts make pre (m + 1) (k + 1)
      have hp : pre l s (m + 1) (k + 1) = ((!(tk l m).star && (fitB (tk l m) (s.getD k 0) && atB l s m k)) || (atB l s m (k + 1) && (tk l m).star)) := by
        unfold atB
        cases hs : (tk l m).star with
        | true =>
          simp only [hml, and_self, if_true, Bool.not_true, Bool.false_and, Bool.false_or, Bool.and_true]
        | false =>
          simp only [Bool.false_eq_true, and_false, if_false, Bool.not_false, Bool.true_and, Bool.and_false, Bool.or_false]
          exact pre_one hs k
      unfold nxB
      rw [Nat.add_sub_cancel, decide_eq_true (show 0 < m + 1 ∧ m < l.length by omega), Bool.true_and, Bool.or_assoc, ← hp]
      by_cases hl : m + 1 < l.length
      · rw [decide_eq_true hl, Bool.true_and]
        cases hs : (tk l (m + 1)).star with
        | true =>
          unfold atB
          simp only [hl, hs, and_self, if_true, Bool.true_and]
          rw [pre_star hs, Bool.or_comm]
        | false =>
          unfold atB
          simp only [hs, Bool.false_eq_true, and_false, if_false, Bool.false_and, Bool.false_or]
      · rw [decide_eq_false hl, Bool.false_and, Bool.false_or]
        unfold atB
        rw [if_neg (fun h => hl h.1)]
theorem list_ext_getD {x y : List Bool} (hl : x.length = y.length) (h : ∀ j, j < x.length → x.getD j false = y.getD j false) : x = y := by
  apply List.ext_getElem hl
  intro i h1 h2
  have := h i h1
  simpa [List.getD_eq_getElem?_getD, List.getElem?_eq_getElem h1, List.getElem?_eq_getElem h2] using this
theorem sk_next (l : List Tok) (s : List UInt8) (k : Nat) : skN l (nxL l s k l.length) l.length = atL l s (k + 1) := by
  have hl : (skN l (nxL l s k l.length) l.length).length = l.length + 1 := by rw [skN_length, nxL_length]
  refine list_ext_getD (by rw [hl, atL_length]) fun j hj => ?_
  rw [hl] at hj
  rw [(skN_at l.length (Nat.le_refl _)).1 j (by omega), atL_at (by omega)]
/-- The beginning: nothing is read. -/
def at0 (l : List Tok) : List Bool := true :: List.replicate l.length false
theorem sk_first (l : List Tok) (s : List UInt8) : skN l (at0 l) l.length = atL l s 0 := by
  have key : ∀ m, m ≤ l.length → (∀ j, j ≤ m → (skN l (at0 l) m).getD j false = atB l s j 0 ∨ (j = m ∧ (skN l (at0 l) m).getD j false = pre l s j 0)) ∧ (skN l (at0 l) m).getD m false = pre l s m 0 ∧ (∀ j, m < j → (skN l (at0 l) m).getD j false = false) ∧ (∀ j, j < m → (skN l (at0 l) m).getD j false = pre l s j 0) := by
    intro m
    induction m with
    | zero =>
      intro _
      refine ⟨fun j hj => .inr ⟨by omega, ?_⟩, rfl, fun j hj => ?_, fun j hj => by omega⟩
      · have : j = 0 := by omega
        subst this; rfl
      · obtain ⟨j', rfl⟩ : ∃ j', j = j' + 1 := ⟨j - 1, by omega⟩
        simp only [skN, at0, List.getD_cons_succ]
        simp [List.getD_eq_getElem?_getD, List.getElem?_replicate]
        split <;> rfl
    | succ m ih =>
      intro hm
      obtain ⟨_, h1, h2, h3⟩ := ih (by omega)
      have hlen : (skN l (at0 l) m).length = l.length + 1 := by rw [skN_length]; simp [at0]
      have hset : ∀ j, j ≠ m + 1 → (skN l (at0 l) (m + 1)).getD j false = (skN l (at0 l) m).getD j false := fun j hj => by
        rw [skN]
        split
        · simp only [List.getD_eq_getElem?_getD, List.getElem?_set]
          rw [if_neg (fun h => hj h.symm)]
        · rfl
      have hk : (skN l (at0 l) (m + 1)).getD (m + 1) false = pre l s (m + 1) 0 := by
        rw [skN, h1]
        cases hs : (tk l m).star with
        | true =>
          rw [pre_star0 hs, Bool.and_true]
          split
          · rename_i h; rw [h, List.getD_eq_getElem?_getD, List.getElem?_set_self (by rw [hlen]; omega)]
            rfl
          · rename_i h
            rw [h2 (m + 1) (by omega)]
            simpa using h
        | false =>
          rw [pre_one0 hs, Bool.and_false, if_neg (by decide), h2 (m + 1) (by omega)]
      refine ⟨fun j hj => ?_, hk, fun j hj => by rw [hset j (by omega)]; exact h2 j (by omega), fun j hj => ?_⟩
      · rcases Nat.lt_or_ge j (m + 1) with h | h
        · left
          rw [hset j (by omega)]
          have e : (skN l (at0 l) m).getD j false = pre l s j 0 := by
            rcases Nat.lt_or_ge j m with h' | h'
            · exact h3 j h'
            · have : j = m := by omega
              subst this; exact h1
          rw [e]
          unfold atB
          split
          · rename_i hh; rw [pre_star0 hh.2]
          · rfl
        · right
          have : j = m + 1 := by omega
          subst this
          exact ⟨rfl, hk⟩
      · rw [hset j (by omega)]
        rcases Nat.lt_or_ge j m with h' | h'
        · exact h3 j h'
        · have : j = m := by omega
          subst this; exact h1
  obtain ⟨_, h1, _, h3⟩ := key l.length (Nat.le_refl _)
  have hlen : (skN l (at0 l) l.length).length = l.length + 1 := by rw [skN_length]; simp [at0]
  refine list_ext_getD (by rw [hlen, atL_length]) fun j hj => ?_
  rw [hlen] at hj
  rw [atL_at (by omega)]
  have e : (skN l (at0 l) l.length).getD j false = pre l s j 0 := by
    rcases Nat.lt_or_ge j l.length with h' | h'
    · exact h3 j h'
    · have : j = l.length := by omega
      subst this; exact h1
  rw [e]
  unfold atB
  split
  · rename_i hh; rw [pre_star0 hh.2]
  · rfl
/-- Where nothing is met nothing will be. -/
theorem at_dead {l : List Tok} {s : List UInt8} {k : Nat} (h : ∀ j, j ≤ l.length → atB l s j k = false) : ∀ d j, j ≤ l.length → atB l s j (k + d) = false
  | 0, j, hj => h j hj
  | d + 1, j, hj => by
    have ih := at_dead h d
    have h1 := atL_at (l := l) (s := s) (k := k + d + 1) hj
    rw [← sk_next] at h1
    have h2 : nxL l s (k + d) l.length = List.replicate (l.length + 1) false := by
      rw [← nxL_zero l s (k + d)]
      have : ∀ m, m ≤ l.length → nxL l s (k + d) m = nxL l s (k + d) 0 := by
        intro m
        induction m with
        | zero => intro _; rfl
        | succ m ihm => intro hm; rw [nxL_no (by rw [ih m (by omega), Bool.false_and])]; exact ihm (by omega)
      exact this _ (Nat.le_refl _)
    rw [h2] at h1
    have h3 : ∀ m, skN l (List.replicate (l.length + 1) false) m = List.replicate (l.length + 1) false := by
      intro m
      induction m with
      | zero => rfl
      | succ m ihm =>
        rw [skN, ihm]
        have : (List.replicate (l.length + 1) false).getD m false = false := by
          simp [List.getD_eq_getElem?_getD, List.getElem?_replicate]
          split <;> rfl
        rw [this, Bool.false_and, if_neg (by decide)]
    rw [h3] at h1
    rw [show k + (d + 1) = k + d + 1 by omega, ← h1]
    simp [List.getD_eq_getElem?_getD, List.getElem?_replicate]
    split <;> rfl
theorem match_dead {l : List Tok} {s : List UInt8} {k n : Nat} (hm : metB l s k l.length = false) (hk : k < n) : pre l s l.length n = false := by
  have h1 : ∀ j, j ≤ l.length → atB l s j (k + 1) = false := fun j hj => by
    have h := atL_at (l := l) (s := s) (k := k + 1) hj
    rw [← sk_next] at h
    have h2 : nxL l s k l.length = List.replicate (l.length + 1) false := by
      rw [← nxL_zero l s k]
      have : ∀ m, m ≤ l.length → nxL l s k m = nxL l s k 0 := by
        intro m
        induction m with
        | zero => intro _; rfl
        | succ m ihm => intro hm'; rw [nxL_no (met_all hm m (by omega))]; exact ihm (by omega)
      exact this _ (Nat.le_refl _)
    rw [h2] at h
    have h3 : ∀ m, skN l (List.replicate (l.length + 1) false) m = List.replicate (l.length + 1) false := by
      intro m
      induction m with
      | zero => rfl
      | succ m ihm =>
        rw [skN, ihm]
        have : (List.replicate (l.length + 1) false).getD m false = false := by
          simp [List.getD_eq_getElem?_getD, List.getElem?_replicate]
          split <;> rfl
        rw [this, Bool.false_and, if_neg (by decide)]
    rw [h3] at h
    rw [← h]
    simp [List.getD_eq_getElem?_getD, List.getElem?_replicate]
    split <;> rfl
  have h2 := at_dead h1 (n - (k + 1)) l.length (Nat.le_refl _)
  rw [show k + 1 + (n - (k + 1)) = n by omega] at h2
  unfold atB at h2
  rwa [if_neg (fun h => absurd h.1 (Nat.lt_irrefl _))] at h2
theorem at_last (l : List Tok) (s : List UInt8) (k : Nat) : (atL l s k).getD l.length false = pre l s l.length k := by
  rw [atL_at (Nat.le_refl _)]
  unfold atB
  rw [if_neg (fun h => absurd h.1 (Nat.lt_irrefl _))]
end Go.Proofs.YtkalfkgnjmkjgaaDoor
