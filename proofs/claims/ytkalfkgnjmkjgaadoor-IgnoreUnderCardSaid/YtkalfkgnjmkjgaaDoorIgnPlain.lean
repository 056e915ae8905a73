/-
  What patterns stand for, in plain Lean: plain texts, stars, question marks; and what rules say. No program.
-/
import Derived.Test.YtkalfkgnjmkjgaaDoorIgnIgn
namespace Go.Proofs.YtkalfkgnjmkjgaaDoor
set_option linter.unusedVariables false
set_option linter.unusedSimpArgs false

def plT (c : UInt8) : Tok := ⟨c, false, false, false⟩
/-- No star, no question mark. -/
def plainB (x : List UInt8) : Bool := x.all fun c => c != 42 && c != 63
theorem plain_cons {a : UInt8} {x : List UInt8} (h : plainB (a :: x) = true) : a ≠ 42 ∧ a ≠ 63 ∧ plainB x = true := by
  simpa [plainB, and_assoc] using h
theorem plain_app {x y : List UInt8} : plainB (x ++ y) = (plainB x && plainB y) := by simp [plainB]
theorem tokL_cons {a : UInt8} (r : List UInt8) (h : a ≠ 42) : tokL (a :: r) = ⟨a, false, false, a == 63⟩ :: tokL r := by
  cases r with
  | nil => rw [tokL, if_neg h]; rfl
  | cons b r => rw [tokL, if_neg h]
theorem tokL_two (r : List UInt8) : tokL (42 :: 42 :: r) = ⟨0, true, true, false⟩ :: tokL r := by rw [tokL, if_pos rfl, if_pos rfl]
theorem tokL_one (r : List UInt8) (h : plainB r = true) : tokL (42 :: r) = ⟨0, true, false, false⟩ :: tokL r := by
  cases r with
  | nil => rfl
  | cons b r => rw [tokL, if_pos rfl, if_neg (plain_cons h).1]
theorem tokL_plain (r : List UInt8) : ∀ (x : List UInt8), plainB x = true → tokL (x ++ r) = x.map plT ++ tokL r
  | [], _ => rfl
  | a :: x, h => by
    obtain ⟨h1, h2, h3⟩ := plain_cons h
    have h4 : (a == 63) = false := beq_eq_false_iff_ne.2 h2
    rw [List.cons_append, tokL_cons _ h1, tokL_plain r x h3, h4]
    rfl
theorem tokL_plain' (x : List UInt8) (h : plainB x = true) : tokL x = x.map plT := by
  have := tokL_plain [] x h
  rw [List.append_nil] at this
  rw [this]; simp [tokL]

theorem tk_at {l1 l2 : List Tok} {t : Tok} : tk (l1 ++ t :: l2) l1.length = t := by
  unfold tk
  rw [List.getD_eq_getElem?_getD, List.getElem?_append_right (Nat.le_refl _), Nat.sub_self]; rfl
theorem fit_pl (c x : UInt8) : fitB (plT c) x = (c == x) := rfl

/-- A plain byte goes on. -/
theorem go_plain {l : List Tok} {s : List UInt8} {i k : Nat} {c : UInt8} (ht : tk l i = plT c) (hs : s.getD k 0 = c) (h : pre l s i k = true) : pre l s (i + 1) (k + 1) = true := by
  rw [pre_one (by rw [ht]; rfl), h, ht, fit_pl, hs]; simp
/-- A plain text goes on. -/
theorem go_text {s : List UInt8} : ∀ (x : List UInt8) (l1 l2 : List Tok) (u v : List UInt8), s = u ++ (x ++ v) → pre (l1 ++ (x.map plT ++ l2)) s l1.length u.length = true → pre (l1 ++ (x.map plT ++ l2)) s (l1.length + x.length) (u.length + x.length) = true
  | [], l1, l2, u, v, _, h => by simpa using h
  | c :: x, l1, l2, u, v, hs, h => by
    have h1 : pre (l1 ++ (List.map plT (c :: x) ++ l2)) s (l1.length + 1) (u.length + 1) = true := by
      refine go_plain (c := c) ?_ ?_ h
      · exact tk_at
      · rw [hs, List.getD_eq_getElem?_getD, List.getElem?_append_right (Nat.le_refl _), Nat.sub_self]; rfl
    have h2 := go_text (s := s) x (l1 ++ [plT c]) l2 (u ++ [c]) v (by rw [hs]; simp) (by simpa using h1)
    have e1 : l1 ++ [plT c] ++ (List.map plT x ++ l2) = l1 ++ (List.map plT (c :: x) ++ l2) := by simp
    rw [e1] at h2
    simp only [List.length_append, List.length_singleton, List.length_cons] at h2 ⊢
    rw [show l1.length + (x.length + 1) = l1.length + 1 + x.length by omega, show u.length + (x.length + 1) = u.length + 1 + x.length by omega]
    exact h2
/-- A star stands for nothing, and for more. -/
theorem go_star {l : List Tok} {s : List UInt8} {i k : Nat} (ht : (tk l i).star = true) (h : pre l s i k = true) : ∀ m, (∀ j, j < m → fitB (tk l i) (s.getD (k + j) 0) = true) → pre l s (i + 1) (k + m) = true
  | 0, _ => by
    cases k with
    | zero => rw [Nat.add_zero, pre_star0 ht]; exact h
    | succ k => rw [Nat.add_zero, pre_star ht, h]; rfl
  | m + 1, hf => by
    have h1 := go_star ht h m (fun j hj => hf j (by omega))
    rw [← Nat.add_assoc, pre_star ht, hf m (by omega), h1]; simp

/-- Plain pieces stand for their bytes alone. -/
theorem pre_plain (x : List UInt8) (s : List UInt8) : ∀ (i k : Nat), i ≤ x.length → k ≤ s.length → pre (x.map plT) s i k = true → k = i ∧ s.take k = x.take i
  | 0, k, _, _, h => by
    rw [pre_zero, beq_iff_eq] at h
    subst h; simp
  | i + 1, k, hi, hk, h => by
    have ht : tk (x.map plT) i = plT (x.getD i 0) := by
      unfold tk
      rw [List.getD_eq_getElem?_getD, List.getElem?_map, List.getElem?_eq_getElem (by omega), List.getD_eq_getElem?_getD, List.getElem?_eq_getElem (by omega)]; rfl
    cases k with
    | zero => rw [pre_one0 (by rw [ht]; rfl)] at h; cases h
    | succ k =>
      rw [pre_one (by rw [ht]; rfl), ht, fit_pl, Bool.and_eq_true, beq_iff_eq] at h
      obtain ⟨h1, h2⟩ := h
      obtain ⟨rfl, h4⟩ := pre_plain x s i k (by omega) (by omega) h2
      refine ⟨rfl, ?_⟩
      rw [List.take_add_one, List.take_add_one, h4, List.getElem?_eq_getElem (by omega), List.getElem?_eq_getElem (by omega)]
      rw [List.getD_eq_getElem?_getD, List.getD_eq_getElem?_getD, List.getElem?_eq_getElem (by omega), List.getElem?_eq_getElem (by omega)] at h1
      have h1' : x[k] = s[k] := h1
      rw [h1']

theorem match_plain {x s : List UInt8} (hx : plainB x = true) (h1 : x.length ≤ 200) (h2 : s.length ≤ 200) : matchL x s = decide (x = s) := by
  unfold matchL
  rw [if_neg (by omega), tokL_plain' x hx, List.length_map]
  by_cases he : x = s
  · subst he
    rw [decide_eq_true rfl]
    have h := go_text (s := x) x [] [] [] [] (by simp) (by simp [pre_zero])
    simpa using h
  · rw [decide_eq_false he]
    cases h : pre (x.map plT) s x.length s.length with
    | false => rfl
    | true =>
      obtain ⟨h3, h4⟩ := pre_plain x s _ _ (Nat.le_refl _) (Nat.le_refl _) h
      rw [List.take_length, List.take_length] at h4
      exact absurd h4.symm he

/-- No slash. -/
def flatB (x : List UInt8) : Bool := x.all fun c => c != 47
theorem pre_narrow (s : List UInt8) : ∀ k, k ≤ s.length → pre [⟨0, true, false, false⟩] s 1 k = flatB (s.take k)
  | 0, _ => by rw [pre_star0 rfl]; rfl
  | k + 1, hk => by
    rw [pre_star rfl, pre_zero, pre_narrow s k (by omega)]
    have h1 : s.take (k + 1) = s.take k ++ [s.getD k 0] := by
      rw [List.take_add_one, List.getD_eq_getElem?_getD, List.getElem?_eq_getElem (by omega)]; rfl
    rw [h1]
    have h2 : fitB (tk [⟨0, true, false, false⟩] 0) (s.getD k 0) = (s.getD k 0 != 47) := rfl
    rw [h2]
    simp [flatB, Bool.and_comm]
theorem match_star {s : List UInt8} (h : s.length ≤ 200) : matchL [42] s = flatB s := by
  unfold matchL
  rw [if_neg (by simp; omega)]
  have h1 := pre_narrow s s.length (Nat.le_refl _)
  rw [List.take_length] at h1
  exact h1
theorem match_any1 {s : List UInt8} (h : s.length ≤ 200) : matchL [63] s = (decide (s.length = 1) && flatB s) := by
  unfold matchL
  rw [if_neg (by simp; omega)]
  show pre [⟨63, false, false, true⟩] s 1 s.length = _
  match s, h with
  | [], _ => rfl
  | [c], _ => rw [List.length_singleton, pre_one rfl]; simp [pre_zero, flatB, fitB, tk]
  | a :: b :: r, _ =>
    rw [List.length_cons, pre_one rfl, pre_zero]
    simp
theorem match_wide {s : List UInt8} (h : s.length ≤ 200) : matchL [42, 42] s = true := by
  unfold matchL
  rw [if_neg (by simp; omega)]
  show pre [⟨0, true, true, false⟩] s 1 s.length = true
  have h1 := go_star (l := [⟨0, true, true, false⟩]) (s := s) (i := 0) (k := 0) rfl rfl s.length (fun j _ => rfl)
  rw [show 0 + s.length = s.length from Nat.zero_add _] at h1
  exact h1
/-- A star in the middle. -/
theorem match_mid {a b c : List UInt8} (t : Tok) (p : List UInt8) (hp : tokL p = b.map plT ++ t :: c.map plT) (ht : t.star = true) (hl : p.length ≤ 200) (hs : (b ++ a ++ c).length ≤ 200) (hf : ∀ x ∈ a, fitB t x = true) : matchL p (b ++ a ++ c) = true := by
  unfold matchL
  rw [if_neg (by omega), hp]
  have h1 := go_text (s := b ++ a ++ c) b [] (t :: c.map plT) [] (a ++ c) (by simp) (by simp [pre_zero])
  simp only [List.nil_append, List.length_nil, Nat.zero_add] at h1
  have htk : tk (b.map plT ++ t :: c.map plT) b.length = t := by
    have := tk_at (l1 := b.map plT) (t := t) (l2 := c.map plT)
    rwa [List.length_map] at this
  have h2 := go_star (l := b.map plT ++ t :: c.map plT) (s := b ++ a ++ c) (i := b.length) (k := b.length) (by rw [htk]; exact ht) h1 a.length (fun j hj => by
    rw [htk]
    refine hf _ ?_
    rw [List.append_assoc, List.getD_eq_getElem?_getD, List.getElem?_append_right (by omega), Nat.add_sub_cancel_left, List.getElem?_append_left hj, List.getElem?_eq_getElem hj]
    exact List.getElem_mem hj)
  have h3 := go_text (s := b ++ a ++ c) c (b.map plT ++ [t]) [] (b ++ a) [] (by simp) (by
    have e0 : b.map plT ++ [t] ++ (c.map plT ++ []) = b.map plT ++ t :: c.map plT := by simp
    rw [e0]
    simp only [List.length_append, List.length_map, List.length_singleton]
    exact h2)
  have e1 : b.map plT ++ [t] ++ (c.map plT ++ []) = b.map plT ++ t :: c.map plT := by simp
  rw [e1] at h3
  simp only [List.length_append, List.length_map, List.length_singleton, List.length_cons] at h3 ⊢
  rw [show b.length + (c.length + 1) = b.length + 1 + c.length by omega]
  exact h3
theorem tok_mid2 {b c : List UInt8} (hb : plainB b = true) (hc : plainB c = true) : tokL (b ++ [42, 42] ++ c) = b.map plT ++ ⟨0, true, true, false⟩ :: c.map plT := by
  rw [List.append_assoc, tokL_plain _ b hb]
  show _ ++ tokL (42 :: 42 :: c) = _
  rw [tokL_two, tokL_plain' c hc]
theorem tok_mid1 {b c : List UInt8} (hb : plainB b = true) (hc : plainB c = true) : tokL (b ++ [42] ++ c) = b.map plT ++ ⟨0, true, false, false⟩ :: c.map plT := by
  rw [List.append_assoc, tokL_plain _ b hb]
  show _ ++ tokL (42 :: c) = _
  rw [tokL_one c hc, tokL_plain' c hc]
end Go.Proofs.YtkalfkgnjmkjgaaDoor
