/-
  path's functions: Join, Under, Compare, Less. No condition but lengths.
-/
import Derived.Test.YtkalfkgnjmkjgaaDoorPathFns2
namespace Go.Proofs.YtkalfkgnjmkjgaaDoor
open Go.RowKit
set_option linter.unusedVariables false
set_option linter.unusedSimpArgs false

theorem size_app (a b : ByteArray) : (a ++ b).size = a.size + b.size := ByteArray.size_append
theorem data_app (a b : ByteArray) : (a ++ b).data.toList = a.data.toList ++ b.data.toList := by rw [ByteArray.data_append, Array.toList_append]
theorem size_zero {s : ByteArray} : s.data.toList = [] ↔ s.size = 0 := by rw [← len_data]; exact List.length_eq_zero_iff.symm

/-! ### the order -/
def cmpS (a b : List UInt8) : Int := if ltS a b = true then -1 else if ltS b a = true then 1 else 0
def cmpP (a b : List (List UInt8)) : Int := if ltP a b = true then -1 else if ltP b a = true then 1 else 0
/-- Below nought, nought, or above. -/
def cmpL (a b : List UInt8) : Int :=
  match validB a, validB b with
  | true, true => cmpP (splitP a) (splitP b)
  | true, false => -1
  | false, true => 1
  | false, false => cmpS a b
theorem cmpL_less (a b : List UInt8) : decide (cmpL a b < 0) = lessB a b := by
  unfold cmpL lessB
  cases validB a <;> cases validB b
  · show decide (cmpS a b < 0) = ltS a b
    unfold cmpS
    cases h : ltS a b with
    | true => rfl
    | false => cases h2 : ltS b a <;> rfl
  · rfl
  · rfl
  · show decide (cmpP (splitP a) (splitP b) < 0) = ltP (splitP a) (splitP b)
    unfold cmpP
    cases h : ltP (splitP a) (splitP b) with
    | true => rfl
    | false => cases h2 : ltP (splitP b) (splitP a) <;> rfl
theorem cmpL_bd (a b : List UInt8) : -1 ≤ cmpL a b ∧ cmpL a b ≤ 1 := by
  unfold cmpL
  have h1 : ∀ x y : Bool, -1 ≤ (if x = true then (-1 : Int) else if y = true then 1 else 0) ∧ (if x = true then (-1 : Int) else if y = true then 1 else 0) ≤ 1 := by decide
  split
  · exact h1 _ _
  · decide
  · decide
  · exact h1 _ _
/-- Alike so far. -/
def AlikeTo (A B : List (List UInt8)) (k : Nat) : Prop := ltP A B = ltP (A.drop k) (B.drop k) ∧ ltP B A = ltP (B.drop k) (A.drop k)
theorem alike_zero (A B : List (List UInt8)) : AlikeTo A B 0 := ⟨rfl, rfl⟩
theorem drop_at {α : Type} {l : List α} {k : Nat} {d : α} (h : k < l.length) : l.drop k = l.getD k d :: l.drop (k + 1) := by
  rw [List.drop_eq_getElem_cons h]; simp [List.getElem?_eq_getElem h]
theorem alike_step {A B : List (List UInt8)} {k : Nat} (h : AlikeTo A B k) (ha : k < A.length) (hb : k < B.length) :
    cmpP A B = if cmpS (A.getD k []) (B.getD k []) = 0 then cmpP A B else cmpS (A.getD k []) (B.getD k []) := by
  obtain ⟨h1, h2⟩ := h
  rw [drop_at (d := []) ha, drop_at (d := []) hb] at h1 h2
  unfold cmpS
  cases h3 : ltS (A.getD k []) (B.getD k []) with
  | true =>
    have : ltP A B = true := by rw [h1]; show lexB ltS _ _ = _; rw [lexB, h3]; rfl
    simp [cmpP, this]
  | false =>
    cases h4 : ltS (B.getD k []) (A.getD k []) with
    | true =>
      have e1 : ltP A B = false := by rw [h1]; show lexB ltS _ _ = _; rw [lexB, h3, h4]; rfl
      have e2 : ltP B A = true := by rw [h2]; show lexB ltS _ _ = _; rw [lexB, h4]; rfl
      simp [cmpP, e1, e2]
    | false => simp
theorem alike_succ {A B : List (List UInt8)} {k : Nat} (h : AlikeTo A B k) (ha : k < A.length) (hb : k < B.length) (hc : cmpS (A.getD k []) (B.getD k []) = 0) : AlikeTo A B (k + 1) := by
  obtain ⟨h1, h2⟩ := h
  rw [drop_at (d := []) ha, drop_at (d := []) hb] at h1 h2
  have h3 : ltS (A.getD k []) (B.getD k []) = false := by
    cases h3 : ltS (A.getD k []) (B.getD k []) with
    | false => rfl
    | true => unfold cmpS at hc; rw [h3] at hc; simp at hc
  have h4 : ltS (B.getD k []) (A.getD k []) = false := by
    cases h4 : ltS (B.getD k []) (A.getD k []) with
    | false => rfl
    | true => unfold cmpS at hc; rw [h3, h4] at hc; simp at hc
  refine ⟨h1.trans ?_, h2.trans ?_⟩
  · show lexB ltS _ _ = _; rw [lexB, h3, h4]; rfl
  · show lexB ltS _ _ = _; rw [lexB, h3, h4]; rfl
theorem alike_end {A B : List (List UInt8)} {k : Nat} (h : AlikeTo A B k) (hk : A.length ≤ k ∨ B.length ≤ k) (ha : k ≤ A.length) (hb : k ≤ B.length) :
    cmpP A B = if (A.length : Int) < B.length then -1 else if (B.length : Int) < A.length then 1 else 0 := by
  obtain ⟨h1, h2⟩ := h
  rcases Nat.lt_trichotomy A.length B.length with h3 | h3 | h3
  · have e1 : A.drop k = [] := List.drop_eq_nil_of_le (by omega)
    have e2 : B.drop k ≠ [] := by intro e; have := congrArg List.length e; simp at this; omega
    rw [e1] at h1
    have : ltP A B = true := by rw [h1]; cases hd : B.drop k with
      | nil => exact absurd hd e2
      | cons x l => rfl
    rw [cmpP, if_pos this, if_pos (by omega)]
  · have e1 : A.drop k = [] := List.drop_eq_nil_of_le (by omega)
    have e2 : B.drop k = [] := List.drop_eq_nil_of_le (by omega)
    rw [e1, e2] at h1 h2
    rw [cmpP, if_neg (by rw [h1]; decide), if_neg (by rw [h2]; decide), if_neg (by omega), if_neg (by omega)]
  · have e1 : B.drop k = [] := List.drop_eq_nil_of_le (by omega)
    have e2 : A.drop k ≠ [] := by intro e; have := congrArg List.length e; simp at this; omega
    rw [e1] at h1 h2
    have g1 : ltP A B = false := by rw [h1]; cases hd : A.drop k with
      | nil => exact absurd hd e2
      | cons x l => rfl
    have g2 : ltP B A = true := by rw [h2]; cases hd : A.drop k with
      | nil => exact absurd hd e2
      | cons x l => rfl
    rw [cmpP, if_neg (by rw [g1]; decide), if_pos g2, if_neg (by omega), if_pos (by omega)]

theorem at_zero (g k : Nat) : (⟨g, 0, none⟩ : Addr).add k = ⟨g, k, none⟩ := by unfold Addr.add; split <;> simp_all

end Go.Proofs.YtkalfkgnjmkjgaaDoor
