/-
  The reference reads a rule. No condition but a length.
-/
import Derived.Test.YtkalfkgnjmkjgaaDoorIgnParse
namespace Go.Proofs.YtkalfkgnjmkjgaaDoor
open Go.RowKit Go.Lib
set_option linter.unusedVariables false
set_option linter.unusedSimpArgs false

theorem par1_yes {S : List UInt8} (h : S.getD 0 0 = 33) : par1 S = S.drop 1 ∧ parN S = true := by
  cases S with
  | nil => exact absurd h (by decide)
  | cons a l =>
    have ha : a = 33 := h
    subst ha
    exact ⟨rfl, rfl⟩
theorem par1_no {S : List UInt8} (h : S.getD 0 0 ≠ 33) : par1 S = S ∧ parN S = false := by
  have hp : Lib.hasPrefix S [33] = false := by
    unfold Lib.hasPrefix
    cases S with
    | nil => rfl
    | cons a l =>
      have ha : a ≠ 33 := h
      show ((33 : UInt8) == a && List.isPrefixOf [] l) = false
      rw [beq_eq_false_iff_ne.2 (fun e => ha e.symm)]; rfl
  unfold par1 parN Lib.trimPrefix
  rw [hp]
  exact ⟨rfl, rfl⟩
theorem suf_yes {T : List UInt8} {n : Nat} (hn : T.length = n + 1) (h : T.getD n 0 = 47) : Lib.hasSuffix T [47] = true ∧ Lib.trimSuffix T [47] = T.take n := by
  have h1 : Lib.hasSuffix T [47] = true := by
    unfold Lib.hasSuffix
    rw [List.isSuffixOf_iff_suffix]
    refine ⟨T.take n, ?_⟩
    have h2 : T.drop n = [47] := by
      rw [List.drop_eq_getElem_cons (by omega), List.drop_of_length_le (by omega)]
      rw [List.getD_eq_getElem?_getD, List.getElem?_eq_getElem (by omega)] at h
      rw [show T[n] = 47 from h]
    rw [← h2, List.take_append_drop]
  refine ⟨h1, ?_⟩
  unfold Lib.trimSuffix
  rw [h1, if_pos rfl, hn]; rfl
theorem suf_no {T : List UInt8} (h : T = [] ∨ T.getD (T.length - 1) 0 ≠ 47) : Lib.hasSuffix T [47] = false ∧ Lib.trimSuffix T [47] = T := by
  have h1 : Lib.hasSuffix T [47] = false := by
    cases hq : Lib.hasSuffix T [47] with
    | false => rfl
    | true =>
      unfold Lib.hasSuffix at hq
      rw [List.isSuffixOf_iff_suffix] at hq
      obtain ⟨L, hL⟩ := hq
      rcases h with h | h
      · rw [h] at hL; simp at hL
      · refine absurd ?_ h
        rw [← hL, List.length_append, show ([47] : List UInt8).length = 1 from rfl, Nat.add_sub_cancel, List.getD_eq_getElem?_getD, List.getElem?_append_right (Nat.le_refl _), Nat.sub_self]
        rfl
  refine ⟨h1, ?_⟩
  unfold Lib.trimSuffix
  rw [h1]; rfl
theorem index_slash : ∀ l : List UInt8, decide (0 ≤ Lib.indexByte l 47) = l.any (· == 47)
  | [] => rfl
  | b :: l => by
    rw [← Lib.indexAny_one]
    have ih := index_slash l
    rw [← Lib.indexAny_one] at ih
    have hge := Lib.indexAny_ge [47] l
    rw [Lib.indexAny, List.any_cons, ← ih]
    have hb : ([47] : List UInt8).contains b = (b == 47) := by rw [Bool.eq_iff_iff]; simp
    rw [hb]
    cases hq : (b == 47) with
    | true => simp
    | false =>
      rw [if_neg (by decide), Bool.false_or]
      split
      · rename_i h
        rw [beq_iff_eq] at h
        rw [h]
      · rename_i h
        rw [beq_iff_eq] at h
        rw [decide_eq_decide]; omega

/-- The reading's last part: the bytes are looked at. -/
def deepN (T : List UInt8) (k : Nat) : Bool := (T.take k).any (· == 47)
theorem deepN_succ {T : List UInt8} {k : Nat} (h : k < T.length) : deepN T (k + 1) = (deepN T k || (T.getD k 0 == 47)) := by
  unfold deepN
  rw [List.take_add_one, List.getElem?_eq_getElem h, List.any_append, List.getD_eq_getElem?_getD, List.getElem?_eq_getElem h]
  simp
end Go.Proofs.YtkalfkgnjmkjgaaDoor
