/-
  Parity, in plain Lean: blocks, xor, groups. No condition.
-/
import Derived.Test.YtdikconhdbopdaaBase
import Derived.Laws.BitsAllLaws
namespace Go.Proofs.Ytdikconhdbopdaa
set_option linter.unusedVariables false

/-- Bytes xored into others. -/
def xorL : List UInt8 → List UInt8 → List UInt8
  | a :: as, b :: bs => (a ^^^ b) :: xorL as bs
  | as, [] => as
  | [], _ => []
theorem xorL_nil (a : List UInt8) : xorL a [] = a := by cases a <;> rfl
theorem xorL_nil_left (a : List UInt8) : xorL [] a = [] := by cases a <;> rfl
theorem xorL_length : ∀ (a b : List UInt8), (xorL a b).length = a.length
  | a :: as, b :: bs => by simp [xorL, xorL_length as bs]
  | a :: as, [] => rfl
  | [], [] => rfl
  | [], _ :: _ => rfl
theorem xorL_get : ∀ (a b : List UInt8) (i : Nat), (xorL a b).getD i 0 = if i < a.length then a.getD i 0 ^^^ b.getD i 0 else 0
  | a :: as, b :: bs, 0 => by simp [xorL]
  | a :: as, b :: bs, i + 1 => by simpa [xorL] using xorL_get as bs i
  | a :: as, [], i => by
    rw [xorL_nil]
    by_cases h : i < (a :: as).length
    · rw [if_pos h]; simp
    · rw [if_neg h]; rw [List.getD_eq_getElem?_getD, List.getElem?_eq_none (by omega)]; rfl
  | [], b, i => by rw [xorL_nil_left]; simp
theorem ext_getD {a b : List UInt8} (hl : a.length = b.length) (h : ∀ i, i < a.length → a.getD i 0 = b.getD i 0) : a = b := by
  apply List.ext_getElem hl
  intro i h1 h2
  have := h i h1
  simpa [List.getD_eq_getElem?_getD, List.getElem?_eq_getElem h1, List.getElem?_eq_getElem h2] using this
theorem getD_ge {a : List UInt8} {i : Nat} (h : a.length ≤ i) : a.getD i 0 = 0 := by rw [List.getD_eq_getElem?_getD, List.getElem?_eq_none h]; rfl
theorem take_getD (b : List UInt8) (n i : Nat) : (b.take n).getD i 0 = if i < n then b.getD i 0 else 0 := by
  rw [List.getD_eq_getElem?_getD, List.getElem?_take]
  split
  · rw [List.getD_eq_getElem?_getD]
  · rfl
theorem set_getD (b : List UInt8) (n i : Nat) (x : UInt8) : (b.set n x).getD i 0 = if n = i ∧ i < b.length then x else b.getD i 0 := by
  rw [List.getD_eq_getElem?_getD, List.getElem?_set]
  by_cases h1 : n = i
  · subst h1
    by_cases h2 : n < b.length
    · simp [h2]
    · simp [h2]
  · simp [h1]
/-- One step of the loop. -/
theorem xorL_step (a b : List UInt8) (i : Nat) (ha : i < a.length) (hb : i < b.length) : xorL a (b.take (i + 1)) = (xorL a (b.take i)).set i (a.getD i 0 ^^^ b.getD i 0) := by
  apply ext_getD
  · simp [xorL_length]
  · intro j hj
    rw [xorL_length] at hj
    rw [set_getD, xorL_length, xorL_get, xorL_get, if_pos hj, if_pos hj, take_getD, take_getD]
    by_cases h1 : i = j
    · subst h1; simp [ha]
    · by_cases h2 : j < i
      · simp [h1, h2, show j < i + 1 by omega]
      · simp [h1, h2, show ¬ j < i + 1 by omega]
theorem xorL_at (a b : List UInt8) (i : Nat) : (xorL a (b.take i)).getD i 0 = a.getD i 0 := by
  rw [xorL_get, take_getD]
  by_cases h : i < a.length
  · simp [h]
  · rw [if_neg h, getD_ge (by omega)]

theorem u8_xor_bits (x y : UInt8) : bits .xor .u8 (x.toNat : Int) (y.toNat : Int) = ((x ^^^ y).toNat : Int) := by
  rw [u8_xor_nat _ _ x.toNat_lt y.toNat_lt]; rfl
theorem xorL_self (x : List UInt8) : xorL x x = List.replicate x.length 0 := by
  apply ext_getD
  · simp [xorL_length]
  · intro i hi
    rw [xorL_length] at hi
    rw [xorL_get, if_pos hi, UInt8.xor_self]
    simp [hi]
theorem xorL_zeros (n : Nat) (y : List UInt8) (h : y.length = n) : xorL (List.replicate n 0) y = y := by
  apply ext_getD
  · simp [xorL_length, h]
  · intro i hi
    rw [xorL_length, List.length_replicate] at hi
    rw [xorL_get, List.length_replicate, if_pos hi]
    simp [hi]
end Go.Proofs.Ytdikconhdbopdaa
