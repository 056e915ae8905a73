/-
  Bad blocks and their mending: the words. No program.
-/
import Derived.Test.YtplbmflgmfoanaaMerPure
import Derived.Test.YtplbmflgmfoanaaBuild
import Derived.Test.YtplbmflgmfoanaaCopy
namespace Go.Proofs.Ytplbmflgmfoanaa
open Go.RowKit
set_option linter.unusedVariables false
set_option linter.unusedSimpArgs false

/-- Has a block its leaf? -/
def rightB (data : List UInt8) (block : Int) (leaves : List (List UInt8)) (i : Nat) : Bool := decide (i < leaves.length) && (leafL (blockL data block i) == leaves.getD i [])
def badN (data : List UInt8) (block : Int) (leaves : List (List UInt8)) : Nat → List Int
  | 0 => []
  | n + 1 => badN data block leaves n ++ if rightB data block leaves n = true then [] else [(n : Int)]
def badL (data : List UInt8) (block : Int) (leaves : List (List UInt8)) : List Int := badN data block leaves (cnt data.length block).toNat
theorem badN_length (data : List UInt8) (block : Int) (leaves : List (List UInt8)) : ∀ n, (badN data block leaves n).length ≤ n
  | 0 => by simp [badN]
  | n + 1 => by
    have := badN_length data block leaves n
    rw [badN, List.length_append]
    split <;> simp <;> omega
theorem badN_mem (data : List UInt8) (block : Int) (leaves : List (List UInt8)) : ∀ n, ∀ x ∈ badN data block leaves n, 0 ≤ x ∧ x < n
  | 0, x, h => by simp [badN] at h
  | n + 1, x, h => by
    rw [badN, List.mem_append] at h
    rcases h with h | h
    · have := badN_mem data block leaves n x h; omega
    · split at h
      · cases h
      · have := List.mem_singleton.1 h; omega

/-- The bad ones of a group. -/
def hitsL (bad : List Int) (k g : Int) : List Int := bad.filter fun i => i / k == g
theorem hitsL_snoc (bad : List Int) (k g x : Int) : hitsL (bad ++ [x]) k g = hitsL bad k g ++ if x / k = g then [x] else [] := by
  unfold hitsL
  rw [List.filter_append]
  congr 1
  by_cases h : x / k = g
  · rw [if_pos h]; simp [h]
  · rw [if_neg h]; simp [h]
theorem take_snocD {α : Type} {l : List α} {j : Nat} {d : α} (h : j < l.length) : l.take (j + 1) = l.take j ++ [l.getD j d] := by
  rw [List.take_succ_eq_append_getElem h]; simp [List.getElem?_eq_getElem h]
theorem hitsL_grow (bad : List Int) (k g : Int) (j : Nat) : ∃ r, hitsL bad k g = hitsL (bad.take j) k g ++ r := by
  refine ⟨hitsL (bad.drop j) k g, ?_⟩
  unfold hitsL
  rw [← List.filter_append, List.take_append_drop]

/-- A group's parity without one block. -/
def fixN (data : List UInt8) (block s at_ : Int) (p : List UInt8) : Nat → List UInt8
  | 0 => p
  | n + 1 => if s + n = at_ then fixN data block s at_ p n else xorL (fixN data block s at_ p n) (blockL data block (s + n))
theorem fixN_length (data : List UInt8) (block s at_ : Int) (p : List UInt8) : ∀ n, (fixN data block s at_ p n).length = p.length
  | 0 => rfl
  | n + 1 => by
    rw [fixN]
    split
    · exact fixN_length data block s at_ p n
    · rw [xorL_length]; exact fixN_length data block s at_ p n
def fixG (data : List UInt8) (block k g at_ : Int) (p : List UInt8) : List UInt8 := (fixN data block (g * k) at_ p k.toNat).take (blockL data block at_).length
/-- One group. -/
def fixS (data : List UInt8) (block k : Int) (leaves par : List (List UInt8)) (bad : List Int) (g : Nat) (fixed : List UInt8) : List UInt8 :=
  match hitsL bad k g with
  | [at_] =>
    if g < par.length ∧ ((par.getD g []).length : Int) = block ∧ at_.toNat < leaves.length ∧ leafL (fixG data block k g at_ (par.getD g [])) = leaves.getD at_.toNat [] then
      splB fixed (at_ * block).toNat (fixG data block k g at_ (par.getD g []))
    else fixed
  | _ => fixed
def fixTo (data : List UInt8) (block k : Int) (leaves par : List (List UInt8)) (bad : List Int) : Nat → List UInt8
  | 0 => data
  | n + 1 => fixS data block k leaves par bad n (fixTo data block k leaves par bad n)
def fixL (data : List UInt8) (block k : Int) (leaves par : List (List UInt8)) : List UInt8 := fixTo data block k leaves par (badL data block leaves) (grp data.length block k).toNat

theorem fixS_two {data : List UInt8} {block k : Int} {leaves par : List (List UInt8)} {bad : List Int} {g : Nat} {fixed : List UInt8} (h : (hitsL bad k g).length ≠ 1) : fixS data block k leaves par bad g fixed = fixed := by
  unfold fixS
  split
  · rename_i at_ he; rw [he] at h; simp at h
  · rfl
theorem fixS_one {data : List UInt8} {block k : Int} {leaves par : List (List UInt8)} {bad : List Int} {g : Nat} {fixed : List UInt8} {at_ : Int} (h : hitsL bad k g = [at_]) :
    fixS data block k leaves par bad g fixed = if g < par.length ∧ ((par.getD g []).length : Int) = block ∧ at_.toNat < leaves.length ∧ leafL (fixG data block k g at_ (par.getD g [])) = leaves.getD at_.toNat [] then
      splB fixed (at_ * block).toNat (fixG data block k g at_ (par.getD g []))
    else fixed := by
  unfold fixS; rw [h]
theorem fixS_far {data : List UInt8} {block k : Int} {leaves par : List (List UInt8)} {bad : List Int} {g : Nat} {fixed : List UInt8} (h : par.length ≤ g) : fixS data block k leaves par bad g fixed = fixed := by
  unfold fixS
  split
  · rw [if_neg (by omega)]
  · rfl
theorem fixTo_far (data : List UInt8) (block k : Int) (leaves par : List (List UInt8)) (bad : List Int) : ∀ n m, par.length ≤ n → fixTo data block k leaves par bad (n + m) = fixTo data block k leaves par bad n
  | n, 0, _ => rfl
  | n, m + 1, h => by
    show fixS data block k leaves par bad (n + m) (fixTo data block k leaves par bad (n + m)) = _
    rw [fixS_far (by omega), fixTo_far data block k leaves par bad n m h]
end Go.Proofs.Ytplbmflgmfoanaa
