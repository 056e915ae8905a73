/-
  Deltas in plain Lean: which places may be, which blocks there are, what is wanted. No condition.
-/
import Derived.Test.YtdikconhdbopdaaMerLeaf
import Derived.Test.YtdikconhdbopdaaFitL
namespace Go.Proofs.Ytdikconhdbopdaa
open Go.RowKit
set_option linter.unusedVariables false
set_option linter.unusedSimpArgs false

theorem sha_len (b : List UInt8) : (shaL b).length = 32 := by unfold shaL; simp [St.bytes, bytesW]
theorem leaves_fit (data : List UInt8) (block : Int) : FitM (leavesL data block) := by
  have h1 := (cnt_bd data.length block)
  have h2 := leavesL_length data block
  refine ⟨by omega, fun x hx => ?_⟩
  unfold leavesL leavesN at hx
  rw [List.mem_map] at hx
  obtain ⟨i, _, rfl⟩ := hx
  simp [leafL, sha_len]
/-- May a block's size be? -/
def mayD (block : Int) : Bool := decide (16 ≤ block) && decide (block ≤ 4096)
theorem mayD_iff {block : Int} : mayD block = true ↔ 16 ≤ block ∧ block ≤ 4096 := by simp [mayD]
/-- The last one ahead of a place. -/
def lastP (l : List Int) (n : Nat) : Int := if n = 0 then -1 else l.getD (n - 1) 0
/-- Do the first n rise, each of a block that there is? -/
def risN (l : List Int) (count : Int) : Nat → Bool
  | 0 => true
  | n + 1 => risN l count n && (decide (lastP l n < l.getD n 0) && decide (l.getD n 0 < count))
def risL (l : List Int) (count : Int) : Bool := risN l count l.length
theorem risN_step {l : List Int} {count : Int} {n : Nat} (h : risN l count n = true) (h1 : lastP l n < l.getD n 0) (h2 : l.getD n 0 < count) : risN l count (n + 1) = true := by
  simp only [risN, h, Bool.true_and, decide_eq_true h1, decide_eq_true h2]
theorem risN_mono {l : List Int} {count : Int} {n m : Nat} (h : risN l count m = true) (hnm : n ≤ m) : risN l count n = true := by
  induction m with
  | zero => have : n = 0 := by omega
            subst this; exact h
  | succ m ih =>
    rcases Nat.lt_or_ge m n with h1 | h1
    · have : n = m + 1 := by omega
      subst this; exact h
    · refine ih ?_ h1
      simp only [risN, Bool.and_eq_true] at h
      exact h.1
theorem risL_fails {l : List Int} {count : Int} {n : Nat} (hn : n < l.length) (h : l.getD n 0 ≤ lastP l n ∨ count ≤ l.getD n 0) : risL l count = false := by
  cases hh : risL l count with
  | false => rfl
  | true =>
    have h1 := risN_mono hh (show n + 1 ≤ l.length by omega)
    simp only [risN, Bool.and_eq_true, decide_eq_true_eq] at h1
    omega
theorem risN_low {l : List Int} {count : Int} : ∀ {n : Nat}, risN l count n = true → -1 ≤ lastP l n
  | 0, h => by simp [lastP]
  | n + 1, h => by
    simp only [risN, Bool.and_eq_true, decide_eq_true_eq] at h
    have := risN_low h.1
    have e : lastP l (n + 1) = l.getD n 0 := by simp [lastP]
    rw [e]; omega
theorem risL_at {l : List Int} {count : Int} (h : risL l count = true) {i : Nat} (hi : i < l.length) : 0 ≤ l.getD i 0 ∧ l.getD i 0 < count := by
  have h1 := risN_mono h (show i + 1 ≤ l.length by omega)
  simp only [risN, Bool.and_eq_true, decide_eq_true_eq] at h1
  have := risN_low h1.1
  omega
theorem risN_len {l : List Int} {count : Int} : ∀ {n : Nat}, risN l count n = true → (n : Int) ≤ lastP l n + 1
  | 0, h => by simp [lastP]
  | n + 1, h => by
    simp only [risN, Bool.and_eq_true, decide_eq_true_eq] at h
    have := risN_len h.1
    have e : lastP l (n + 1) = l.getD n 0 := by simp [lastP]
    rw [e]; omega
/-- Places that rise are no more than blocks. -/
theorem risL_len {l : List Int} {count : Int} (h : risL l count = true) (hc : 0 ≤ count) : (l.length : Int) ≤ count := by
  have h1 := risN_len h
  rcases Nat.eq_zero_or_pos l.length with h0 | h0
  · omega
  · have h2 := (risL_at h (show l.length - 1 < l.length by omega)).2
    have e : lastP l l.length = l.getD (l.length - 1) 0 := by simp only [lastP]; rw [if_neg (by omega)]
    rw [e] at h1; omega

/-- The blocks of some places. -/
def blocksN (data : List UInt8) (block : Int) (l : List Int) (n : Nat) : List (List UInt8) := (List.range n).map fun i => blockL data block (l.getD i 0)
theorem blocksN_succ (data : List UInt8) (block : Int) (l : List Int) (n : Nat) : blocksN data block l (n + 1) = blocksN data block l n ++ [blockL data block (l.getD n 0)] := by
  simp [blocksN, List.range_succ]
theorem blocksN_length (data : List UInt8) (block : Int) (l : List Int) (n : Nat) : (blocksN data block l n).length = n := by simp [blocksN]

/-- How long a block at a place is. -/
def blen (size block p : Int) : Int := min block (size - p * block)
/-- Have the first n blocks their lengths? -/
def lensN (size block : Int) (l : List Int) (bs : List (List UInt8)) : Nat → Bool
  | 0 => true
  | n + 1 => lensN size block l bs n && (((bs.getD n []).length : Int) == blen size block (l.getD n 0))
theorem lensN_fails {size block : Int} {l : List Int} {bs : List (List UInt8)} {n m : Nat} (hnm : n < m) (h : (((bs.getD n []).length : Int) == blen size block (l.getD n 0)) = false) : lensN size block l bs m = false := by
  induction m with
  | zero => omega
  | succ m ih =>
    rcases Nat.lt_or_ge n m with h1 | h1
    · rw [lensN, ih h1]; rfl
    · have : n = m := by omega
      subst this
      rw [lensN, h, Bool.and_false]
theorem lensN_mono {size block : Int} {l : List Int} {bs : List (List UInt8)} {n m : Nat} (h : lensN size block l bs m = true) (hnm : n ≤ m) : lensN size block l bs n = true := by
  induction m with
  | zero => have : n = 0 := by omega
            subst this; exact h
  | succ m ih =>
    rcases Nat.lt_or_ge m n with h1 | h1
    · have : n = m + 1 := by omega
      subst this; exact h
    · refine ih ?_ h1
      simp only [lensN, Bool.and_eq_true] at h
      exact h.1
/-- May a delta be? -/
def soundD (size block : Int) (root : List UInt8) (l : List Int) (bs : List (List UInt8)) : Bool :=
  decide (0 ≤ size) && (decide (size ≤ 8192) && (mayD block && (((root.length : Int) == 32) && (((l.length : Int) == bs.length) && (risL l (cnt size block) && lensN size block l bs l.length)))))
/-- The text, n blocks being put in. -/
def putN (x : List UInt8) (block : Int) (l : List Int) (bs : List (List UInt8)) : Nat → List UInt8
  | 0 => x
  | n + 1 => splB (putN x block l bs n) (l.getD n 0 * block).toNat (bs.getD n [])
/-- What is wanted. -/
def needB (have_ want : List (List UInt8)) (i : Nat) : Bool := decide (have_.length ≤ i) || (have_.getD i [] != want.getD i [])
def needN (have_ want : List (List UInt8)) : Nat → List Int
  | 0 => []
  | n + 1 => needN have_ want n ++ if needB have_ want n = true then [(n : Int)] else []
theorem needN_length (a b : List (List UInt8)) : ∀ n, (needN a b n).length ≤ n
  | 0 => by simp [needN]
  | n + 1 => by
    have := needN_length a b n
    rw [needN, List.length_append]
    split <;> simp <;> omega
end Go.Proofs.Ytdikconhdbopdaa
