/-
  SHA-256's blocks, one behind the other; what waits. No condition.
-/
import Derived.Test.YtjoljmkedghcbaaDigSpec
namespace Go.Proofs.Ytjoljmkedghcbaa
open Go.RowKit
set_option linter.unusedVariables false
set_option linter.unusedSimpArgs false

theorem blocksL_succ (n : Nat) : ∀ (s : St) (m : List UInt8), blocksL s (n + 1) m = stepL (blocksL s n m) ((m.drop (64 * n)).take 64) := by
  induction n with
  | zero => intro s m; rfl
  | succ n ih =>
    intro s m
    rw [blocksL, ih, blocksL, List.drop_drop]
    congr 3
    omega
theorem blocksL_add (p : Nat) : ∀ (q : Nat) (s : St) (m : List UInt8), blocksL s (p + q) m = blocksL (blocksL s p m) q (m.drop (64 * p)) := by
  induction p with
  | zero => intro q s m; rw [Nat.zero_add]; rfl
  | succ p ih =>
    intro q s m
    rw [show p + 1 + q = (p + q) + 1 by omega, blocksL, ih, blocksL, List.drop_drop]
    congr 2
    omega
theorem blocksL_app (n : Nat) : ∀ (s : St) (m x : List UInt8), 64 * n ≤ m.length → blocksL s n (m ++ x) = blocksL s n m := by
  induction n with
  | zero => intro s m x _; rfl
  | succ n ih =>
    intro s m x h
    rw [blocksL, blocksL, List.take_append_of_le_length (by omega), List.drop_append_of_le_length (by omega), ih _ _ _ (by rw [List.length_drop]; omega)]
/-- What waits. -/
def waitL (m : List UInt8) : List UInt8 := m.drop (64 * (m.length / 64))
theorem waitL_length (m : List UInt8) : (waitL m).length = m.length % 64 := by rw [waitL, List.length_drop]; omega
/-- What was taken in. -/
def stL (m : List UInt8) : St := blocksL St0 (m.length / 64) m
theorem stL_app (m x : List UInt8) (j : Nat) (h1 : 64 * j ≤ (waitL m ++ x).length) (h2 : (waitL m ++ x).length < 64 * j + 64) : blocksL (stL m) j (waitL m ++ x) = stL (m ++ x) ∧ (waitL m ++ x).drop (64 * j) = waitL (m ++ x) := by
  have hl := waitL_length m
  have he : m.drop (64 * (m.length / 64)) ++ x = (m ++ x).drop (64 * (m.length / 64)) := by rw [List.drop_append_of_le_length (by omega)]
  rw [List.length_append, hl] at h1 h2
  have hj : (m ++ x).length / 64 = m.length / 64 + j := by rw [List.length_append]; omega
  constructor
  · rw [stL, stL, hj, blocksL_add, ← he]
    have hlt : 64 * (m.length / 64) ≤ m.length := by omega
    rw [blocksL_app (m.length / 64) St0 m x hlt]
    rfl
  · rw [waitL, waitL, hj, he, List.drop_drop]
    congr 1
    omega

/-- The padding so far: the mark and j bytes of nothing. -/
def padZ (j : Nat) : List UInt8 := 128 :: List.replicate j 0
theorem padZ_length (j : Nat) : (padZ j).length = j + 1 := by simp [padZ]
theorem padZ_succ (j : Nat) : padZ j ++ [0] = padZ (j + 1) := by rw [padZ, padZ, List.replicate_succ', List.cons_append]
theorem zerosN_lt (n : Nat) : zerosN n < 64 := by unfold zerosN; omega
theorem zeros_go (n j : Nat) (h : j < zerosN n) : (n + (j + 1)) % 64 ≠ 56 := by unfold zerosN at h; omega
theorem zeros_end (n : Nat) : (n + (zerosN n + 1)) % 64 = 56 := by unfold zerosN; omega
/-- The length's byte of place m. -/
def lenAt (n m : Nat) : UInt8 := UInt8.ofNat (n * 8 / 2 ^ (8 * (7 - m)))
def lenN (n : Nat) : Nat → List UInt8
  | 0 => []
  | m + 1 => lenN n m ++ [lenAt n m]
theorem lenN_length (n : Nat) : ∀ m, (lenN n m).length = m
  | 0 => rfl
  | m + 1 => by rw [lenN, List.length_append, lenN_length n m]; rfl
theorem lenN_eight (n : Nat) : lenN n 8 = lenB n := by
  have e : lenAt n 7 = UInt8.ofNat (n * 8) := by
    unfold lenAt
    rw [show 8 * (7 - 7) = 0 from rfl, Nat.pow_zero, Nat.div_one]
  show [lenAt n 0, lenAt n 1, lenAt n 2, lenAt n 3, lenAt n 4, lenAt n 5, lenAt n 6, lenAt n 7] = _
  rw [e]
  rfl
theorem padL_eq (n : Nat) : padL n = padZ (zerosN n) ++ lenN n 8 := by rw [lenN_eight]; rfl
theorem padL_length (n : Nat) : (padL n).length = zerosN n + 9 := by
  rw [padL_eq, List.length_append, padZ_length, lenN_length]
theorem lenAt_value (n m : Nat) : ((n : Int) * 8 / 2 ^ (8 * (7 - m))) % 256 = ((lenAt n m).toNat : Int) := by
  unfold lenAt
  rw [UInt8.toNat_ofNat']
  rfl
theorem shaL_eq (b : List UInt8) : shaL b = (stL (b ++ padL b.length)).bytes := rfl
/-- The first k words' bytes. -/
def outL (s : St) : Nat → List UInt8
  | 0 => []
  | k + 1 => outL s k ++ bytesW (([s.a, s.b, s.c, s.d, s.e, s.f, s.g, s.h] : List UInt32).getD k 0)
theorem outL_eight (s : St) : outL s 8 = s.bytes := by simp [outL, St.bytes]
theorem outL_length (s : St) : ∀ k, (outL s k).length = 4 * k
  | 0 => rfl
  | k + 1 => by rw [outL, List.length_append, outL_length s k]; simp [bytesW]; omega
theorem byte_at (x : UInt32) (n : Nat) (h : n < 32) : ((x.toNat : Int) / 2 ^ n) % 256 = (((x >>> UInt32.ofNat n).toUInt8).toNat : Int) := by
  rw [q_shr x n h, UInt32.toNat_toUInt8]; omega
theorem byte_zero (x : UInt32) : (x.toNat : Int) % 256 = ((x.toUInt8).toNat : Int) := by
  rw [UInt32.toNat_toUInt8]; omega
end Go.Proofs.Ytjoljmkedghcbaa
