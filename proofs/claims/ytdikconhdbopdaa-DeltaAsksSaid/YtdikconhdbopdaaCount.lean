/-
  How many blocks and groups there are, and a block's bytes. No condition but that numbers are numbers.
-/
import Derived.Test.YtdikconhdbopdaaProg
import Derived.Test.YtdikconhdbopdaaParityPure
import Derived.Test.YtdikconhdbopdaaClone
namespace Go.Proofs.Ytdikconhdbopdaa
open Go.RowKit
set_option linter.unusedVariables false
set_option linter.unusedSimpArgs false

/-- How many blocks so many bytes have. -/
def cnt (size block : Int) : Int := if size < 0 ∨ 1048576 < size ∨ block < 1 ∨ 4096 < block then 0 else (size + block - 1) / block
theorem cnt_bd (size block : Int) : 0 ≤ cnt size block ∧ cnt size block ≤ 1048576 := by
  unfold cnt
  split
  · omega
  · rename_i h
    have h1 : 0 ≤ size ∧ size ≤ 1048576 ∧ 1 ≤ block := by omega
    constructor
    · exact Int.ediv_nonneg (by omega) (by omega)
    · have : (size + block - 1) / block ≤ size := by
        rcases Int.lt_or_le 0 size with h2 | h2
        · have : (size + block - 1) < (size + 1) * block := by
            have := Int.mul_le_mul_of_nonneg_left (show 1 ≤ block from h1.2.2) (show 0 ≤ size by omega)
            rw [Int.add_mul]; omega
          have := Int.ediv_lt_of_lt_mul (by omega) this
          omega
        · have h3 : size = 0 := by omega
          subst h3
          have : (0 + block - 1) / block = 0 := Int.ediv_eq_zero_of_lt (by omega) (by omega)
          omega
      omega

set_option maxHeartbeats 400000 in
theorem count_calls (size block : Int) (w : World) (hs : -9223372036854775808 ≤ size ∧ size ≤ 9223372036854775807) (hb : -9223372036854775808 ≤ block ∧ block ≤ 9223372036854775807) :
    Calls Try.prog 21 #[.int .i64 size, .int .i64 block] w fun e w' => e = .returned (.int .i64 (cnt size block)) ∧ w = w' := by
  obtain ⟨hs1, hs2⟩ := hs
  obtain ⟨hb1, hb2⟩ := hb
  by_cases h1 : size < 0
  · have d1 : decide (size < 0) = true := by simpa using h1
    have HC : Aside0 (cnt size block = 0) := ⟨by unfold cnt; rw [if_pos (.inl h1)]⟩
    rw [HC.out]
    go_enter Try.func21, Try.ntmps21
    go_wp2
    go_ret
    exact ⟨rfl, rfl⟩
  · have d1 : decide (size < 0) = false := by simpa using h1
    by_cases h2 : 1048576 < size
    · have d2 : decide (1048576 < size) = true := by simpa using h2
      have HC : Aside0 (cnt size block = 0) := ⟨by unfold cnt; rw [if_pos (.inr (.inl h2))]⟩
      rw [HC.out]
      go_enter Try.func21, Try.ntmps21
      go_wp2
      go_ret
      exact ⟨rfl, rfl⟩
    · have d2 : decide (1048576 < size) = false := by simpa using h2
      by_cases h3 : block < 1
      · have d3 : decide (block < 1) = true := by simpa using h3
        have HC : Aside0 (cnt size block = 0) := ⟨by unfold cnt; rw [if_pos (.inr (.inr (.inl h3)))]⟩
        rw [HC.out]
        go_enter Try.func21, Try.ntmps21
        go_wp2
        go_ret
        exact ⟨rfl, rfl⟩
      · have d3 : decide (block < 1) = false := by simpa using h3
        by_cases h4 : 4096 < block
        · have d4 : decide (4096 < block) = true := by simpa using h4
          have HC : Aside0 (cnt size block = 0) := ⟨by unfold cnt; rw [if_pos (.inr (.inr (.inr h4)))]⟩
          rw [HC.out]
          go_enter Try.func21, Try.ntmps21
          go_wp2
          go_ret
          exact ⟨rfl, rfl⟩
        · have d4 : decide (4096 < block) = false := by simpa using h4
          have HC : Aside0 (cnt size block = (size + block - 1) / block) := ⟨by unfold cnt; rw [if_neg (by omega)]⟩
          rw [HC.out]
          have e1 : 0 ≤ size := by omega
          have e2 : 1 ≤ block := by omega
          have e3 : size ≤ 1048576 := by omega
          have e4 : block ≤ 4096 := by omega
          go_enter Try.func21, Try.ntmps21
          go_wp2
          go_ret
          exact ⟨rfl, rfl⟩
end Go.Proofs.Ytdikconhdbopdaa
