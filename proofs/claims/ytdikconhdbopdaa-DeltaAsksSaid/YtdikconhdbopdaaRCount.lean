/-
  The reference's Count. No condition but that numbers are numbers.
-/
import Derived.Test.YtdikconhdbopdaaCount
namespace Go.Proofs.Ytdikconhdbopdaa
open Go.RowKit
set_option linter.unusedVariables false
set_option linter.unusedSimpArgs false

set_option maxHeartbeats 400000 in
theorem rcount_calls (size block : Int) (w : World) (hs : -9223372036854775808 ≤ size ∧ size ≤ 9223372036854775807) (hb : -9223372036854775808 ≤ block ∧ block ≤ 9223372036854775807) :
    Calls Try.prog 27 #[.int .i64 size, .int .i64 block] w fun e w' => e = .returned (.int .i64 (cnt size block)) ∧ w = w' := by
  obtain ⟨hs1, hs2⟩ := hs
  obtain ⟨hb1, hb2⟩ := hb
  by_cases h1 : size < 0
  · have d1 : decide (size < 0) = true := by simpa using h1
    have HC : Aside0 (cnt size block = 0) := ⟨by unfold cnt; rw [if_pos (.inl h1)]⟩
    rw [HC.out]
    go_enter Try.func27, Try.ntmps27
    go_wp2
    go_ret
    exact ⟨rfl, rfl⟩
  · have d1 : decide (size < 0) = false := by simpa using h1
    by_cases h2 : 1048576 < size
    · have d2 : decide (1048576 < size) = true := by simpa using h2
      have HC : Aside0 (cnt size block = 0) := ⟨by unfold cnt; rw [if_pos (.inr (.inl h2))]⟩
      rw [HC.out]
      go_enter Try.func27, Try.ntmps27
      go_wp2
      go_ret
      exact ⟨rfl, rfl⟩
    · have d2 : decide (1048576 < size) = false := by simpa using h2
      by_cases h3 : block < 1
      · have d3 : decide (block < 1) = true := by simpa using h3
        have HC : Aside0 (cnt size block = 0) := ⟨by unfold cnt; rw [if_pos (.inr (.inr (.inl h3)))]⟩
        rw [HC.out]
        go_enter Try.func27, Try.ntmps27
        go_wp2
        go_ret
        exact ⟨rfl, rfl⟩
      · have d3 : decide (block < 1) = false := by simpa using h3
        by_cases h4 : 4096 < block
        · have d4 : decide (4096 < block) = true := by simpa using h4
          have HC : Aside0 (cnt size block = 0) := ⟨by unfold cnt; rw [if_pos (.inr (.inr (.inr h4)))]⟩
          rw [HC.out]
          go_enter Try.func27, Try.ntmps27
          go_wp2
          go_ret
          exact ⟨rfl, rfl⟩
        · have d4 : decide (4096 < block) = false := by simpa using h4
          have HC : Aside0 (cnt size block = (size + block - 1) / block) := ⟨by unfold cnt; rw [if_neg (by omega)]⟩
          rw [HC.out]
          have e1 : 0 ≤ size := by omega
          have e2 : 1 ≤ block := by omega
          have e3 : size ≤ 1048576 := by omega
          have e4 : block ≤ 4096 := by omega
          go_enter Try.func27, Try.ntmps27
          go_wp2
          go_ret
          exact ⟨rfl, rfl⟩
end Go.Proofs.Ytdikconhdbopdaa
