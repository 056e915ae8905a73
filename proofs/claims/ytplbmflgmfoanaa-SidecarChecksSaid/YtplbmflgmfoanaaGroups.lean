/-
  How many groups there are; the reference's counts. No condition but that numbers are numbers.
-/
import Derived.Test.YtplbmflgmfoanaaRCount
namespace Go.Proofs.Ytplbmflgmfoanaa
open Go.RowKit
set_option linter.unusedVariables false
set_option linter.unusedSimpArgs false

/-- May blocks and groups be? -/
def mayB (block k : Int) : Bool := decide (1 ≤ block) && (decide (block ≤ 4096) && (decide (1 ≤ k) && decide (k ≤ 8)))
theorem mayB_true {block k : Int} (h : 1 ≤ block ∧ block ≤ 4096 ∧ 1 ≤ k ∧ k ≤ 8) : mayB block k = true := by simp [mayB]; omega
theorem mayB_false {block k : Int} (h : ¬ (1 ≤ block ∧ block ≤ 4096 ∧ 1 ≤ k ∧ k ≤ 8)) : mayB block k = false := by
  cases h1 : mayB block k with
  | false => rfl
  | true => simp [mayB] at h1; omega
theorem mayB_iff {block k : Int} : mayB block k = true ↔ 1 ≤ block ∧ block ≤ 4096 ∧ 1 ≤ k ∧ k ≤ 8 := by simp [mayB]

set_option maxHeartbeats 400000 in
theorem may_calls (block k : Int) (w : World) : Calls Try.prog 50 #[.int .i64 block, .int .i64 k] w fun e w' => e = .returned (.bool (mayB block k)) ∧ w = w' := by
  by_cases h1 : 1 ≤ block
  · have d1 : decide (1 ≤ block) = true := by simpa using h1
    by_cases h2 : block ≤ 4096
    · have d2 : decide (block ≤ 4096) = true := by simpa using h2
      by_cases h3 : 1 ≤ k
      · have d3 : decide (1 ≤ k) = true := by simpa using h3
        by_cases h4 : k ≤ 8
        · have d4 : decide (k ≤ 8) = true := by simpa using h4
          have HM : Aside0 (mayB block k = true) := ⟨mayB_true ⟨h1, h2, h3, h4⟩⟩
          rw [HM.out]
          go_enter Try.func50, Try.ntmps50
          go_wp2
          go_ret
          exact ⟨rfl, rfl⟩
        · have d4 : decide (k ≤ 8) = false := by simpa using h4
          have HM : Aside0 (mayB block k = false) := ⟨mayB_false (by omega)⟩
          rw [HM.out]
          go_enter Try.func50, Try.ntmps50
          go_wp2
          go_ret
          exact ⟨rfl, rfl⟩
      · have d3 : decide (1 ≤ k) = false := by simpa using h3
        have HM : Aside0 (mayB block k = false) := ⟨mayB_false (by omega)⟩
        rw [HM.out]
        go_enter Try.func50, Try.ntmps50
        go_wp2
        go_ret
        exact ⟨rfl, rfl⟩
    · have d2 : decide (block ≤ 4096) = false := by simpa using h2
      have HM : Aside0 (mayB block k = false) := ⟨mayB_false (by omega)⟩
      rw [HM.out]
      go_enter Try.func50, Try.ntmps50
      go_wp2
      go_ret
      exact ⟨rfl, rfl⟩
  · have d1 : decide (1 ≤ block) = false := by simpa using h1
    have HM : Aside0 (mayB block k = false) := ⟨mayB_false (by omega)⟩
    rw [HM.out]
    go_enter Try.func50, Try.ntmps50
    go_wp2
    go_ret
    exact ⟨rfl, rfl⟩

/-- How many groups there are. -/
def grp (size block k : Int) : Int := if mayB block k = true then (cnt size block + k - 1) / k else 0
theorem grp_bd (size block k : Int) : 0 ≤ grp size block k ∧ grp size block k ≤ 1048576 := by
  unfold grp
  split
  · rename_i h
    have hm := mayB_iff.1 h
    have hc := cnt_bd size block
    constructor
    · exact Int.ediv_nonneg (by omega) (by omega)
    · have : (cnt size block + k - 1) / k < 1048577 := by
        apply Int.ediv_lt_of_lt_mul (by omega)
        have := Int.mul_le_mul_of_nonneg_left hm.2.2.1 (show (0 : Int) ≤ 1048576 by omega)
        omega
      omega
  · omega

set_option maxHeartbeats 400000 in
theorem groups_calls (size block k : Int) (w : World) (hs : -9223372036854775808 ≤ size ∧ size ≤ 9223372036854775807) (hb : -9223372036854775808 ≤ block ∧ block ≤ 9223372036854775807) :
    Calls Try.prog 31 #[.int .i64 size, .int .i64 block, .int .i64 k] w fun e w' => e = .returned (.int .i64 (grp size block k)) ∧ w = w' := by
  rcases hm : mayB block k with _ | _
  · have HM := Aside0.mk hm
    have HG : Aside0 (grp size block k = 0) := ⟨by simp [grp, hm]⟩
    rw [HG.out]
    clear hm hs hb
    go_enter Try.func31, Try.ntmps31
    go_wp2_with fail
    refine (may_calls _ _ _).mono ?_
    rintro e w' ⟨rfl, rfl⟩
    rw [HM.out]
    go_wp2_with fail
    go_ret
    exact ⟨rfl, rfl⟩
  · have HM := Aside0.mk hm
    obtain ⟨h1, h2, h3, h4⟩ := mayB_iff.1 hm
    have HG : Aside0 (grp size block k = (cnt size block + k - 1) / k) := ⟨by simp [grp, hm]⟩
    have HC := Aside0.mk (cnt_bd size block)
    rw [HG.out]
    clear hm
    obtain ⟨hs1, hs2⟩ := hs
    obtain ⟨hb1, hb2⟩ := hb
    go_enter Try.func31, Try.ntmps31
    go_wp2_with fail
    refine (may_calls _ _ _).mono ?_
    rintro e w' ⟨rfl, rfl⟩
    rw [HM.out]
    go_wp2_with fail
    refine (count_calls _ _ _ (by omega) (by omega)).mono ?_
    rintro e w' ⟨rfl, rfl⟩
    obtain ⟨hc0, hc1⟩ := HC.out
    generalize hq : cnt size block = q at *
    have HQ := Aside0.mk hq
    clear hq
    go_wp2_with fail
    go_ret
    exact ⟨by rw [HQ.out]; rfl, rfl⟩

theorem grp_bad {size block k : Int} (h : ¬ (1 ≤ k ∧ k ≤ 8)) : grp size block k = 0 := by
  unfold grp; rw [if_neg]; rw [mayB_iff]; omega
theorem grp_ok {size block k : Int} (h : 1 ≤ k ∧ k ≤ 8) : grp size block k = (cnt size block + k - 1) / k := by
  unfold grp
  split
  · rfl
  · rename_i hm
    have hc : cnt size block = 0 := by
      unfold cnt
      rw [if_pos]
      rw [mayB_iff] at hm
      omega
    rw [hc]
    exact (Int.ediv_eq_zero_of_lt (by omega) (by omega)).symm

set_option maxHeartbeats 400000 in
theorem rgroups_calls (size block k : Int) (w : World) (hs : -9223372036854775808 ≤ size ∧ size ≤ 9223372036854775807) (hb : -9223372036854775808 ≤ block ∧ block ≤ 9223372036854775807) :
    Calls Try.prog 34 #[.int .i64 size, .int .i64 block, .int .i64 k] w fun e w' => e = .returned (.int .i64 (grp size block k)) ∧ w = w' := by
  by_cases h1 : k < 1
  · have d1 : decide (k < 1) = true := by simpa using h1
    have HG : Aside0 (grp size block k = 0) := ⟨grp_bad (by omega)⟩
    rw [HG.out]
    go_enter Try.func34, Try.ntmps34
    go_wp2_with fail
    go_ret
    exact ⟨rfl, rfl⟩
  · have d1 : decide (k < 1) = false := by simpa using h1
    by_cases h2 : 8 < k
    · have d2 : decide (8 < k) = true := by simpa using h2
      have HG : Aside0 (grp size block k = 0) := ⟨grp_bad (by omega)⟩
      rw [HG.out]
      go_enter Try.func34, Try.ntmps34
      go_wp2_with fail
      go_ret
      exact ⟨rfl, rfl⟩
    · have d2 : decide (8 < k) = false := by simpa using h2
      have h3 : 1 ≤ k := by omega
      have h4 : k ≤ 8 := by omega
      have HG : Aside0 (grp size block k = (cnt size block + k - 1) / k) := ⟨grp_ok (by omega)⟩
      have HC := Aside0.mk (cnt_bd size block)
      rw [HG.out]
      obtain ⟨hs1, hs2⟩ := hs
      obtain ⟨hb1, hb2⟩ := hb
      go_enter Try.func34, Try.ntmps34
      go_wp2_with fail
      refine (rcount_calls _ _ _ (by omega) (by omega)).mono ?_
      rintro e w' ⟨rfl, rfl⟩
      obtain ⟨hc0, hc1⟩ := HC.out
      generalize hq : cnt size block = q at *
      have HQ := Aside0.mk hq
      clear hq
      go_wp2_with fail
      go_ret
      exact ⟨by rw [HQ.out]; rfl, rfl⟩
end Go.Proofs.Ytplbmflgmfoanaa
