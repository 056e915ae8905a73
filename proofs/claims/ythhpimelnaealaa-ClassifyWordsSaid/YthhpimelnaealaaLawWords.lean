/-
  Each of the seven classes has a word of its own, no other number has one, and the closed examples of the chapter hold. No condition: for every two numbers.
-/
import Derived.Test.YthhpimelnaealaaLaw8
namespace Go.Proofs.Ythhpimelnaealaa
open Go.RowKit
set_option linter.unusedVariables false
set_option linter.unusedSimpArgs false

theorem word_in {a : Int} (h : 1 ≤ a ∧ a ≤ 7) : a = 1 ∨ a = 2 ∨ a = 3 ∨ a = 4 ∨ a = 5 ∨ a = 6 ∨ a = 7 := by omega
theorem word_some {a : Int} (h : 1 ≤ a ∧ a ≤ 7) : ¬ (word a).toList = [] := by
  rcases word_in h with rfl | rfl | rfl | rfl | rfl | rfl | rfl <;> decide +kernel
theorem word_none {a : Int} (h : ¬ (1 ≤ a ∧ a ≤ 7)) : word a = ⟨#[]⟩ := by
  unfold word
  repeat (rw [if_neg (by omega)])
theorem word_same {a b : Int} (h : 1 ≤ a ∧ a ≤ 7) : ((word a).toList == (word b).toList) = (a == b) := by
  by_cases hb : 1 ≤ b ∧ b ≤ 7
  · rcases word_in h with rfl | rfl | rfl | rfl | rfl | rfl | rfl <;> rcases word_in hb with rfl | rfl | rfl | rfl | rfl | rfl | rfl <;> decide +kernel
  · rw [word_none hb]
    have h1 : (a == b) = false := by simp; omega
    have h2 : ((⟨#[]⟩ : ByteArray).toList) = [] := by decide +kernel
    rw [h1, h2]
    simpa using word_some h

set_option maxHeartbeats 400000 in
theorem words_in (a b : Int) (w : World) (h : 1 ≤ a ∧ a ≤ 7) :
    Calls Try.prog 3 #[.int .i64 a, .int .i64 b] w fun e w' => e = .returned (.bool true) ∧ Below w.heap.size w w' := by
  have e1 := word_some h
  have e2 : (!(word a).toList.isEmpty) = true := by simpa using e1
  have e3 : (((word a).toList == (word b).toList) == (a == b)) = true := by rw [word_same h]; simp
  have a6 : ((a == 6) == (a == 6)) = true := by simp
  obtain ⟨h1, h2⟩ := h
  have la : decide (1 ≤ a) = true := by simp; omega
  have la' : decide (a ≤ 7) = true := by simp; omega
  generalize hx : word a = x at *
  generalize hy : word b = y at *
  have Hx := Aside0.mk hx
  have Hy := Aside0.mk hy
  clear hx hy
  go_enter Try.func3, Try.ntmps3
  go_wp2_with fail
  refine (word_calls _ _).mono ?_
  rintro e w' ⟨rfl, rfl⟩
  rw [Hx.out]
  go_wp2_with fail
  refine (word_calls _ _).mono ?_
  rintro e w' ⟨rfl, rfl⟩
  rw [Hy.out]
  go_wp2_with fail
  refine (rotten_calls _ _).mono ?_
  rintro e w' ⟨rfl, rfl⟩
  go_wp2_with fail
  refine (word_calls _ _).mono ?_
  rintro e w' ⟨rfl, rfl⟩
  rw [show word 1 = ⟨#[115, 97, 109, 101]⟩ from rfl]
  go_wp2_with fail
  refine (word_calls _ _).mono ?_
  rintro e w' ⟨rfl, rfl⟩
  rw [show word 2 = ⟨#[110, 101, 119]⟩ from rfl]
  go_wp2_with fail
  refine (word_calls _ _).mono ?_
  rintro e w' ⟨rfl, rfl⟩
  rw [show word 3 = ⟨#[103, 111, 110, 101]⟩ from rfl]
  go_wp2_with fail
  refine (word_calls _ _).mono ?_
  rintro e w' ⟨rfl, rfl⟩
  rw [show word 4 = ⟨#[101, 100, 105, 116]⟩ from rfl]
  go_wp2_with fail
  refine (word_calls _ _).mono ?_
  rintro e w' ⟨rfl, rfl⟩
  rw [show word 5 = ⟨#[109, 101, 116, 97]⟩ from rfl]
  go_wp2_with fail
  refine (word_calls _ _).mono ?_
  rintro e w' ⟨rfl, rfl⟩
  rw [show word 7 = ⟨#[111, 116, 104, 101, 114]⟩ from rfl]
  go_wp2_with fail
  refine (awake_calls _).mono ?_
  rintro e w' ⟨rfl, hb⟩
  go_wp2_with fail
  go_ret
  exact ⟨by first | rfl | exact ret_b e2, hb⟩

set_option maxHeartbeats 400000 in
theorem words_out (a b : Int) (w : World) (h : ¬ (1 ≤ a ∧ a ≤ 7)) :
    Calls Try.prog 3 #[.int .i64 a, .int .i64 b] w fun e w' => e = .returned (.bool true) ∧ Below w.heap.size w w' := by
  have HX : Aside0 (word a = ⟨#[]⟩) := ⟨word_none h⟩
  have a6 : (a == 6) = false := by simp; omega
  have hn : ((⟨#[]⟩ : ByteArray).toList) = [] := by decide +kernel
  by_cases h1 : 1 ≤ a
  · have la : decide (1 ≤ a) = true := by simp; omega
    have la' : decide (a ≤ 7) = false := by simp; omega
    clear h
    go_enter Try.func3, Try.ntmps3
    go_wp2_with fail
    refine (word_calls _ _).mono ?_
    rintro e w' ⟨rfl, rfl⟩
    rw [HX.out]
    go_wp2_with fail
    refine (word_calls _ _).mono ?_
    rintro e w' ⟨rfl, rfl⟩
    go_wp2_with fail
    refine (rotten_calls _ _).mono ?_
    rintro e w' ⟨rfl, rfl⟩
    go_wp2_with fail
    refine (word_calls _ _).mono ?_
    rintro e w' ⟨rfl, rfl⟩
    rw [show word 1 = ⟨#[115, 97, 109, 101]⟩ from rfl]
    go_wp2_with fail
    refine (word_calls _ _).mono ?_
    rintro e w' ⟨rfl, rfl⟩
    rw [show word 2 = ⟨#[110, 101, 119]⟩ from rfl]
    go_wp2_with fail
    refine (word_calls _ _).mono ?_
    rintro e w' ⟨rfl, rfl⟩
    rw [show word 3 = ⟨#[103, 111, 110, 101]⟩ from rfl]
    go_wp2_with fail
    refine (word_calls _ _).mono ?_
    rintro e w' ⟨rfl, rfl⟩
    rw [show word 4 = ⟨#[101, 100, 105, 116]⟩ from rfl]
    go_wp2_with fail
    refine (word_calls _ _).mono ?_
    rintro e w' ⟨rfl, rfl⟩
    rw [show word 5 = ⟨#[109, 101, 116, 97]⟩ from rfl]
    go_wp2_with fail
    refine (word_calls _ _).mono ?_
    rintro e w' ⟨rfl, rfl⟩
    rw [show word 7 = ⟨#[111, 116, 104, 101, 114]⟩ from rfl]
    go_wp2_with fail
    refine (awake_calls _).mono ?_
    rintro e w' ⟨rfl, hb⟩
    go_wp2_with fail
    go_ret
    exact ⟨rfl, hb⟩
  · have la : decide (1 ≤ a) = false := by simp; omega
    clear h
    go_enter Try.func3, Try.ntmps3
    go_wp2_with fail
    refine (word_calls _ _).mono ?_
    rintro e w' ⟨rfl, rfl⟩
    rw [HX.out]
    go_wp2_with fail
    refine (word_calls _ _).mono ?_
    rintro e w' ⟨rfl, rfl⟩
    go_wp2_with fail
    refine (rotten_calls _ _).mono ?_
    rintro e w' ⟨rfl, rfl⟩
    go_wp2_with fail
    refine (word_calls _ _).mono ?_
    rintro e w' ⟨rfl, rfl⟩
    rw [show word 1 = ⟨#[115, 97, 109, 101]⟩ from rfl]
    go_wp2_with fail
    refine (word_calls _ _).mono ?_
    rintro e w' ⟨rfl, rfl⟩
    rw [show word 2 = ⟨#[110, 101, 119]⟩ from rfl]
    go_wp2_with fail
    refine (word_calls _ _).mono ?_
    rintro e w' ⟨rfl, rfl⟩
    rw [show word 3 = ⟨#[103, 111, 110, 101]⟩ from rfl]
    go_wp2_with fail
    refine (word_calls _ _).mono ?_
    rintro e w' ⟨rfl, rfl⟩
    rw [show word 4 = ⟨#[101, 100, 105, 116]⟩ from rfl]
    go_wp2_with fail
    refine (word_calls _ _).mono ?_
    rintro e w' ⟨rfl, rfl⟩
    rw [show word 5 = ⟨#[109, 101, 116, 97]⟩ from rfl]
    go_wp2_with fail
    refine (word_calls _ _).mono ?_
    rintro e w' ⟨rfl, rfl⟩
    rw [show word 7 = ⟨#[111, 116, 104, 101, 114]⟩ from rfl]
    go_wp2_with fail
    refine (awake_calls _).mono ?_
    rintro e w' ⟨rfl, hb⟩
    go_wp2_with fail
    go_ret
    exact ⟨rfl, hb⟩
end Go.Proofs.Ythhpimelnaealaa
