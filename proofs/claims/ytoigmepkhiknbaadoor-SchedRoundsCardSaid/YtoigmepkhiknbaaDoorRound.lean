/-
  linnetalike's Round. No condition but that its bound is above zero.
-/
import Derived.Test.YtoigmepkhiknbaaDoorProg
import Derived.Test.YtoigmepkhiknbaaDoorBase
namespace Go.Proofs.YtoigmepkhiknbaaDoor
open Go.RowKit
set_option linter.unusedVariables false
set_option linter.unusedSimpArgs false

/-- A number brought into a range. -/
def rndI (x y : Int) : Int := if x.tmod y < 0 then x.tmod y + y else x.tmod y
theorem tmodI_bd (x : Int) {y : Int} (hy : 0 < y) : -y < x.tmod y ∧ x.tmod y < y := by
  refine ⟨?_, Int.tmod_lt_of_pos x hy⟩
  have h := Int.tmod_lt_of_pos (-x) hy
  rw [Int.neg_tmod] at h
  omega
theorem rndI_bd (x : Int) {y : Int} (hy : 0 < y) : 0 ≤ rndI x y ∧ rndI x y < y := by
  have h := tmodI_bd x hy
  unfold rndI
  split <;> omega

theorem tdivI_bd (x : Int) {y : Int} (hy : 0 < y) (hx : -9223372036854775808 ≤ x ∧ x ≤ 9223372036854775807) : -9223372036854775808 ≤ x.tdiv y ∧ x.tdiv y ≤ 9223372036854775807 := by
  by_cases h : 0 ≤ x
  · rw [Int.tdiv_eq_ediv_of_nonneg h]
    have h1 := Int.ediv_nonneg h (Int.le_of_lt hy)
    have h2 := Int.ediv_le_self y h
    omega
  · have h0 : 0 ≤ -x := by omega
    have h1 := Int.ediv_nonneg h0 (Int.le_of_lt hy)
    have h2 := Int.ediv_le_self y h0
    have h3 : x.tdiv y = -((-x) / y) := by
      rw [← Int.tdiv_eq_ediv_of_nonneg h0, Int.neg_tdiv]; omega
    omega
theorem roundI_calls (x y : Int) (w : World) (hy : 0 < y) (hy' : y ≤ 9223372036854775807) (hx : -9223372036854775808 ≤ x ∧ x ≤ 9223372036854775807) :
    Calls Tryd.prog 9 #[.int .i64 x, .int .i64 y] w fun e w' => e = .returned (.int .i64 (rndI x y)) ∧ w = w' := by
  have h := tmodI_bd x hy
  have h0 : ¬ y = 0 := by omega
  have h1 : ¬ y = -1 := by omega
  obtain ⟨r, hr⟩ : ∃ r, r = x.tmod y := ⟨_, rfl⟩
  rw [← hr] at h
  have HR := Aside0.mk hr
  unfold rndI
  rw [← hr]
  by_cases hn : r < 0
  · rw [if_pos hn]
    go_enter Tryd.func9, Tryd.ntmps9
    go_wp2_with fail
    rw [← HR.out]
    go_wp2_with fail
    go_ret
    exact ⟨rfl, rfl⟩
  · rw [if_neg hn]
    go_enter Tryd.func9, Tryd.ntmps9
    go_wp2_with fail
    rw [← HR.out]
    go_wp2_with fail
    go_ret
    exact ⟨rfl, rfl⟩

end Go.Proofs.YtoigmepkhiknbaaDoor
