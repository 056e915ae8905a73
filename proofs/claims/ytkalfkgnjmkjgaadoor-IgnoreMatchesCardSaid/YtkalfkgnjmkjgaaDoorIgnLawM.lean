/-
  Any pattern stands for just the texts that the document says. No condition: for every input.
-/
import Derived.Test.YtkalfkgnjmkjgaaDoorIgnAwake
import Derived.Test.YtkalfkgnjmkjgaaDoorIgnRIgn
namespace Go.Proofs.YtkalfkgnjmkjgaaDoor
open Go.RowKit Go.Joins
set_option linter.unusedVariables false
set_option linter.unusedSimpArgs false

set_option maxRecDepth 4000 in
set_option maxHeartbeats 4000000 in
theorem matches12 (p s : ByteArray) (w : World) (hp : p.size ≤ 9223372036854775807) (hs : s.size ≤ 9223372036854775807) :
    Calls Tryd.prog 3 #[.string p, .string s] w fun e w' => e = .returned (.bool true) ∧ Below w.heap.size w w' := by
  by_cases h1 : 250 < p.size
  · have d1 : decide ((250 : Int) < p.size) = true := decide_eq_true (by omega)
    go_enter Tryd.func3, Tryd.ntmps3
    go_wp2_with (go_at_call 8; refine (awake12_calls _).mono ?_; rintro e w1 ⟨rfl, hb1⟩; have HB1 := Aside0.mk hb1; clear hb1)
    go_ret
    exact ⟨rfl, HB1.out⟩
  · by_cases h2 : 250 < s.size
    · have d1 : decide ((250 : Int) < p.size) = false := decide_eq_false (by omega)
      have d2 : decide ((250 : Int) < s.size) = true := decide_eq_true (by omega)
      go_enter Tryd.func3, Tryd.ntmps3
      go_wp2_with (go_at_call 8; refine (awake12_calls _).mono ?_; rintro e w1 ⟨rfl, hb1⟩; have HB1 := Aside0.mk hb1; clear hb1)
      go_ret
      exact ⟨rfl, HB1.out⟩
    · have hm : p.size * s.size ≤ 250 * 250 := Nat.mul_le_mul (by omega) (by omega)
      have hm0 : (0 : Int) ≤ (p.size : Int) * s.size := by rw [← Int.natCast_mul]; omega
      have hm1 : (p.size : Int) * s.size ≤ 62500 := by rw [← Int.natCast_mul]; omega
      have d1 : decide ((250 : Int) < p.size) = false := decide_eq_false (by omega)
      have d2 : decide ((250 : Int) < s.size) = false := decide_eq_false (by omega)
      clear hm
      by_cases h3 : 20000 < (p.size : Int) * s.size
      · have d3 : decide (20000 < (p.size : Int) * s.size) = true := decide_eq_true h3
        go_enter Tryd.func3, Tryd.ntmps3
        go_wp2_with (go_at_call 8; refine (awake12_calls _).mono ?_; rintro e w1 ⟨rfl, hb1⟩; have HB1 := Aside0.mk hb1; clear hb1)
        go_ret
        exact ⟨rfl, HB1.out⟩
      · have d3 : decide (20000 < (p.size : Int) * s.size) = false := decide_eq_false h3
        obtain ⟨o, ho⟩ : ∃ o, matchL p.data.toList s.data.toList = o := ⟨_, rfl⟩
        have HO := Aside0.mk ho
        have d4 : (o == o) = true := by cases o <;> rfl
        clear ho
        go_enter Tryd.func3, Tryd.ntmps3
        go_wp2_with (first | (go_at_call 9; refine (match_any p s _).mono ?_; rintro e w1 ⟨rfl, hb1⟩; rw [HO.out]; have HB1 := Aside0.mk hb1; clear hb1) | (go_at_call 10; refine (rmatch_any p s _).mono ?_; rintro e w2 ⟨rfl, hb2⟩; rw [HO.out]; have HB2 := Aside0.mk (below_step HB1.out hb2); clear hb2) | (go_at_call 8; refine (awake12_calls _).mono ?_; rintro e w3 ⟨rfl, hb3⟩; have HB3 := Aside0.mk (below_step HB2.out hb3); clear hb3))
        go_ret
        exact ⟨rfl, HB3.out⟩
end Go.Proofs.YtkalfkgnjmkjgaaDoor
