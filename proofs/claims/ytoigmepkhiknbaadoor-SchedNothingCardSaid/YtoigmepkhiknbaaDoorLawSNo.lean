/-
  SchedNothing: nothing has no visits. No condition but lengths.
-/
import Derived.Test.YtoigmepkhiknbaaDoorSchAwake
import Derived.Test.YtoigmepkhiknbaaDoorRefValid4
namespace Go.Proofs.YtoigmepkhiknbaaDoor
open Go.RowKit Go.Joins
set_option linter.unusedVariables false
set_option linter.unusedSimpArgs false

set_option maxRecDepth 4000 in
set_option maxHeartbeats 8000000 in
theorem law_nothing_calls (p : ByteArray) (n : Int) (w : World) (hp : p.size ≤ 9223372036854775807) : Calls Tryd.prog 5 #[.string p, .int .i64 n] w fun e w' => e = .returned (.bool true) ∧ Below w.heap.size w w' := by
  have hsz := p.size
  by_cases hbig : (200 : Int) < (p.size : Int)
  · have d1 : decide ((200 : Int) < (p.size : Int)) = true := decide_eq_true hbig
    go_enter Tryd.func5, Tryd.ntmps5
    go_wp2_with fail
    refine (awake13_calls _).mono ?_
    rintro e w1 ⟨rfl, hb1⟩
    go_wp2_with fail
    go_ret
    exact ⟨rfl, hb1⟩
  · have d1 : decide ((200 : Int) < (p.size : Int)) = false := decide_eq_false hbig
    have hq : p.size ≤ 1000000000 := by omega
    have HS := Aside0.mk (fun W => nset_calls p n W hq)
    have HR := Aside0.mk (fun W => rvalid_calls p W hq)
    obtain ⟨vb, hvb⟩ : ∃ vb, validB p.data.toList = vb := ⟨_, rfl⟩
    rw [hvb] at HS HR
    clear hvb
    by_cases h0 : n < 0
    · have d2 : decide (n < 0) = true := decide_eq_true h0
      have d3 : decide (0 ≤ n) = false := decide_eq_false (by omega)
      rw [d3] at HS
      simp only [Bool.false_and, Bool.and_false, Bool.false_eq_true, if_false] at HS
      cases vb
      · go_enter Tryd.func5, Tryd.ntmps5
        go_wp2_with fail
        refine (HS.out _).mono ?_
        rintro e w1 ⟨rfl, hb1⟩
        go_wp2_with fail
        refine (HR.out _).mono ?_
        rintro e w2 ⟨rfl, hb2⟩
        have HB2 := Aside0.mk (below_step hb1 hb2)
        clear hb1 hb2
        go_wp2_with fail
        refine (ndrop_calls p _).mono ?_
        rintro e w3 ⟨rfl, rfl⟩
        go_wp2_with fail
        refine (nnext_calls n _).mono ?_
        rintro e w4 ⟨rfl, rfl⟩
        go_wp2_with fail
        refine (ntotal_calls _).mono ?_
        rintro e w5 ⟨rfl, rfl⟩
        go_wp2_with fail
        refine (npaths_calls _).mono ?_
        rintro e w6 ⟨rfl, rfl⟩
        go_wp2_with fail
        refine (awake13_calls _).mono ?_
        rintro e w7 ⟨rfl, hb7⟩
        have HB7 := Aside0.mk (below_step HB2.out hb7)
        clear hb7
        go_wp2_with fail
        go_ret
        exact ⟨rfl, HB7.out⟩
      · go_enter Tryd.func5, Tryd.ntmps5
        go_wp2_with fail
        refine (HS.out _).mono ?_
        rintro e w1 ⟨rfl, hb1⟩
        go_wp2_with fail
        refine (HR.out _).mono ?_
        rintro e w2 ⟨rfl, hb2⟩
        have HB2 := Aside0.mk (below_step hb1 hb2)
        clear hb1 hb2
        go_wp2_with fail
        refine (ndrop_calls p _).mono ?_
        rintro e w3 ⟨rfl, rfl⟩
        go_wp2_with fail
        refine (nnext_calls n _).mono ?_
        rintro e w4 ⟨rfl, rfl⟩
        go_wp2_with fail
        refine (ntotal_calls _).mono ?_
        rintro e w5 ⟨rfl, rfl⟩
        go_wp2_with fail
        refine (npaths_calls _).mono ?_
        rintro e w6 ⟨rfl, rfl⟩
        go_wp2_with fail
        refine (awake13_calls _).mono ?_
        rintro e w7 ⟨rfl, hb7⟩
        have HB7 := Aside0.mk (below_step HB2.out hb7)
        clear hb7
        go_wp2_with fail
        go_ret
        exact ⟨rfl, HB7.out⟩
    · have d2 : decide (n < 0) = false := decide_eq_false h0
      by_cases h1 : n ≤ 4096
      · have d3 : decide (4096 < n) = false := decide_eq_false (by omega)
        rw [decide_eq_true (show 0 ≤ n by omega), decide_eq_true h1] at HS
        simp only [Bool.and_true] at HS
        cases vb
        · go_enter Tryd.func5, Tryd.ntmps5
          go_wp2_with fail
          refine (HS.out _).mono ?_
          rintro e w1 ⟨rfl, hb1⟩
          go_wp2_with fail
          refine (HR.out _).mono ?_
          rintro e w2 ⟨rfl, hb2⟩
          have HB2 := Aside0.mk (below_step hb1 hb2)
          clear hb1 hb2
          go_wp2_with fail
          refine (ndrop_calls p _).mono ?_
          rintro e w3 ⟨rfl, rfl⟩
          go_wp2_with fail
          refine (nnext_calls n _).mono ?_
          rintro e w4 ⟨rfl, rfl⟩
          go_wp2_with fail
          refine (ntotal_calls _).mono ?_
          rintro e w5 ⟨rfl, rfl⟩
          go_wp2_with fail
          refine (npaths_calls _).mono ?_
          rintro e w6 ⟨rfl, rfl⟩
          go_wp2_with fail
          refine (awake13_calls _).mono ?_
          rintro e w7 ⟨rfl, hb7⟩
          have HB7 := Aside0.mk (below_step HB2.out hb7)
          clear hb7
          go_wp2_with fail
          go_ret
          exact ⟨rfl, HB7.out⟩
        · go_enter Tryd.func5, Tryd.ntmps5
          go_wp2_with fail
          refine (HS.out _).mono ?_
          rintro e w1 ⟨rfl, hb1⟩
          go_wp2_with fail
          refine (HR.out _).mono ?_
          rintro e w2 ⟨rfl, hb2⟩
          have HB2 := Aside0.mk (below_step hb1 hb2)
          clear hb1 hb2
          go_wp2_with fail
          refine (ndrop_calls p _).mono ?_
          rintro e w3 ⟨rfl, rfl⟩
          go_wp2_with fail
          refine (nnext_calls n _).mono ?_
          rintro e w4 ⟨rfl, rfl⟩
          go_wp2_with fail
          refine (ntotal_calls _).mono ?_
          rintro e w5 ⟨rfl, rfl⟩
          go_wp2_with fail
          refine (npaths_calls _).mono ?_
          rintro e w6 ⟨rfl, rfl⟩
          go_wp2_with fail
          refine (awake13_calls _).mono ?_
          rintro e w7 ⟨rfl, hb7⟩
          have HB7 := Aside0.mk (below_step HB2.out hb7)
          clear hb7
          go_wp2_with fail
          go_ret
          exact ⟨rfl, HB7.out⟩
      · have d3 : decide (4096 < n) = true := decide_eq_true (by omega)
        rw [decide_eq_false h1] at HS
        simp only [Bool.and_false, Bool.false_eq_true, if_false] at HS
        cases vb
        · go_enter Tryd.func5, Tryd.ntmps5
          go_wp2_with fail
          refine (HS.out _).mono ?_
          rintro e w1 ⟨rfl, hb1⟩
          go_wp2_with fail
          refine (HR.out _).mono ?_
          rintro e w2 ⟨rfl, hb2⟩
          have HB2 := Aside0.mk (below_step hb1 hb2)
          clear hb1 hb2
          go_wp2_with fail
          refine (ndrop_calls p _).mono ?_
          rintro e w3 ⟨rfl, rfl⟩
          go_wp2_with fail
          refine (nnext_calls n _).mono ?_
          rintro e w4 ⟨rfl, rfl⟩
          go_wp2_with fail
          refine (ntotal_calls _).mono ?_
          rintro e w5 ⟨rfl, rfl⟩
          go_wp2_with fail
          refine (npaths_calls _).mono ?_
          rintro e w6 ⟨rfl, rfl⟩
          go_wp2_with fail
          refine (awake13_calls _).mono ?_
          rintro e w7 ⟨rfl, hb7⟩
          have HB7 := Aside0.mk (below_step HB2.out hb7)
          clear hb7
          go_wp2_with fail
          go_ret
          exact ⟨rfl, HB7.out⟩
        · go_enter Tryd.func5, Tryd.ntmps5
          go_wp2_with fail
          refine (HS.out _).mono ?_
          rintro e w1 ⟨rfl, hb1⟩
          go_wp2_with fail
          refine (HR.out _).mono ?_
          rintro e w2 ⟨rfl, hb2⟩
          have HB2 := Aside0.mk (below_step hb1 hb2)
          clear hb1 hb2
          go_wp2_with fail
          refine (ndrop_calls p _).mono ?_
          rintro e w3 ⟨rfl, rfl⟩
          go_wp2_with fail
          refine (nnext_calls n _).mono ?_
          rintro e w4 ⟨rfl, rfl⟩
          go_wp2_with fail
          refine (ntotal_calls _).mono ?_
          rintro e w5 ⟨rfl, rfl⟩
          go_wp2_with fail
          refine (npaths_calls _).mono ?_
          rintro e w6 ⟨rfl, rfl⟩
          go_wp2_with fail
          refine (awake13_calls _).mono ?_
          rintro e w7 ⟨rfl, hb7⟩
          have HB7 := Aside0.mk (below_step HB2.out hb7)
          clear hb7
          go_wp2_with fail
          go_ret
          exact ⟨rfl, HB7.out⟩
end Go.Proofs.YtoigmepkhiknbaaDoor
