/-
  Any rules are taken, or refused, and any path is ignored by them, or not, as the document says. No condition: for every input.
-/
import Derived.Test.YtkalfkgnjmkjgaaDoorIgnAwake
import Derived.Test.YtkalfkgnjmkjgaaDoorIgnRIgn
import Derived.Test.YtkalfkgnjmkjgaaDoorWords
import Derived.Test.YtkalfkgnjmkjgaaDoorRefLess4
import Derived.Test.YtkalfkgnjmkjgaaDoorIgnParse
namespace Go.Proofs.YtkalfkgnjmkjgaaDoor
open Go.RowKit Go.Joins
set_option linter.unusedVariables false
set_option linter.unusedSimpArgs false

theorem lines_nil (w : World) : Calls Tryd.prog 20 #[.pointer none] w fun e w' => e = .returned (.slice none 0 0) ∧ w = w' := by
  go_enter Tryd.func20, Tryd.ntmps20
  go_wp2_with fail
  go_ret
  exact ⟨rfl, rfl⟩
theorem ignored_nil (p : ByteArray) (dir : Bool) (w : World) : Calls Tryd.prog 14 #[.pointer none, .string p, .bool dir] w fun e w' => e = .returned (.bool false) ∧ w = w' := by
  go_enter Tryd.func14, Tryd.ntmps14
  go_wp2_with fail
  go_ret
  exact ⟨rfl, rfl⟩
theorem new_big {w : World} {L : List (List UInt8)} {e : Ending} {w' : World} (h : NewA w L e w') (h1 : 50 < L.length) : e = .returned (.tuple #[.pointer none, .int .i64 3]) ∧ Below w.heap.size w w' := by
  obtain ⟨h3, h4⟩ := h
  rw [if_pos h1] at h3
  exact ⟨h3, h4⟩
theorem rnew_ok {w : World} {L : List (List UInt8)} {e : Ending} {w' : World} (h : RNewA w L e w') (h1 : L.length ≤ 50) (h2 : allOk L = true) : ∃ v, e = .returned (.tuple #[v, .int .i64 0]) ∧ SlC rrC 64 w' 0 v (L.map rlOf) ∧ Below w.heap.size w w' := by
  obtain ⟨h3, h4⟩ := h
  rw [if_neg (by omega), if_pos h2] at h3
  obtain ⟨g, h5, h6⟩ := h3
  exact ⟨g, h5, h6, h4⟩
theorem rnew_bad {w : World} {L : List (List UInt8)} {e : Ending} {w' : World} (h : RNewA w L e w') (h1 : L.length ≤ 50) (h2 : allOk L = false) : e = .returned (.tuple #[.slice none 0 0, .int .i64 1]) ∧ Below w.heap.size w w' := by
  obtain ⟨h3, h4⟩ := h
  rw [if_neg (by omega), if_neg (by rw [h2]; decide)] at h3
  exact ⟨h3, h4⟩
theorem rnew_big {w : World} {L : List (List UInt8)} {e : Ending} {w' : World} (h : RNewA w L e w') (h1 : 50 < L.length) : e = .returned (.tuple #[.slice none 0 0, .int .i64 3]) ∧ Below w.heap.size w w' := by
  obtain ⟨h3, h4⟩ := h
  rw [if_pos h1] at h3
  exact ⟨h3, h4⟩

set_option maxRecDepth 4000 in
set_option maxHeartbeats 8000000 in
theorem rules12 {b0 : Nat} {v : Value} {L : List (List UInt8)} (p : ByteArray) (dir : Bool) (w : World) (hv : SlS w b0 v L) (hl2 : ∀ S ∈ L, S.length ≤ 9223372036854775807) (hp : p.size ≤ 9223372036854775807) :
    Calls Tryd.prog 6 #[v, .string p, .bool dir] w fun e w' => e = .returned (.bool true) ∧ Below w.heap.size w w' := by
  have HV := Aside0.mk hv
  have HL2 := Aside0.mk hl2
  obtain ⟨A, c, rfl, hc, hm, _⟩ := hv
  clear hl2
  go_enter Tryd.func6, Tryd.ntmps6
  go_wp2_with fail
  refine (words_calls 2000 w HV.out HL2.out (by decide)).mono ?_
  rintro e w1 ⟨n, rfl, hn, hb1⟩
  have HN := Aside0.mk hn
  have HB1 := Aside0.mk hb1
  clear hn hb1
  by_cases hn2 : 2000 < n
  · have d1 : decide (2000 < n) = true := decide_eq_true hn2
    go_wp2_with (go_at_call 8; refine (awake12_calls _).mono ?_; rintro e w2 ⟨rfl, hb2⟩; have HB2 := Aside0.mk (below_step HB1.out hb2); clear hb2)
    go_ret
    exact ⟨rfl, HB2.out⟩
  · have d1 : decide (2000 < n) = false := decide_eq_false hn2
    by_cases hp2 : 100 < p.size
    · have d2 : decide ((100 : Int) < p.size) = true := decide_eq_true (by omega)
      go_wp2_with (go_at_call 8; refine (awake12_calls _).mono ?_; rintro e w2 ⟨rfl, hb2⟩; have HB2 := Aside0.mk (below_step HB1.out hb2); clear hb2)
      go_ret
      exact ⟨rfl, HB2.out⟩
    · have d2 : decide ((100 : Int) < p.size) = false := decide_eq_false (by omega)
      obtain ⟨hLl, hLs⟩ := HN.out (by omega)
      have HLS : Aside0 (∀ S ∈ L, S.length ≤ 1000000000) := ⟨fun S hS => by have := hLs S hS; omega⟩
      clear hLs
      go_wp2_with fail
      refine (new_calls w1 (HV.out.below HB1.out) (by omega) HLS.out).mono ?_
      intro e w2 hnew
      by_cases h50 : 50 < L.length
      · obtain ⟨rfl, hb2⟩ := new_big hnew h50
        have HB2 := Aside0.mk (below_step HB1.out hb2)
        clear hnew hb2
        go_wp2_with fail
        refine (rrules_calls w2 (HV.out.below HB2.out) (by omega) HLS.out).mono ?_
        intro e w3 hrnew
        obtain ⟨rfl, hb3⟩ := rnew_big hrnew h50
        have HB3 := Aside0.mk (below_step HB2.out hb3)
        clear hrnew hb3
        go_wp2_with (go_at_call 8; refine (awake12_calls _).mono ?_; rintro e w4 ⟨rfl, hb4⟩; have HB4 := Aside0.mk (below_step HB3.out hb4); clear hb4)
        go_ret
        exact ⟨rfl, HB4.out⟩
      · have h51 : L.length ≤ 50 := by omega
        obtain ⟨ok, hok⟩ : ∃ ok, allOk L = ok := ⟨_, rfl⟩
        cases ok with
        | false =>
          obtain ⟨rfl, hb2⟩ := new_bad hnew h51 hok
          have HB2 := Aside0.mk (below_step HB1.out hb2)
          have HOK := Aside0.mk hok
          clear hnew hb2 hok
          go_wp2_with fail
          refine (rrules_calls w2 (HV.out.below HB2.out) (by omega) HLS.out).mono ?_
          intro e w3 hrnew
          obtain ⟨rfl, hb3⟩ := rnew_bad hrnew h51 HOK.out
          have HB3 := Aside0.mk (below_step HB2.out hb3)
          clear hrnew hb3
          go_wp2_with (go_at_call 8; refine (awake12_calls _).mono ?_; rintro e w4 ⟨rfl, hb4⟩; have HB4 := Aside0.mk (below_step HB3.out hb4); clear hb4)
          go_ret
          exact ⟨rfl, HB4.out⟩
        | true =>
          obtain ⟨g, rfl, hI, hb2⟩ := new_ok hnew h51 hok
          have HB2 := Aside0.mk (below_step HB1.out hb2)
          have HOK := Aside0.mk hok
          obtain ⟨R, hR⟩ : ∃ R, L.map rlOf = R := ⟨_, rfl⟩
          rw [hR] at hI
          have HI2 := Aside0.mk hI
          have HRL : Aside0 (R.length ≤ 1000000000) := ⟨by rw [← hR, List.length_map]; omega⟩
          have HRR := Aside0.mk hR
          clear hnew hb2 hok hI hR
          go_wp2_with fail
          refine (rrules_calls w2 (HV.out.below HB2.out) (by omega) HLS.out).mono ?_
          intro e w3 hrnew
          obtain ⟨vm, rfl, hM, hb3⟩ := rnew_ok hrnew h51 HOK.out
          rw [HRR.out] at hM
          have HB3 := Aside0.mk (below_step HB2.out hb3)
          have HI3 := Aside0.mk (HI2.out.below hb3)
          have HM3 := Aside0.mk hM
          obtain ⟨Am, cm, rfl, _⟩ := hM
          clear hrnew hb3
          go_wp2_with fail
          refine (ignored_calls p dir w3 HI3.out (by omega) HRL.out).mono ?_
          rintro e w4 ⟨rfl, hb4⟩
          have HB4 := Aside0.mk (below_step HB3.out hb4)
          have HI4 := Aside0.mk (HI3.out.below hb4)
          have HM4 := Aside0.mk (HM3.out.below hb4)
          clear hb4
          obtain ⟨o, ho⟩ : ∃ o, ignL R p.data.toList dir = o := ⟨_, rfl⟩
          rw [ho]
          have HO := Aside0.mk ho
          clear ho
          have hoo : (o == o) = true := by cases o <;> rfl
          go_wp2_with fail
          refine (rignored_calls HRL.out 100 p dir w4 (by omega) (by decide) HM4.out).mono ?_
          rintro e w5 ⟨rfl, hb5⟩
          rw [HO.out]
          have HB5 := Aside0.mk (below_step HB4.out hb5)
          have HI5 := Aside0.mk (HI4.out.below hb5)
          clear hb5
          go_wp2_with fail
          refine (lines_calls w5 HI5.out (by omega)).mono ?_
          rintro e w6 ⟨vt, rfl, hT, hb6⟩
          have HB6 := Aside0.mk (below_step HB5.out hb6)
          have HT := Aside0.mk hT
          obtain ⟨At, ct, rfl, _⟩ := hT
          clear hb6
          go_wp2_with fail
          refine (texts_calls w6 HT.out (HV.out.below HB6.out)).mono ?_
          rintro e w7 ⟨rfl, hb7⟩
          rw [show decide (L = L) = true from decide_eq_true rfl]
          have HB7 := Aside0.mk (below_step HB6.out hb7)
          clear hb7
          go_wp2_with (go_at_call 8; refine (awake12_calls _).mono ?_; rintro e w8 ⟨rfl, hb8⟩; have HB8 := Aside0.mk (below_step HB7.out hb8); clear hb8)
          go_ret
          exact ⟨rfl, HB8.out⟩
end Go.Proofs.YtkalfkgnjmkjgaaDoor
