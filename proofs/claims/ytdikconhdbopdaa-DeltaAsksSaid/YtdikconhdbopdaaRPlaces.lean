/-
  The reference's places: do they rise? No condition but that they can be read.
-/
import Derived.Test.YtdikconhdbopdaaDelFns
namespace Go.Proofs.Ytdikconhdbopdaa
open Go.RowKit
set_option linter.unusedVariables false
set_option linter.unusedSimpArgs false

theorem drewN_then {w w1 : World} {m : Nat} (h : w1 = w.drewN m) (n : Nat) : ∃ k, w1.drewN n = w.drewN k := ⟨m + n, by rw [h, World.drewN_drewN]⟩
theorem drew_then {w w1 : World} {m : Nat} (h : w1 = w.drewN m) : ∃ k, w1.drew = w.drewN k := ⟨m + 1, by rw [h]; rfl⟩

set_option maxHeartbeats 2000000 in
theorem rising_ref {e b : Nat} {v : Value} {l : List Int} (count : Int) (w : World) (hv : Sl iv e w b v l) :
    Calls Try.prog 26 #[v, .int .i64 count] w fun e w' => e = .returned (.bool (risL l count)) ∧ ∃ n, w' = w.drewN n := by
  have HV := Aside0.mk hv
  obtain ⟨A, c, rfl, hc, hm, _⟩ := hv
  go_enter Try.func26, Try.ntmps26
  go_wp2_with fail
  go_loopw [5] (fun i wr => ∃ n : Nat, n ≤ l.length ∧ i = .int .i64 n ∧ Aside0 (risN l count n = true ∧ ∃ m, wr = w.drewN m)) (fun i wr => l.length - (intOf i).toNat)
  case atStart => exact ⟨0, Nat.zero_le _, rfl, ⟨rfl, 0, rfl⟩⟩
  case round =>
    obtain ⟨n, hn, rfl, hs⟩ := hrel
    have HSL : Aside0 (Sl iv e wr b (.slice A l.length c) l) := ⟨by
      obtain ⟨m, hm⟩ := hs.out.2
      rw [hm]; exact HV.out.below (below_drewN (Below.refl _ _) _)⟩
    by_cases hlt : n < l.length
    · obtain ⟨ad, rfl, hcell⟩ := HSL.out.nth n hlt
      obtain ⟨x, hx⟩ : ∃ x, x = l.getD n 0 := ⟨_, rfl⟩
      rw [← hx] at hcell
      have HX := Aside0.mk hx
      clear hx
      have z1 : (0 : Int) ≤ (n : Int) := by omega
      have z2 : (n : Int) < l.length := by omega
      by_cases h1 : x < 0
      · have d1 : decide (x < 0) = true := decide_eq_true h1
        have HE : Aside0 (risL l count = false) := ⟨risL_fails hlt (.inl (by rw [← HX.out]; have := risN_low hs.out.1; omega))⟩
        go_wp2_with fail
        go_quiet (fail)
        go_wp2_with fail
        go_ret
        exact ⟨ret_b HE.out.symm, hs.out.2.elim fun m hm => by first | exact drewN_then hm _ | exact drew_then hm⟩
      · have d1 : decide (x < 0) = false := decide_eq_false h1
        by_cases h2 : count ≤ x
        · have d2 : decide (count ≤ x) = true := decide_eq_true h2
          have HE : Aside0 (risL l count = false) := ⟨risL_fails hlt (.inr (by rw [← HX.out]; exact h2))⟩
          go_wp2_with fail
          go_quiet (fail)
          go_wp2_with fail
          go_ret
          exact ⟨ret_b HE.out.symm, hs.out.2.elim fun m hm => by first | exact drewN_then hm _ | exact drew_then hm⟩
        · have d2 : decide (count ≤ x) = false := decide_eq_false h2
          by_cases h3 : 0 < n
          · have d3 : decide (0 < n) = true := decide_eq_true h3
            obtain ⟨ad', he', hcell'⟩ := HSL.out.nth (n - 1) (by omega)
            obtain rfl : ad = ad' := by cases he'; rfl
            obtain ⟨y, hy⟩ : ∃ y, y = l.getD (n - 1) 0 := ⟨_, rfl⟩
            rw [← hy] at hcell'
            have HY : Aside0 (y = lastP l n) := ⟨by rw [hy]; simp only [lastP]; rw [if_neg (by omega)]⟩
            have z4 : IntKind.i64.wrap ((n : Int) - 1) = (n : Int) - 1 := IntWalk.i64_in _ (by omega)
            have z5 : (0 : Int) ≤ (n : Int) - 1 := by omega
            have z5' : (1 : Int) ≤ (n : Int) := by omega
            have z6 : ((n : Int) - 1).toNat = n - 1 := by omega
            have z7 : (n : Int) - 1 < l.length := by omega
            clear hy he'
            by_cases h4 : x ≤ y
            · have d4 : decide (x ≤ y) = true := decide_eq_true h4
              have HE : Aside0 (risL l count = false) := ⟨risL_fails hlt (.inl (by rw [← HX.out, ← HY.out]; exact h4))⟩
              go_wp2_with fail
              go_quiet (fail)
              clear z4 z6
              go_wp2_with fail
              go_ret
              exact ⟨ret_b HE.out.symm, hs.out.2.elim fun m hm => by first | exact drewN_then hm _ | exact drew_then hm⟩
            · have d4 : decide (x ≤ y) = false := decide_eq_false h4
              have HE : Aside0 (risN l count (n + 1) = true) := ⟨risN_step hs.out.1 (by rw [← HX.out, ← HY.out]; omega) (by rw [← HX.out]; omega)⟩
              go_wp2_with fail
              go_quiet (fail)
              clear z4 z6
              go_wp2_with fail
              go_roundw
              case rel => exact ⟨n + 1, by omega, by go_num, ⟨HE.out, hs.out.2.elim fun m hm => by first | exact drewN_then hm _ | exact drew_then hm⟩⟩
              case measure => simp [intOf]; omega
          · have d3 : decide (0 < n) = false := decide_eq_false h3
            have HE : Aside0 (risN l count (n + 1) = true) := ⟨risN_step hs.out.1 (by rw [← HX.out]; simp only [lastP]; rw [if_pos (by omega)]; omega) (by rw [← HX.out]; omega)⟩
            go_wp2_with fail
            go_quiet (fail)
            go_wp2_with fail
            go_roundw
            case rel => exact ⟨n + 1, by omega, by go_num, ⟨HE.out, hs.out.2.elim fun m hm => by first | exact drewN_then hm _ | exact drew_then hm⟩⟩
            case measure => simp [intOf]; omega
    · have HE : Aside0 (risL l count = true) := ⟨by have h := hs.out.1; rwa [show n = l.length by omega] at h⟩
      go_wp2_with fail
      go_ret
      exact ⟨ret_b HE.out.symm, hs.out.2⟩
end Go.Proofs.Ytdikconhdbopdaa
