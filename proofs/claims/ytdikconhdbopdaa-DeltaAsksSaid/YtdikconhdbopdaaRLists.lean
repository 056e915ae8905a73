/-
  The reference's lists: two lists of bytes. No condition but that both can be read.
-/
import Derived.Test.YtdikconhdbopdaaLists
import Derived.RegionTactic
namespace Go.Proofs.Ytdikconhdbopdaa
open Go.RowKit
set_option linter.unusedVariables false
set_option linter.unusedSimpArgs false

set_option maxHeartbeats 1000000 in
set_option maxRecDepth 100000 in
theorem rlists_calls {b0 b1 : Nat} {v v' : Value} {L M : List (List UInt8)} (w : World) (hv : SlL w b0 v L) (hv' : SlL w b1 v' M) :
    Calls Try.prog 36 #[v, v'] w fun e w' => e = .returned (.bool (L == M)) ∧ Below w.heap.size w w' := by
  have HV := Aside0.mk hv
  have HV' := Aside0.mk hv'
  obtain ⟨A, c, rfl, hc, hm⟩ := hv.shape
  obtain ⟨A', c', rfl, hc', hm'⟩ := hv'.shape
  by_cases hlen : L.length = M.length
  · have h1 : ((L.length : Int) != (M.length : Int)) = false := by simp [hlen]
    have HLEN := Aside0.mk hlen
    clear hlen
    go_enter Try.func36, Try.ntmps36
    go_wp2
    go_loopw [5] (fun i wr => ∃ k : Nat, k ≤ L.length ∧ i = .int .i64 k ∧ Aside0 (L.take k = M.take k ∧ Below w.heap.size w wr)) (fun i wr => L.length - (intOf i).toNat)
    case atStart => exact ⟨0, Nat.zero_le _, rfl, ⟨by simp, Below.refl _ _⟩⟩
    case round =>
      obtain ⟨k, hk, rfl, hs⟩ := hrel
      by_cases hlt : k < L.length
      · have hlt' : k < M.length := by rw [← HLEN.out]; exact hlt
        obtain ⟨ad, ca, u, Au, cu, he, hu, hcell, hsl⟩ := (HV.out.below hs.out.2).at k hlt
        cases he
        obtain ⟨ad', ca', u', Au', cu', he, hu', hcell', hsl'⟩ := (HV'.out.below hs.out.2).at k hlt'
        cases he
        have HX : Aside0 (L.take (k + 1) = L.take k ++ [L.getD k []]) := ⟨by rw [List.take_succ_eq_append_getElem hlt]; simp [List.getElem?_eq_getElem hlt]⟩
        have HY : Aside0 (M.take (k + 1) = M.take k ++ [M.getD k []]) := ⟨by rw [List.take_succ_eq_append_getElem hlt']; simp [List.getElem?_eq_getElem hlt']⟩
        obtain ⟨x, hxx⟩ : ∃ x, x = L.getD k [] := ⟨_, rfl⟩
        obtain ⟨y, hyy⟩ : ∃ y, y = M.getD k [] := ⟨_, rfl⟩
        rw [← hxx] at hu hsl HX
        rw [← hyy] at hu' hsl' HY
        clear hxx hyy
        subst hu hu'
        have k1 := (hsl.below ((Below.refl _ _).drew)).string (P := Try.prog) Try.underlying22 Try.underlying5 Try.underlying9
        have k2 := (hsl'.below ((Below.refl _ _).drew)).string (P := Try.prog) Try.underlying22 Try.underlying5 Try.underlying9
        clear hsl hsl'
        by_cases hxy : x = y
        · have h3 : ((str x).toList != (str y).toList) = false := by rw [hxy]; simp
          have h4 : ((str x).toList == (str y).toList) = true := by rw [hxy]; simp
          have HXY := Aside0.mk hxy
          clear hxy
          go_wp2
          go_region
          go_wp2
          go_roundw
          case rel => exact ⟨k + 1, by omega, by go_num, ⟨by rw [HX.out, HY.out, hs.out.1, HXY.out], hs.out.2.drew⟩⟩
          case measure => simp [intOf]; omega
        · have h3 : ((str x).toList != (str y).toList) = true := by rw [str_toList, str_toList]; simpa using hxy
          have h4 : ((str x).toList == (str y).toList) = false := by rw [str_toList, str_toList]; simpa using hxy
          have HE : Aside0 ((L == M) = false) := ⟨by
            rw [beq_eq_false_iff_ne]; rintro rfl
            have := HX.out.symm.trans HY.out
            simp at this
            exact hxy this⟩
          clear hxy
          go_wp2
          go_region
          go_wp2
          go_ret
          exact ⟨ret_b HE.out.symm, hs.out.2.drew⟩
      · have HE : Aside0 ((L == M) = true) := ⟨by
          have h := hs.out.1
          rw [List.take_of_length_le (by omega), List.take_of_length_le (by have := HLEN.out; omega)] at h
          rw [h]; simp⟩
        go_wp2
        go_ret
        exact ⟨ret_b HE.out.symm, hs.out.2⟩
  · have h1 : ((L.length : Int) != (M.length : Int)) = true := by simp; omega
    have HE : Aside0 ((L == M) = false) := ⟨by
      rw [beq_eq_false_iff_ne]; rintro rfl; exact hlen rfl⟩
    rw [HE.out]
    clear hlen
    go_enter Try.func36, Try.ntmps36
    go_wp2
    go_ret
    exact ⟨rfl, Below.refl _ _⟩
end Go.Proofs.Ytdikconhdbopdaa
