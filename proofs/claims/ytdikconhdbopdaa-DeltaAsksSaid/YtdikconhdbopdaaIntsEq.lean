/-
  Two lists of numbers. No condition but that both can be read.
-/
import Derived.Test.YtdikconhdbopdaaAlike
import Derived.RegionTactic
namespace Go.Proofs.Ytdikconhdbopdaa
open Go.RowKit
set_option linter.unusedVariables false
set_option linter.unusedSimpArgs false

set_option maxHeartbeats 1000000 in
set_option maxRecDepth 100000 in
theorem ints_calls {e e' b0 b1 : Nat} {v v' : Value} {L M : List Int} (w : World) (hv : Sl iv e w b0 v L) (hv' : Sl iv e' w b1 v' M) :
    Calls Try.prog 14 #[v, v'] w fun e w' => e = .returned (.bool (L == M)) ∧ Below w.heap.size w w' := by
  obtain ⟨A, c, rfl, hc, hm, hR⟩ := hv
  obtain ⟨A', c', rfl, hc', hm', hR'⟩ := hv'
  have HR : Aside0 (∀ j, j < L.length → ∃ ad, A = some ad ∧ w.cell? (ad.add j) = some (.int .i64 (L.getD j 0))) := ⟨fun j hj => by
    obtain ⟨ad, h1, h2⟩ := hR.cell j (iv L[j]) (by simp [List.getElem?_eq_getElem hj])
    exact ⟨ad, h1, by rw [h2]; simp [iv, List.getElem?_eq_getElem hj]⟩⟩
  have HR' : Aside0 (∀ j, j < M.length → ∃ ad, A' = some ad ∧ w.cell? (ad.add j) = some (.int .i64 (M.getD j 0))) := ⟨fun j hj => by
    obtain ⟨ad, h1, h2⟩ := hR'.cell j (iv M[j]) (by simp [List.getElem?_eq_getElem hj])
    exact ⟨ad, h1, by rw [h2]; simp [iv, List.getElem?_eq_getElem hj]⟩⟩
  clear hR hR'
  by_cases hlen : L.length = M.length
  · have h1 : ((L.length : Int) != (M.length : Int)) = false := by simp [hlen]
    have HLEN := Aside0.mk hlen
    clear hlen
    go_enter Try.func14, Try.ntmps14
    go_wp2
    go_loopw [5] (fun i wr => ∃ k : Nat, k ≤ L.length ∧ i = .int .i64 k ∧ Aside0 (L.take k = M.take k ∧ Below w.heap.size w wr)) (fun i wr => L.length - (intOf i).toNat)
    case atStart => exact ⟨0, Nat.zero_le _, rfl, ⟨by simp, Below.refl _ _⟩⟩
    case round =>
      obtain ⟨k, hk, rfl, hs⟩ := hrel
      by_cases hlt : k < L.length
      · have hlt' : k < M.length := by rw [← HLEN.out]; exact hlt
        obtain ⟨ad, rfl, hc1⟩ := HR.out k hlt
        obtain ⟨ad', rfl, hc2⟩ := HR'.out k hlt'
        have hcell := cell_keep hs.out.2 hc1
        have hcell' := cell_keep hs.out.2 hc2
        have HX : Aside0 (L.take (k + 1) = L.take k ++ [L.getD k 0]) := ⟨by rw [List.take_succ_eq_append_getElem hlt]; simp [List.getElem?_eq_getElem hlt]⟩
        have HY : Aside0 (M.take (k + 1) = M.take k ++ [M.getD k 0]) := ⟨by rw [List.take_succ_eq_append_getElem hlt']; simp [List.getElem?_eq_getElem hlt']⟩
        obtain ⟨x, hxx⟩ : ∃ x, x = L.getD k 0 := ⟨_, rfl⟩
        obtain ⟨y, hyy⟩ : ∃ y, y = M.getD k 0 := ⟨_, rfl⟩
        rw [← hxx] at hcell HX
        rw [← hyy] at hcell' HY
        have z1 : (0 : Int) ≤ (k : Int) := by omega
        have z2 : (k : Int) < L.length := by omega
        have z3 : (k : Int) < M.length := by omega
        clear hxx hyy hc1 hc2
        by_cases hxy : x = y
        · have h3 : (x != y) = false := by rw [hxy]; simp
          have HXY := Aside0.mk hxy
          clear hxy
          go_wp2
          go_quiet (fail)
          go_wp2
          go_roundw
          case rel => exact ⟨k + 1, by omega, by go_num, ⟨by rw [HX.out, HY.out, hs.out.1, HXY.out], by first | exact hs.out.2.drew | exact below_drewN hs.out.2 _⟩⟩
          case measure => simp [intOf]; omega
        · have h3 : (x != y) = true := by simpa using hxy
          have HE : Aside0 ((L == M) = false) := ⟨by
            rw [beq_eq_false_iff_ne]; rintro rfl
            have := HX.out.symm.trans HY.out
            simp at this
            exact hxy this⟩
          clear hxy
          go_wp2
          go_quiet (fail)
          go_wp2
          go_ret
          exact ⟨ret_b HE.out.symm, by first | exact hs.out.2.drew | exact below_drewN hs.out.2 _⟩
      · have HE : Aside0 ((L == M) = true) := ⟨by
          have h := hs.out.1
          rw [List.take_of_length_le (by omega), List.take_of_length_le (by have := HLEN.out; omega)] at h
          rw [h]; simp⟩
        go_wp2
        go_ret
        exact ⟨ret_b HE.out.symm, hs.out.2⟩
  · have h1 : ((L.length : Int) != (M.length : Int)) = true := by simp; omega
    have HE : Aside0 ((L == M) = false) := ⟨by
      rw [beq_eq_false_iff_ne]; rintro rfl; exact hlen rfl⟩
    rw [HE.out]
    clear hlen
    go_enter Try.func14, Try.ntmps14
    go_wp2
    go_ret
    exact ⟨rfl, Below.refl _ _⟩
end Go.Proofs.Ytdikconhdbopdaa
