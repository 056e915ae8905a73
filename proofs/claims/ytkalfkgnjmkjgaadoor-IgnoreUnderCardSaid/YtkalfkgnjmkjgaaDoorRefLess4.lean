/-
  The reference's order of paths; texts alike. No condition but lengths.
-/
import Derived.Test.YtkalfkgnjmkjgaaDoorRefPath4
namespace Go.Proofs.YtkalfkgnjmkjgaaDoor
open Go.RowKit
set_option linter.unusedVariables false
set_option linter.unusedSimpArgs false

theorem cmpS_less (x y : List UInt8) : decide (cmpS x y < 0) = ltS x y := by
  unfold cmpS
  cases h : ltS x y with
  | true => rfl
  | false => cases h2 : ltS y x <;> rfl
theorem cmpS_zero {x y : List UInt8} : cmpS x y = 0 ↔ x = y := by
  unfold cmpS
  constructor
  · intro h
    cases h1 : ltS x y with
    | true => rw [h1] at h; simp at h
    | false =>
      cases h2 : ltS y x with
      | true => rw [h1, h2] at h; simp at h
      | false => exact ltS_strict.tri _ _ h1 h2
  · rintro rfl
    rw [ltS_strict.irr]; rfl

theorem take_step {A B : List (List UInt8)} {k : Nat} (hA : k < A.length) (hB : k < B.length) (h : A.take k = B.take k) (he : A.getD k [] = B.getD k []) : A.take (k + 1) = B.take (k + 1) := by
  rw [List.take_succ_eq_append_getElem hA, List.take_succ_eq_append_getElem hB, h]
  rw [List.getD_eq_getElem?_getD, List.getD_eq_getElem?_getD, List.getElem?_eq_getElem hA, List.getElem?_eq_getElem hB] at he
  simp at he
  rw [he]

set_option maxHeartbeats 2000000 in
theorem texts_calls {b0 b1 : Nat} {v u : Value} {A B : List (List UInt8)} (w : World) (hv : SlS w b0 v A) (hu : SlS w b1 u B) :
    Calls Tryd.prog 19 #[v, u] w fun e w' => e = .returned (.bool (decide (A = B))) ∧ Below w.heap.size w w' := by
  have HS1 := Aside0.mk hv
  have HS2 := Aside0.mk hu
  obtain ⟨A1, c1, rfl, hc1, hm1, _⟩ := hv
  obtain ⟨A2, c2, rfl, hc2, hm2, _⟩ := hu
  by_cases hl : A.length = B.length
  · have e1 : ((A.length : Int) != B.length) = false := by rw [bne_eq_false_iff_eq]; omega
    have e2 : ((A.length : Int) == B.length) = true := by rw [beq_iff_eq]; omega
    go_enter Tryd.func19, Tryd.ntmps19
    go_wp2_with fail
    go_loopw [5] (fun i wr => ∃ k : Nat, k ≤ A.length ∧ i = .int .i64 k ∧ Aside0 (A.take k = B.take k ∧ Below w.heap.size w wr)) (fun i wr => A.length - (intOf i).toNat)
    case atStart => exact ⟨0, Nat.zero_le _, rfl, ⟨rfl, Below.refl _ _⟩⟩
    case round =>
      obtain ⟨k, hk, rfl, hs⟩ := hrel
      by_cases hlA : k < A.length
      · have hlB : k < B.length := by omega
        obtain ⟨ad1, d1', he1, hcell1⟩ := HS1.out.at k hlA
        cases he1
        obtain ⟨ad2, d2', he2, hcell2⟩ := HS2.out.at k hlB
        cases he2
        have hcell1 := cell_keep hs.out.2 hcell1
        have hcell2 := cell_keep hs.out.2 hcell2
        have HX := Aside0.mk (take_step hlA hlB hs.out.1)
        have HY : Aside0 (A.getD k [] ≠ B.getD k [] → A ≠ B) := ⟨fun h e => h (by rw [e])⟩
        obtain ⟨x, hx⟩ : ∃ x, x = A.getD k [] := ⟨_, rfl⟩
        obtain ⟨y, hy⟩ : ∃ y, y = B.getD k [] := ⟨_, rfl⟩
        rw [← hx] at hcell1
        rw [← hy] at hcell2
        rw [← hx, ← hy] at HX HY
        clear hx hy
        obtain ⟨p, hp⟩ : ∃ p, p = str x := ⟨_, rfl⟩
        obtain ⟨q, hq⟩ : ∃ q, q = str y := ⟨_, rfl⟩
        rw [← hp] at hcell1
        rw [← hq] at hcell2
        have hpx : p.toList = x := by rw [hp, toList_eq, str_data]
        have hqy : q.toList = y := by rw [hq, toList_eq, str_data]
        have HXP := Aside0.mk (And.intro hpx hqy)
        clear hp hq hpx hqy
        have z1 : (0 : Int) ≤ (k : Int) := by omega
        have z2 : (k : Int) < A.length := by omega
        have z3 : (k : Int) < B.length := by omega
        rcases hc : (p.toList == q.toList) with _ | _
        · have hne : (p.toList != q.toList) = true := by rw [bne, hc]; rfl
          have H3 : Aside0 (false = decide (A = B)) := ⟨by
            rw [eq_comm, decide_eq_false_iff_not]
            exact HY.out (by rw [← HXP.out.1, ← HXP.out.2]; simpa using hc)⟩
          go_wp2_with fail
          go_quiet (fail)
          go_wp2_with fail
          go_ret
          exact ⟨ret_b H3.out, (by first | exact hs.out.2 | exact hs.out.2.drew | exact below_drewN hs.out.2 _ | exact below_drewN (below_drewN hs.out.2 _) _)⟩
        · have hne : (p.toList != q.toList) = false := by rw [bne, hc]; rfl
          have H3 := Aside0.mk (HX.out (by rw [← HXP.out.1, ← HXP.out.2]; simpa using hc))
          go_wp2_with fail
          go_quiet (fail)
          go_wp2_with fail
          go_roundw
          case rel => exact ⟨k + 1, by omega, by go_num, ⟨H3.out, by first | exact hs.out.2 | exact hs.out.2.drew | exact below_drewN hs.out.2 _⟩⟩
          case measure => simp [intOf]; omega
      · have H3 : Aside0 (true = decide (A = B)) := ⟨by
          have h := hs.out.1
          rw [List.take_of_length_le (by omega), List.take_of_length_le (by omega)] at h
          rw [decide_eq_true h]⟩
        go_wp2_with fail
        go_ret
        exact ⟨ret_b H3.out, hs.out.2⟩
  · have e1 : ((A.length : Int) != B.length) = true := by rw [bne_iff_ne]; omega
    have e2 : ((A.length : Int) == B.length) = false := by rw [beq_eq_false_iff_ne]; omega
    have H3 : Aside0 (false = decide (A = B)) := ⟨by
      rw [eq_comm, decide_eq_false_iff_not]
      intro e; exact hl (by rw [e])⟩
    go_enter Tryd.func19, Tryd.ntmps19
    go_wp2_with fail
    go_ret
    exact ⟨ret_b H3.out, Below.refl _ _⟩
end Go.Proofs.YtkalfkgnjmkjgaaDoor
