/-
  slices.Grow of nothing, slices.Concat of byte slices: a row of the call's own. No condition but that what comes together is no longer than memory.
-/
import Derived.Test.YtjoljmkedghcbaaLists
import Derived.Lib.AppendZerosOnto
import Derived.Lib.AppendZeros
namespace Go.Proofs.Ytjoljmkedghcbaa
open Go.RowKit
set_option linter.unusedVariables false
set_option linter.unusedSimpArgs false

set_option maxHeartbeats 1000000 in
theorem grow_nil (n : Nat) (w : World) (hn : n ≤ 70368744177664) :
    Calls Try.prog 46 #[.slice none 0 0, .int .i64 (n : Int)] w fun e w' => ∃ v', e = .returned v' ∧ w'.ownsRow w.heap.size 5 1 v' 0 [] ∧ Below w.heap.size w w' := by
  rcases Nat.eq_zero_or_pos n with rfl | h0
  · have d1 : ¬ ((0 : Nat) : Int) > 0 := by omega
    go_enter Try.func46, Try.ntmps46
    go_wp2_with fail
    go_ret
    exact ⟨_, rfl, World.ownsRow_nil _ _ _ _, Below.refl _ _⟩
  · obtain ⟨i0, hi, hz0, hz1, hz2⟩ := info_parts info_u8
    have hold : (Builtin.firstCells i0.size 0 (.slice none 0 0)).run Try.prog w.drew = .ok (#[] : Array Value) w.drew := by
      simp [Builtin.firstCells]
    have hr : ∀ ty, (Builtin.append_ #[22, 3] ty #[.slice none 0 0, .int .i64 (n : Int)]).run Try.prog w = _ := fun ty =>
      Lib.run_append_grow_zeros w 22 3 ty 5 i0 _ .i64 .i64 Try.underlying22 Try.underlying3 hi hz0 none 0 0 [] hold n h0 (by omega) (by omega) (by omega) (by rw [hz2]; omega)
        (by rw [hz2]; exact growslice_fits (by omega) (by omega))
    have hG := grownCap_ge w (0 + n) 0 5
    have hM := grownCap_le_maxLen w (0 + n) 0 5 (by unfold maxLen; omega)
    obtain ⟨G, hGe⟩ : ∃ G, G = grownCap w (0 + n) 0 5 := ⟨_, rfl⟩
    rw [← hGe] at hr hG hM
    have HM := Aside0.mk hM
    have hM2 : G ≤ 9223372036854775807 := by unfold maxLen at hM; omega
    clear hGe hold hM
    have d1 : (n : Int) > 0 := by omega
    go_enter Try.func46, Try.ntmps46
    go_wp2_with (at_builtin; refine Lib.wpList_append_run _ rfl _ _ _ _ rfl _ _ rfl rfl _ _ (hr _) ?_)
    go_ret
    refine ⟨_, rfl, World.ownsRow_made (w := w.drew) _ _ (Nat.le_refl _) HM.out ?_, (Below.refl _ _).drew.alloc (Nat.le_refl _) _⟩
    simp only [Array.size_append, size_zeroCells, Array.size_empty]
    show n * 1 + (G - n) * 1 = G * 1
    omega

theorem flat_succ (L : List (List UInt8)) (k : Nat) (h : k < L.length) : (L.take (k + 1)).flatten = (L.take k).flatten ++ L.getD k [] := by
  rw [List.take_succ_eq_append_getElem h, List.flatten_append]
  simp [List.getElem?_eq_getElem h]
theorem flat_le (L : List (List UInt8)) (k : Nat) : (L.take k).flatten.length ≤ L.flatten.length := by
  have h : L.flatten = (L.take k).flatten ++ (L.drop k).flatten := by rw [← List.flatten_append, List.take_append_drop]
  rw [h, List.length_append]; omega

set_option maxHeartbeats 2000000 in
theorem concat_calls {b0 : Nat} {v : Value} {L : List (List UInt8)} (w : World) (hv : SlL w b0 v L) (hl : L.flatten.length ≤ 70368744177664) :
    Calls Try.prog 42 #[v] w fun e w' => ∃ v', e = .returned v' ∧ w'.ownsRow w.heap.size 5 1 v' L.flatten.length (L.flatten.map bv) ∧ Below w.heap.size w w' := by
  have HV := Aside0.mk hv
  obtain ⟨A, c, rfl, hc, hm⟩ := hv.shape
  have HL := Aside0.mk hl
  clear hv
  go_enter Try.func42, Try.ntmps42
  go_wp2_with fail
  go_loop [3, 11] (fun a i => ∃ (k : Nat) (q : Nat), k ≤ L.length ∧ i = .int .i64 k ∧ a = .int .i64 (q : Int) ∧ q ≤ 70368744177664 ∧ Aside0 (q = (L.take k).flatten.length)) (fun a i => L.length - (intOf i).toNat)
  case atStart => exact ⟨0, 0, Nat.zero_le _, rfl, rfl, by omega, ⟨by simp⟩⟩
  case round =>
    obtain ⟨k, q, hk, rfl, rfl, hq, hs⟩ := hrel
    by_cases hlt : k < L.length
    · obtain ⟨ad, c', u, A', cu, he, hu, hcell, hsl⟩ := HV.out.at k hlt
      cases he
      subst hu
      have HS := Aside0.mk hsl
      clear hsl
      have hx1 : q + (L.getD k []).length ≤ 70368744177664 := by
        have h1 := flat_le L (k + 1)
        rw [flat_succ L k hlt, List.length_append, ← hs.out] at h1
        omega
      obtain ⟨x, hxx⟩ : ∃ x, x = L.getD k [] := ⟨_, rfl⟩
      rw [← hxx] at hcell HS hx1
      have HX := Aside0.mk hxx
      clear hxx
      go_wp2_with fail
      go_round
      case rel => exact ⟨k + 1, q + x.length, by omega, by go_num, by go_num, by omega, ⟨by rw [flat_succ L k hlt, List.length_append, ← hs.out, HX.out]⟩⟩
      case measure => simp [intOf]; omega
    · obtain rfl : k = L.length := by omega
      go_wp2_with fail
      refine (grow_nil q w hq).mono ?_
      rintro e w1 ⟨v1, rfl, hown, hb⟩
      have H0 := Aside0.mk (show w1.ownsRow w.heap.size 5 1 v1 ((L.take 0).flatten).length (((L.take 0).flatten).map bv) ∧ Below w.heap.size w w1 from ⟨by simpa using hown, hb⟩)
      clear hown hb
      go_wp2_with fail
      go_loopw [6, 27] (fun a i wr => ∃ (k : Nat), k ≤ L.length ∧ i = .int .i64 k ∧ Aside0 (wr.ownsRow w.heap.size 5 1 a ((L.take k).flatten).length (((L.take k).flatten).map bv) ∧ Below w.heap.size w wr)) (fun a i wr => L.length - (intOf i).toNat)
      case atStart => exact ⟨0, Nat.zero_le _, rfl, H0⟩
      case round =>
        obtain ⟨k, hk, rfl, hs2⟩ := hrel
        clear H0
        by_cases hlt : k < L.length
        · obtain ⟨ad, c', u, A', cu, he, hu, hcell, hsl⟩ := (HV.out.below hs2.out.2).at k hlt
          cases he
          subst hu
          have HS := Aside0.mk hsl
          clear hsl
          have hx1 : ((L.take k).flatten).length + (L.getD k []).length ≤ 70368744177664 := by
            have h1 := flat_le L (k + 1)
            have h2 := HL.out
            rw [flat_succ L k hlt, List.length_append] at h1
            omega
          have HF := Aside0.mk (flat_succ L k hlt)
          obtain ⟨x, hxx⟩ : ∃ x, x = L.getD k [] := ⟨_, rfl⟩
          rw [← hxx] at hcell HS hx1 HF
          have HX1 := Aside0.mk hx1
          clear hxx hx1
          go_wp2_with (at_builtin; refine append_row bv (fun _ => rfl) rfl (.tmp 31) (.tmp 32) 22 rfl w.heap.size 5 _ _ _ _ Try.underlying22 info_u8 rfl (by decide) _ _ x _ rfl rfl hs2.out.1 HS.out (by have := HX1.out; omega) hs2.out.2.size ?_; intro v' w' hown hg _)
          have H3 := Aside0.mk (show w'.ownsRow w.heap.size 5 1 v' ((L.take (k + 1)).flatten).length (((L.take (k + 1)).flatten).map bv) ∧ Below w.heap.size w w' from ⟨by rw [HF.out]; exact hown, hs2.out.2.grown hg hs2.out.2.size (own_base hs2.out.1)⟩)
          clear hown hg
          go_roundw
          case rel => exact ⟨k + 1, by omega, by go_num, H3⟩
          case measure => simp [intOf]; omega
        · obtain rfl : k = L.length := by omega
          go_wp2_with fail
          go_ret
          exact ⟨_, rfl, by simpa using hs2.out.1, hs2.out.2⟩
end Go.Proofs.Ytjoljmkedghcbaa
