/-
  linnetalike's Bytes and Lists: a list's weight, beyond a limit it is not counted on; two lists of bytes. No condition but that the lists can be read.
-/
import Derived.Test.YtdfhelefhhodhaaAlike
import Derived.Test.YtdfhelefhhodhaaLists
import Derived.RegionTactic
namespace Go.Proofs.Ytdfhelefhhodhaa
open Go.RowKit
set_option linter.unusedVariables false
set_option linter.unusedSimpArgs false

/-- A list's weight. -/
def wt : List (List UInt8) → Int
  | [] => 0
  | x :: xs => x.length + 1 + wt xs
theorem wt_nonneg : ∀ L, 0 ≤ wt L
  | [] => by simp [wt]
  | x :: xs => by have := wt_nonneg xs; simp only [wt]; omega
theorem wt_append : ∀ L M, wt (L ++ M) = wt L + wt M
  | [], M => by simp [wt]
  | x :: xs, M => by simp only [List.cons_append, wt, wt_append xs M]; omega
theorem wt_take_le (L : List (List UInt8)) (k : Nat) : wt (L.take k) ≤ wt L := by
  have h := wt_append (L.take k) (L.drop k)
  rw [List.take_append_drop] at h
  have := wt_nonneg (L.drop k)
  omega
theorem wt_length : ∀ L, (L.length : Int) ≤ wt L
  | [] => by simp [wt]
  | x :: xs => by have := wt_length xs; simp only [wt, List.length_cons]; omega
theorem wt_mem : ∀ (L : List (List UInt8)) (x : List UInt8), x ∈ L → (x.length : Int) < wt L
  | y :: ys, x, h => by
    have h0 := wt_nonneg ys
    simp only [wt]
    rcases List.mem_cons.1 h with rfl | h
    · omega
    · have := wt_mem ys x h; omega
theorem wt_take_succ (L : List (List UInt8)) (k : Nat) (h : k < L.length) : wt (L.take (k + 1)) = wt (L.take k) + (L.getD k []).length + 1 := by
  rw [List.take_succ_eq_append_getElem h, wt_append]
  simp [wt, List.getElem?_eq_getElem h]
  omega

set_option maxHeartbeats 1000000 in
theorem bytes_calls {b0 : Nat} {v : Value} {L : List (List UInt8)} (limit : Int) (w : World) (hv : SlL w b0 v L) (hl : 0 ≤ limit ∧ limit < 1099511627776) :
    Calls Try.prog 6 #[v, .int .i64 limit] w fun e w' => ∃ q : Int, e = .returned (.int .i64 q) ∧ (q ≤ limit → q = wt L) ∧ (limit < q → limit < wt L) ∧ 0 ≤ q ∧ Below w.heap.size w w' := by
  have HV := Aside0.mk hv
  obtain ⟨A, c, rfl, hc, hm⟩ := hv.shape
  obtain ⟨hl0, hl1⟩ := hl
  go_enter Try.func6, Try.ntmps6
  go_wp2_with fail
  go_loopw [5, 6] (fun a i wr => ∃ (k : Nat) (q : Int), k ≤ L.length ∧ i = .int .i64 k ∧ a = .int .i64 q ∧ 0 ≤ q ∧ q ≤ 1099511627776 ∧ Aside0 ((q ≤ limit → q = wt (L.take k)) ∧ (limit < q → limit < wt L) ∧ Below w.heap.size w wr)) (fun a i wr => L.length - (intOf i).toNat)
  case atStart => exact ⟨0, 0, Nat.zero_le _, rfl, rfl, Int.le_refl _, by omega, ⟨fun _ => rfl, fun h => by omega, Below.refl _ _⟩⟩
  case round =>
    obtain ⟨k, q, hk, rfl, rfl, hq0, hq1, hs⟩ := hrel
    by_cases hlt : k < L.length
    · by_cases hq : q ≤ limit
      · have dq : decide (q ≤ limit) = true := by simpa using hq
        obtain ⟨ad, c', u, A', cu, he, hu, hcell, hsl⟩ := (HV.out.below hs.out.2.2).at k hlt
        cases he
        subst hu
        obtain ⟨x, hxx⟩ : ∃ x, x = L.getD k [] := ⟨_, rfl⟩
        rw [← hxx] at hcell hsl
        have hxl : x.length ≤ 9223372036854775807 := by obtain ⟨_, _, _, _, h, _⟩ := hsl; exact h
        have HXX := Aside0.mk hxx
        clear hxx hsl
        go_wp2_with fail
        refine (sum_calls (e := 3) (b0 := 0) _ _ [(x.length : Int), 1] _ hq0 (by omega) (by intro z hz; simp at hz; rcases hz with rfl | rfl <;> omega)
          (Sl.at (cur := #[.int .i64 x.length, .int .i64 1]) (fr := (0, 0)) (heap_new rfl) rfl rfl (by simp) (by simp))).mono ?_
        rintro e w1 ⟨rfl, rfl⟩
        have HB := Aside0.mk (hs.out.2.2.alloc hs.out.2.2.size (.cells #[.int .i64 x.length, .int .i64 1] 3 (0, 0)))
        have hsum : Aside0 (∃ p, p = sumI q [(x.length : Int), 1] ∧ 0 ≤ p ∧ p ≤ 1099511627776 ∧ (p ≤ limit → p = q + x.length + 1) ∧ (limit < p → limit < q + x.length + 1)) := ⟨by
          refine ⟨_, rfl, ?_⟩
          unfold sumI sumI sumI
          rw [if_neg (by omega)]
          by_cases h1 : 1099511627776 - q < (x.length : Int)
          · rw [if_pos h1]; omega
          · rw [if_neg h1, if_neg (by omega)]
            by_cases h2 : 1099511627776 - (q + (x.length : Int)) < 1
            · rw [if_pos h2]; omega
            · rw [if_neg h2]; omega⟩
        obtain ⟨p, hp, hp0, hp1, hp2, hp3⟩ := hsum.out
        rw [← hp]
        have H2 : Aside0 ((p ≤ limit → p = wt (L.take (k + 1))) ∧ (limit < p → limit < wt L)) := ⟨by
          have h1 := hs.out.1 hq
          have h2 := wt_take_succ L k hlt
          have h3 := wt_take_le L (k + 1)
          rw [← HXX.out] at h2
          refine ⟨fun h => ?_, fun h => ?_⟩
          · have := hp2 h; omega
          · have := hp3 h; omega⟩
        clear hp hp2 hp3 hsum
        go_wp2_with fail
        go_roundw
        case rel => exact ⟨k + 1, p, by omega, by go_num, rfl, hp0, hp1, ⟨H2.out.1, H2.out.2, HB.out⟩⟩
        case measure => simp [intOf]; omega
      · have dq : decide (q ≤ limit) = false := by simpa using hq
        go_wp2_with fail
        go_ret
        exact ⟨q, rfl, fun h => absurd h (by omega), hs.out.2.1, hq0, hs.out.2.2⟩
    · go_wp2_with fail
      go_ret
      exact ⟨q, rfl, fun h => by rw [hs.out.1 h, List.take_of_length_le (by omega)], hs.out.2.1, hq0, hs.out.2.2⟩

set_option maxHeartbeats 1000000 in
set_option maxRecDepth 100000 in
theorem lists_calls {b0 b1 : Nat} {v v' : Value} {L M : List (List UInt8)} (w : World) (hv : SlL w b0 v L) (hv' : SlL w b1 v' M) :
    Calls Try.prog 10 #[v, v'] w fun e w' => e = .returned (.bool (L == M)) ∧ Below w.heap.size w w' := by
  have HV := Aside0.mk hv
  have HV' := Aside0.mk hv'
  obtain ⟨A, c, rfl, hc, hm⟩ := hv.shape
  obtain ⟨A', c', rfl, hc', hm'⟩ := hv'.shape
  by_cases hlen : L.length = M.length
  · have h1 : ((L.length : Int) != (M.length : Int)) = false := by simp [hlen]
    have HLEN := Aside0.mk hlen
    clear hlen
    go_enter Try.func10, Try.ntmps10
    go_wp2
    go_loopw [5] (fun i wr => ∃ k : Nat, k ≤ L.length ∧ i = .int .i64 k ∧ Aside0 (L.take k = M.take k ∧ Below w.heap.size w wr)) (fun i wr => L.length - (intOf i).toNat)
    case atStart => exact ⟨0, Nat.zero_le _, rfl, ⟨by simp, Below.refl _ _⟩⟩
    case round =>
      obtain ⟨k, hk, rfl, hs⟩ := hrel
      by_cases hlt : k < L.length
      · have hlt' : k < M.length := by rw [← HLEN.out]; exact hlt
        obtain ⟨ad, ca, u, Au, cu, he, hu, hcell, hsl⟩ := (HV.out.below hs.out.2).at k hlt
        cases he
        obtain ⟨ad', ca', u', Au', cu', he, hu', hcell', hsl'⟩ := (HV'.out.below hs.out.2).at k hlt'
        cases he
        have HX : Aside0 (L.take (k + 1) = L.take k ++ [L.getD k []]) := ⟨by rw [List.take_succ_eq_append_getElem hlt]; simp [List.getElem?_eq_getElem hlt]⟩
        have HY : Aside0 (M.take (k + 1) = M.take k ++ [M.getD k []]) := ⟨by rw [List.take_succ_eq_append_getElem hlt']; simp [List.getElem?_eq_getElem hlt']⟩
        obtain ⟨x, hxx⟩ : ∃ x, x = L.getD k [] := ⟨_, rfl⟩
        obtain ⟨y, hyy⟩ : ∃ y, y = M.getD k [] := ⟨_, rfl⟩
        rw [← hxx] at hu hsl HX
        rw [← hyy] at hu' hsl' HY
        clear hxx hyy
        subst hu hu'
        have k1 := (hsl.below ((Below.refl _ _).drew)).string (P := Try.prog) Try.underlying25 Try.underlying5 Try.underlying9
        have k2 := (hsl'.below ((Below.refl _ _).drew)).string (P := Try.prog) Try.underlying25 Try.underlying5 Try.underlying9
        clear hsl hsl'
        by_cases hxy : x = y
        · have h3 : ((str x).toList != (str y).toList) = false := by rw [hxy]; simp
          have h4 : ((str x).toList == (str y).toList) = true := by rw [hxy]; simp
          have HXY := Aside0.mk hxy
          clear hxy
          go_wp2
          go_region
          go_wp2
          go_roundw
          case rel => exact ⟨k + 1, by omega, by go_num, ⟨by rw [HX.out, HY.out, hs.out.1, HXY.out], hs.out.2.drew⟩⟩
          case measure => simp [intOf]; omega
        · have h3 : ((str x).toList != (str y).toList) = true := by rw [str_toList, str_toList]; simpa using hxy
          have h4 : ((str x).toList == (str y).toList) = false := by rw [str_toList, str_toList]; simpa using hxy
          have HE : Aside0 ((L == M) = false) := ⟨by
            rw [beq_eq_false_iff_ne]; rintro rfl
            have := HX.out.symm.trans HY.out
            simp at this
            exact hxy this⟩
          clear hxy
          go_wp2
          go_region
          go_wp2
          go_ret
          exact ⟨ret_b HE.out.symm, hs.out.2.drew⟩
      · have HE : Aside0 ((L == M) = true) := ⟨by
          have h := hs.out.1
          rw [List.take_of_length_le (by omega), List.take_of_length_le (by have := HLEN.out; omega)] at h
          rw [h]; simp⟩
        go_wp2
        go_ret
        exact ⟨ret_b HE.out.symm, hs.out.2⟩
  · have h1 : ((L.length : Int) != (M.length : Int)) = true := by simp; omega
    have HE : Aside0 ((L == M) = false) := ⟨by
      rw [beq_eq_false_iff_ne]; rintro rfl; exact hlen rfl⟩
    rw [HE.out]
    clear hlen
    go_enter Try.func10, Try.ntmps10
    go_wp2
    go_ret
    exact ⟨rfl, Below.refl _ _⟩
end Go.Proofs.Ytdfhelefhhodhaa
