/-
  linnetalike's Bytes and Lists: a list's weight, beyond a limit it is not counted on; two lists of bytes. No condition but that the lists can be read.
-/
import Derived.Test.YtdikconhdbopdaaAlike
import Derived.Test.YtdikconhdbopdaaLists
import Derived.RegionTactic
namespace Go.Proofs.Ytdikconhdbopdaa
open Go.RowKit
set_option linter.unusedVariables false
set_option linter.unusedSimpArgs false

/-- A list's weight. -/
def wt : List (List UInt8) → Int
  | [] => 0
  | x :: xs => x.length + 1 + wt xs
theorem wt_nonneg : ∀ L, 0 ≤ wt L
  | [] => by simp [wt]
  | x :: xs => by have := wt_nonneg xs; simp only [wt]; omega
theorem wt_append : ∀ L M, wt (L ++ M) = wt L + wt M
  | [], M => by simp [wt]
  | x :: xs, M => by simp only [List.cons_append, wt, wt_append xs M]; omega
theorem wt_take_le (L : List (List UInt8)) (k : Nat) : wt (L.take k) ≤ wt L := by
  have h := wt_append (L.take k) (L.drop k)
  rw [List.take_append_drop] at h
  have := wt_nonneg (L.drop k)
  omega
theorem wt_length : ∀ L, (L.length : Int) ≤ wt L
  | [] => by simp [wt]
  | x :: xs => by have := wt_length xs; simp only [wt, List.length_cons]; omega
theorem wt_mem : ∀ (L : List (List UInt8)) (x : List UInt8), x ∈ L → (x.length : Int) < wt L
  | y :: ys, x, h => by
    have h0 := wt_nonneg ys
    simp only [wt]
    rcases List.mem_cons.1 h with rfl | h
    · omega
    · have := wt_mem ys x h; omega
theorem wt_take_succ (L : List (List UInt8)) (k : Nat) (h : k < L.length) : wt (L.take (k + 1)) = wt (L.take k) + (L.getD k []).length + 1 := by
  rw [List.take_succ_eq_append_getElem h, wt_append]
  simp [wt, List.getElem?_eq_getElem h]
  omega

set_option maxHeartbeats 1000000 in
theorem bytes_calls {b0 : Nat} {v : Value} {L : List (List UInt8)} (limit : Int) (w : World) (hv : SlL w b0 v L) (hl : 0 ≤ limit ∧ limit < 1099511627776) :
    Calls Try.prog 5 #[v, .int .i64 limit] w fun e w' => ∃ q : Int, e = .returned (.int .i64 q) ∧ (q ≤ limit → q = wt L) ∧ (limit < q → limit < wt L) ∧ 0 ≤ q ∧ Below w.heap.size w w' := by
  have HV := Aside0.mk hv
  obtain ⟨A, c, rfl, hc, hm⟩ := hv.shape
  obtain ⟨hl0, hl1⟩ := hl
  go_enter Try.func5, Try.ntmps5
  go_wp2_with fail
  go_loopw [5, 6] (fun a i wr => ∃ (k : Nat) (q : Int), k ≤ L.length ∧ i = .int .i64 k ∧ a = .int .i64 q ∧ 0 ≤ q ∧ q ≤ 1099511627776 ∧ Aside0 ((q ≤ limit → q = wt (L.take k)) ∧ (limit < q → limit < wt L) ∧ Below w.heap.size w wr)) (fun a i wr => L.length - (intOf i).toNat)
  case atStart => exact ⟨0, 0, Nat.zero_le _, rfl, rfl, Int.le_refl _, by omega, ⟨fun _ => rfl, fun h => by omega, Below.refl _ _⟩⟩
  case round =>
    obtain ⟨k, q, hk, rfl, rfl, hq0, hq1, hs⟩ := hrel
    by_cases hlt : k < L.length
    · by_cases hq : q ≤ limit
      · have dq : decide (q ≤ limit) = true := by simpa using hq
        obtain ⟨ad, c', u, A', cu, he, hu, hcell, hsl⟩ := (HV.out.below hs.out.2.2).at k hlt
        cases he
        subst hu
        obtain ⟨x, hxx⟩ : ∃ x, x = L.getD k [] := ⟨_, rfl⟩
        rw [← hxx] at hcell hsl
        have hxl : x.length ≤ 9223372036854775807 := by obtain ⟨_, _, _, _, h, _⟩ := hsl; exact h
        have HXX := Aside0.mk hxx
        clear hxx hsl
        go_wp2_with fail
        refine (sum_calls (e := 3) (b0 := 0) _ _ [(x.length : Int), 1] _ hq0 (by omega) (by intro z hz; simp at hz; rcases hz with rfl | rfl <;> omega)
          (Sl.at (cur := #[.int .i64 x.length, .int .i64 1]) (fr := (0, 0)) (heap_new rfl) rfl rfl (by simp) (by simp))).mono ?_
        rintro e w1 ⟨rfl, rfl⟩
        have HB := Aside0.mk (hs.out.2.2.alloc hs.out.2.2.size (.cells #[.int .i64 x.length, .int .i64 1] 3 (0, 0)))
        have hsum : Aside0 (∃ p, p = sumI q [(x.length : Int), 1] ∧ 0 ≤ p ∧ p ≤ 1099511627776 ∧ (p ≤ limit → p = q + x.length + 1) ∧ (limit < p → limit < q + x.length + 1)) := ⟨by
          refine ⟨_, rfl, ?_⟩
          unfold sumI sumI sumI
          rw [if_neg (by omega)]
          by_cases h1 : 1099511627776 - q < (x.length : Int)
          · rw [if_pos h1]; omega
          · rw [if_neg h1, if_neg (by omega)]
            by_cases h2 : 1099511627776 - (q + (x.length : Int)) < 1
            · rw [if_pos h2]; omega
            · rw [if_neg h2]; omega⟩
        obtain ⟨p, hp, hp0, hp1, hp2, hp3⟩ := hsum.out
        rw [← hp]
        have H2 : Aside0 ((p ≤ limit → p = wt (L.take (k + 1))) ∧ (limit < p → limit < wt L)) := ⟨by
          have h1 := hs.out.1 hq
          have h2 := wt_take_succ L k hlt
          have h3 := wt_take_le L (k + 1)
          rw [← HXX.out] at h2
          refine ⟨fun h => ?_, fun h => ?_⟩
          · have := hp2 h; omega
          · have := hp3 h; omega⟩
        clear hp hp2 hp3 hsum
        go_wp2_with fail
        go_roundw
        case rel => exact ⟨k + 1, p, by omega, by go_num, rfl, hp0, hp1, ⟨H2.out.1, H2.out.2, HB.out⟩⟩
        case measure => simp [intOf]; omega
      · have dq : decide (q ≤ limit) = false := by simpa using hq
        go_wp2_with fail
        go_ret
        exact ⟨q, rfl, fun h => absurd h (by omega), hs.out.2.1, hq0, hs.out.2.2⟩
    · go_wp2_with fail
      go_ret
      exact ⟨q, rfl, fun h => by rw [hs.out.1 h, List.take_of_length_le (by omega)], hs.out.2.1, hq0, hs.out.2.2⟩
end Go.Proofs.Ytdikconhdbopdaa
