/-
  What linnetalike's functions answer. No condition but that the slices can be read and that lengths are none below nought.
-/
import Derived.Test.YtoigmepkhiknbaaDoorProg
import Derived.Test.YtoigmepkhiknbaaDoorBase
namespace Go.Proofs.YtoigmepkhiknbaaDoor
open Go.RowKit
set_option linter.unusedVariables false
set_option linter.unusedSimpArgs false

/-- Sum, held at a limit. -/
def sumI (n : Int) : List Int → Int
  | [] => n
  | x :: xs => if 1099511627776 < n then 1099511627776 else if 1099511627776 - n < x then 1099511627776 else sumI (n + x) xs

theorem sumI_le (L : Int) (hL : L < 1099511627776) : ∀ (xs : List Int) (n : Int), sumI n xs ≤ L → n + xs.sum ≤ L
  | [], n, h => by simpa [sumI] using h
  | x :: xs, n, h => by
    unfold sumI at h
    by_cases h1 : 1099511627776 < n
    · rw [if_pos h1] at h; omega
    · rw [if_neg h1] at h
      by_cases h2 : 1099511627776 - n < x
      · rw [if_pos h2] at h; omega
      · rw [if_neg h2] at h
        have := sumI_le L hL xs (n + x) h
        simp only [List.sum_cons]; omega
theorem sumI_eq : ∀ (xs : List Int) (n : Int), 0 ≤ n → (∀ x ∈ xs, 0 ≤ x) → n + xs.sum ≤ 1099511627776 → sumI n xs = n + xs.sum
  | [], n, _, _, _ => by simp [sumI]
  | x :: xs, n, h0, hx, h => by
    have hs : ∀ (l : List Int), (∀ y ∈ l, 0 ≤ y) → 0 ≤ l.sum := by
      intro l hl
      induction l with
      | nil => simp
      | cons a l ih => simp only [List.sum_cons]; have := hl a (by simp); have := ih (fun y hy => hl y (by simp [hy])); omega
    have h1 := hx x (by simp)
    have h2 := hs xs (fun y hy => hx y (by simp [hy]))
    simp only [List.sum_cons] at h
    unfold sumI
    rw [if_neg (by omega), if_neg (by omega), sumI_eq xs (n + x) (by omega) (fun y hy => hx y (by simp [hy])) (by omega)]
    simp only [List.sum_cons]; omega

set_option maxHeartbeats 400000 in
theorem sum_calls {e b0 : Nat} (n : Int) (v : Value) (xs : List Int) (w : World) (hn : 0 ≤ n) (hn' : n ≤ 9223372036854775807) (hx : ∀ x ∈ xs, 0 ≤ x ∧ x ≤ 9223372036854775807)
    (hv : Sl iv e w b0 v xs) :
    Calls Tryd.prog 27 #[.int .i64 n, v] w fun e w' => e = .returned (.int .i64 (sumI n xs)) ∧ w = w' := by
  obtain ⟨A, c, rfl, hc, hl, hR⟩ := hv
  have HR : Aside0 (∀ j, j < xs.length → ∃ ad, A = some ad ∧ w.cell? (ad.add j) = some (.int .i64 (xs.getD j 0))) := ⟨fun j hj => by
    obtain ⟨ad, h1, h2⟩ := hR.cell j (iv xs[j]) (by simp [List.getElem?_eq_getElem hj])
    exact ⟨ad, h1, by rw [h2]; simp [iv, List.getElem?_eq_getElem hj]⟩⟩
  have HX := Aside0.mk hx
  clear hR hx
  go_enter Tryd.func27, Tryd.ntmps27
  go_wp2
  go_loop [0, 5] (fun m i => ∃ (k : Nat) (q : Int), k ≤ xs.length ∧ i = .int .i64 k ∧ m = .int .i64 q ∧ 0 ≤ q ∧ q ≤ 9223372036854775807 ∧ Hid (sumI q (xs.drop k) = sumI n xs)) (fun _ i => xs.length - (intOf i).toNat)
  case atStart => exact ⟨0, n, Nat.zero_le _, rfl, rfl, hn, hn', rfl⟩
  case round =>
    obtain ⟨k, q, hk, rfl, rfl, hq0, hq1, hs⟩ := hrel
    by_cases hlt : k < xs.length
    · obtain ⟨ad, rfl, hc⟩ := HR.out k hlt
      have hxk := HX.out (xs.getD k 0) (by rw [List.getD_eq_getElem?_getD, List.getElem?_eq_getElem hlt]; simp)
      have HD : Aside0 (xs.drop k = xs.getD k 0 :: xs.drop (k+1)) := ⟨by
        rw [List.drop_eq_getElem_cons hlt]; simp [List.getD_eq_getElem?_getD, List.getElem?_eq_getElem hlt]⟩
      generalize hxq : xs.getD k 0 = x at *
      have HXQ := Aside0.mk hxq
      clear hxq
      obtain ⟨hx0, hx1⟩ := hxk
      by_cases h1 : 1099511627776 < q
      · have h1' : decide (1099511627776 < q) = true := by simpa using h1
        go_wp2
        go_ret
        exact ⟨by rw [← hs.out, HD.out, sumI, if_pos (by omega)]; rfl, rfl⟩
      · have h1' : decide (1099511627776 < q) = false := by simpa using h1
        by_cases h2 : 1099511627776 - q < x
        · have h2' : decide (1099511627776 - q < x) = true := by simpa using h2
          go_wp2
          go_ret
          exact ⟨by rw [← hs.out, HD.out, sumI, if_neg (by omega), if_pos (by omega)]; rfl, rfl⟩
        · have h2' : decide (1099511627776 - q < x) = false := by simpa using h2
          go_wp2
          go_round
          case rel => exact ⟨k + 1, q + x, by omega, by go_num, by go_num, by omega, by omega, by show sumI _ _ = _; rw [← hs.out, HD.out, sumI, if_neg (by omega), if_neg (by omega)]⟩
          case measure => simp [intOf]; omega
    · go_wp2
      go_ret
      exact ⟨by rw [← hs.out, List.drop_eq_nil_of_le (by omega)]; rfl, rfl⟩
end Go.Proofs.YtoigmepkhiknbaaDoor
