/-
  Small lists made on the spot; a part of a list. No condition.
-/
import Derived.Test.YtdikconhdbopdaaSteps
namespace Go.Proofs.Ytdikconhdbopdaa
open Go.RowKit
set_option linter.unusedVariables false
set_option linter.unusedSimpArgs false

theorem two_list {w : World} {G B : Nat} {u v : Value} {x y : List UInt8} (h : w.heap[G]? = some (.cells #[u, v] 22 (0, 0))) (h1 : Sl bv 5 w B u x) (h2 : Sl bv 5 w B v y) : SlL w B (.slice (some ⟨G, 0, none⟩) 2 2) [x, y] := by
  refine ⟨[u, v], rfl, Sl.at h rfl rfl (by decide) (by decide), fun i u x hu hx => ?_⟩
  match i with
  | 0 => cases hu; cases hx; exact h1
  | 1 => cases hu; cases hx; exact h2
  | i + 2 => simp at hu
theorem three_list {w : World} {G B : Nat} {u v t : Value} {x y z : List UInt8} (h : w.heap[G]? = some (.cells #[u, v, t] 22 (0, 0))) (h1 : Sl bv 5 w B u x) (h2 : Sl bv 5 w B v y) (h3 : Sl bv 5 w B t z) : SlL w B (.slice (some ⟨G, 0, none⟩) 3 3) [x, y, z] := by
  refine ⟨[u, v, t], rfl, Sl.at h rfl rfl (by decide) (by decide), fun i u x hu hx => ?_⟩
  match i with
  | 0 => cases hu; cases hx; exact h1
  | 1 => cases hu; cases hx; exact h2
  | 2 => cases hu; cases hx; exact h3
  | i + 3 => simp at hu

/-- A row of another element type is written. -/
theorem SlL.other {w w1 : World} {base : Nat} {v : Value} {L : List (List UInt8)} (h : SlL w base v L) {row : Option Nat} (hg : w.grownBy w1 row)
    (hr : ∀ k, row = some k → base ≤ k ∧ ∃ cur fr e', w.heap[k]? = some (.cells cur e' fr) ∧ e' ≠ 22 ∧ e' ≠ 5) : SlL w1 base v L := by
  obtain ⟨vs, h1, h2, h3⟩ := h
  refine ⟨vs, h1, h2.other hg fun k hk => ?_, fun i u x hu hx => (h3 i u x hu hx).other hg fun k hk => ?_⟩
  · obtain ⟨a, c, f, e, b, d, _⟩ := hr k hk
    exact ⟨a, c, f, e, b, d⟩
  · obtain ⟨a, c, f, e, b, _, d⟩ := hr k hk
    exact ⟨a, c, f, e, b, d⟩
theorem SlL.nil (w : World) (base : Nat) : SlL w base (.slice none 0 0) [] := ⟨[], rfl, Sl.nil _ _ _ _, by simp⟩
theorem SlL.cast {w : World} {base : Nat} {v : Value} {L M : List (List UInt8)} (h : SlL w base v L) (e : L = M) : SlL w base v M := e ▸ h
/-- The list without its first. -/
theorem SlL.cut {w : World} {base n c : Nat} {ad : Addr} {L : List (List UInt8)} (h : SlL w base (.slice (some ad) n c) L) (lo : Nat) (hlo : lo ≤ L.length) : SlL w base (.slice (some (ad.add lo)) (L.length - lo) (c - lo)) (L.drop lo) := by
  obtain ⟨vs, h1, h2, h3⟩ := h
  have h4 := h2.cut lo vs.length (by omega) (by omega)
  rw [List.take_of_length_le (by rw [List.length_drop]; omega), h1] at h4
  refine ⟨vs.drop lo, by simp [h1], h4, fun i u x hu hx => ?_⟩
  rw [List.getElem?_drop] at hu hx
  exact h3 _ u x hu hx

end Go.Proofs.Ytdikconhdbopdaa
