/-
  A box that holds no bytes is written: bytes, and lists of bytes, stay. No condition.
-/
import Derived.Test.YtdikconhdbopdaaLists
import Derived.Test.YtdikconhdbopdaaSteps
namespace Go.Proofs.Ytdikconhdbopdaa
open Go.RowKit
set_option linter.unusedVariables false
set_option linter.unusedSimpArgs false

/-- Bytes don't lie in a box that holds none: the box is written. -/
theorem Sl.off {e g b : Nat} {w w1 : World} {v : Value} {xs : List UInt8} (h : Sl bv e w b v xs) {cur : Array Value} {t : Nat} {fr : Nat × Nat} (hbox : w.heap[g]? = some (.cells cur t fr)) (hcur : ∀ (j : Nat) (b : UInt8), cur[j]? ≠ some (bv b)) (hg : w.grownBy w1 (some g)) : Sl bv e w1 b v xs := by
  obtain ⟨A, c, h1, h2, h3, h4⟩ := h
  refine ⟨A, c, h1, h2, h3, h4.move fun ad hA hne => hg.block _ (h4.lt hA hne) ?_⟩
  intro he
  cases he
  cases xs with
  | nil => simp at hne
  | cons x xs =>
    obtain ⟨ad', h8, h9⟩ := h4.cell 0 (bv x) rfl
    rw [hA] at h8; cases h8
    have h10 : ad.add 0 = ad := rfl
    rw [h10] at h9
    simp only [World.cell?, hbox] at h9
    split at h9
    · cases h9
    · exact absurd h9 (hcur _ _)
theorem OwnL.off {g b : Nat} {w w1 : World} {v : Value} {L : List (List UInt8)} (h : OwnL w b v L) {cur : Array Value} {t : Nat} {fr : Nat × Nat} (hbox : w.heap[g]? = some (.cells cur t fr)) (ht : t ≠ 22) (hcur : ∀ (j : Nat) (b : UInt8), cur[j]? ≠ some (bv b)) (hg : w.grownBy w1 (some g)) : SlL w1 b v L := by
  obtain ⟨vs, h1, h2, h3⟩ := h
  refine ⟨vs, h1, Sl.of_own (enc := id) (base := b) ?_, fun i u x hu hx => (h3 i u x hu hx).off hbox hcur hg⟩
  rw [List.map_id]
  refine h2.kept hg (.inr ?_)
  intro he
  obtain ⟨_, cur', fr', e', h5, h6⟩ := own_row h2 g he
  rw [hbox] at h5
  injection h5 with h5
  injection h5 with _ h7
  exact ht (h7.trans h6)
/-- The list of another chapter's words. -/
theorem OwnE.offE {g b eb : Nat} {w w1 : World} {v : Value} {L : List (List UInt8)} (h : OwnE w b eb v L) {cur : Array Value} {t : Nat} {fr : Nat × Nat} (hbox : w.heap[g]? = some (.cells cur t fr)) (ht : t ≠ 22) (hcur : ∀ (j : Nat) (b : UInt8), cur[j]? ≠ some (bv b)) (hg : w.grownBy w1 (some g)) : SlL w1 eb v L := by
  obtain ⟨vs, h1, h2, h3⟩ := h
  refine ⟨vs, h1, Sl.of_own (enc := id) (base := b) ?_, fun i u x hu hx => (h3 i u x hu hx).off hbox hcur hg⟩
  rw [List.map_id]
  refine h2.kept hg (.inr ?_)
  intro he
  obtain ⟨_, cur', fr', e', h5, h6⟩ := own_row h2 g he
  rw [hbox] at h5
  injection h5 with h5
  injection h5 with _ h7
  exact ht (h7.trans h6)
/-- The same, still the call's own. -/
theorem OwnE.keepOff {g b eb : Nat} {w w1 : World} {v : Value} {L : List (List UInt8)} (h : OwnE w b eb v L) {cur : Array Value} {t : Nat} {fr : Nat × Nat} (hbox : w.heap[g]? = some (.cells cur t fr)) (ht : t ≠ 22) (hcur : ∀ (j : Nat) (b : UInt8), cur[j]? ≠ some (bv b)) (hg : w.grownBy w1 (some g)) : OwnE w1 b eb v L := by
  obtain ⟨vs, h1, h2, h3⟩ := h
  refine ⟨vs, h1, h2.kept hg (.inr ?_), fun i u x hu hx => (h3 i u x hu hx).off hbox hcur hg⟩
  intro he
  obtain ⟨_, cur', fr', e', h5, h6⟩ := own_row h2 g he
  rw [hbox] at h5
  injection h5 with h5
  injection h5 with _ h7
  exact ht (h7.trans h6)
/-- A row of another type than the box's. -/
theorem own_off {e g b size n : Nat} {w w1 : World} {v : Value} {cs : List Value} (h : w.ownsRow b e size v n cs) {cur : Array Value} {t : Nat} {fr : Nat × Nat} (hbox : w.heap[g]? = some (.cells cur t fr)) (ht : t ≠ e) (hg : w.grownBy w1 (some g)) : w1.ownsRow b e size v n cs := by
  refine h.kept hg (.inr ?_)
  intro he
  obtain ⟨_, cur', fr', e', h5, h6⟩ := own_row h g he
  rw [hbox] at h5
  injection h5 with h5
  injection h5 with _ h7
  exact ht (h7.trans h6)
end Go.Proofs.Ytdikconhdbopdaa
