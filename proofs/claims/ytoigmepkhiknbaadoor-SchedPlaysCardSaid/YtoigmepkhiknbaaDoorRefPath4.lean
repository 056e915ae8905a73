/-
  The reference's words on paths: Hidden, Parts, Parent, Name, Join, Under, Less; and texts alike. No condition but lengths.
-/
import Derived.Test.YtoigmepkhiknbaaDoorRefValid4
namespace Go.Proofs.YtoigmepkhiknbaaDoor
open Go.RowKit
set_option linter.unusedVariables false
set_option linter.unusedSimpArgs false

theorem splitP_len : ∀ s : List UInt8, (splitP s).length ≤ s.length + 1
  | [] => by simp [splitP]
  | c :: cs => by
    have ih := splitP_len cs
    rw [splitP]
    split
    · simp; omega
    · have h := splitP_ne cs
      cases hs : splitP cs with
      | nil => exact absurd hs h
      | cons p r => rw [hs] at ih; simp at ih ⊢; omega

theorem pre_take (x : List UInt8) : ∀ S : List UInt8, x.isPrefixOf S = (S.take x.length == x) := by
  intro S
  rw [Bool.eq_iff_iff, List.isPrefixOf_iff_prefix, beq_iff_eq, List.prefix_iff_eq_take]
  exact ⟨Eq.symm, Eq.symm⟩

end Go.Proofs.YtoigmepkhiknbaaDoor
