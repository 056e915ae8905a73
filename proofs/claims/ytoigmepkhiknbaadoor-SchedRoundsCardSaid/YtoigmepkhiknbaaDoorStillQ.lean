/-
  A region's reads and still calls by the cheap quiet walk, a tail behind them. No condition.
-/
import Derived.Test.YtoigmepkhiknbaaDoorBase
import Derived.StillTailTactics
namespace Go.Proofs.YtoigmepkhiknbaaDoor
open Go.RowKit
set_option linter.unusedVariables false
set_option linter.unusedSimpArgs false

theorem still_of_quiet {P : Program} {ops : Array Oper} {w : World} {Q : Act → Prop} : ∀ (l : List Oper) (a : Act), wpQuiet P ops (fun w' => w' = w) Q l a → wpStill P ops w Q l a
  | [], a, h => h
  | o :: rest, a, h => by
    unfold wpQuiet at h
    unfold wpStill
    split
    · rename_i hw
      rw [if_pos hw] at h
      obtain ⟨v, h1, h2⟩ := h
      have h3 := h1 w rfl
      unfold Oper.quietAt at h3
      unfold Oper.still
      generalize (execOp a.eval o).run P w = r at *
      cases r with
      | ok n w' =>
        cases n <;> simp only [Oper.quietUpon] at h3 <;> simp only [Oper.stillUpon]
        case value u => obtain ⟨h4, rfl⟩ := h3; exact ⟨h4, still_of_quiet rest _ h2⟩
        case skip => obtain ⟨h4, rfl⟩ := h3; exact ⟨h4, still_of_quiet rest _ h2⟩
        case enter f args => exact ⟨h3.1, v, h3.2, still_of_quiet rest _ h2⟩
      | halt x w' => cases x <;> simp only [Oper.quietUpon] at h3
    · rename_i hw
      rw [if_neg hw] at h
      exact still_of_quiet rest _ h
end Go.Proofs.YtoigmepkhiknbaaDoor
