/-
  The steps that are handed in. No condition.
-/
import Derived.Test.YtoigmepkhiknbaaDoorOpenRecs
import Derived.Test.YtoigmepkhiknbaaDoorLawSPl
namespace Go.Proofs.YtoigmepkhiknbaaDoor
open Go.ChangeShapes Go.WideShapes Go.RowKit Go.Joins Go.Deep
set_option linter.unusedVariables false
theorem three_cs {l : List Value} (h : l.length = 3) : ∃ a b c, l = [a, b, c] := by
  match l, h with
  | [a, b, c], _ => exact ⟨a, b, c, rfl⟩
theorem open_stps {H : Type} {enc : TypeId × Value → H} {w : World} {spare : Nat → Bool} {held : Bool} {fuel : Nat} {cs : List Value} {x : DataW H × List MemPlace}
    (h : DataW.trod enc Tryd.prog w 0 spare held fuel 38 cs = some x) : ∃ (v : Value) (l : List Stp), cs = [v] ∧ SlC stpC 45 w w.heap.size v l ∧ ∀ s ∈ l, StpW s :=
  open_recs (R := StpW) stpC_len (by decide) Tryd.underlying38 (by kernel_rfl) (fun n us y hy => by
    obtain ⟨hl, hf⟩ := open_fields Tryd.underlying45 (by kernel_rfl) (by kernel_rfl) hy
    obtain ⟨c0, c1, c2, rfl⟩ := three_cs hl
    obtain ⟨_, n0, y0, e0, h0⟩ := hf 0 _ rfl
    obtain ⟨_, n1, y1, e1, h1⟩ := hf 1 _ rfl
    obtain ⟨_, n2, y2, e2, h2⟩ := hf 2 _ rfl
    cases e0; cases e1; cases e2
    obtain ⟨x0, rfl, w0⟩ := open_int' Tryd.underlying3 h0
    obtain ⟨x1, rfl, w1⟩ := open_string' Tryd.underlying9 h1
    obtain ⟨x2, rfl, w2⟩ := open_int' Tryd.underlying3 h2
    exact ⟨⟨x0, x1, x2⟩, rfl, wf_i64 w0, by simpa [maxLen] using w1, wf_i64 w2⟩) h
end Go.Proofs.YtoigmepkhiknbaaDoor
