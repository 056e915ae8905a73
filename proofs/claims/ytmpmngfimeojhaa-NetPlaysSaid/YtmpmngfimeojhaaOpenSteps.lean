/-
  The steps that are handed in. No condition.
-/
import Derived.Test.YtmpmngfimeojhaaOpenRecs
import Derived.Test.YtmpmngfimeojhaaLawPlays
namespace Go.Proofs.Ytmpmngfimeojhaa
open Go.ChangeShapes Go.WideShapes Go.RowKit Go.Joins Go.Deep
set_option linter.unusedVariables false
theorem open_steps {H : Type} {enc : TypeId × Value → H} {w : World} {spare : Nat → Bool} {held : Bool} {fuel : Nat} {cs : List Value} {x : DataW H × List MemPlace}
    (h : DataW.trod enc Try.prog w 0 spare held fuel 44 cs = some x) : ∃ (v : Value) (l : List St), cs = [v] ∧ SlC stC 47 w w.heap.size v l ∧ ∀ s ∈ l, Sl bv 5 w w.heap.size s.u s.b :=
  open_recs (R := fun s => Sl bv 5 w w.heap.size s.u s.b) stC_len (by decide) Try.underlying44 (by kernel_rfl) (fun n us y hy => by
    obtain ⟨hl, hf⟩ := open_fields Try.underlying47 (by kernel_rfl) (by kernel_rfl) hy
    obtain ⟨c0, c1, c2, c3, c4, rfl⟩ := five hl
    obtain ⟨_, n0, y0, e0, h0⟩ := hf 0 _ rfl
    obtain ⟨_, n1, y1, e1, h1⟩ := hf 1 _ rfl
    obtain ⟨_, n2, y2, e2, h2⟩ := hf 2 _ rfl
    obtain ⟨_, n3, y3, e3, h3⟩ := hf 3 _ rfl
    obtain ⟨_, n4, y4, e4, h4⟩ := hf 4 _ rfl
    cases e0; cases e1; cases e2; cases e3; cases e4
    obtain ⟨x0, rfl, _⟩ := open_int' Try.underlying3 h0
    obtain ⟨x1, rfl, _⟩ := open_int' Try.underlying3 h1
    obtain ⟨x2, rfl, _⟩ := open_int' Try.underlying3 h2
    obtain ⟨x3, rfl, _⟩ := open_int' Try.underlying3 h3
    obtain ⟨u, b, hu, hb⟩ := open_bytes Try.underlying22 Try.underlying5 (by kernel_rfl) h4
    cases hu
    exact ⟨⟨x0, x1, x2, x3, b, c4⟩, rfl, hb⟩) h
end Go.Proofs.Ytmpmngfimeojhaa
