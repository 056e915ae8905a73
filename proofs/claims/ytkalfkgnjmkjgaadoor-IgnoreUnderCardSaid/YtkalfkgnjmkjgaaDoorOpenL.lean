/-
  Slices of slices that are handed in. No condition.
-/
import Derived.Test.YtkalfkgnjmkjgaaDoorRows
import Derived.Test.YtkalfkgnjmkjgaaDoorOpen
import Derived.Test.YtkalfkgnjmkjgaaDoorLists
import Derived.Deep.Slices
namespace Go.Proofs.YtkalfkgnjmkjgaaDoor
open Go.ChangeShapes Go.WideShapes Go.RowKit Go.Joins Go.Deep
set_option linter.unusedVariables false
section
variable {H : Type} {enc : TypeId × Value → H} {P : Program} {w : World} {spare : Nat → Bool} {held : Bool}

/-- A slice whose elements, one cell each, are told by R. -/
theorem open_list {α : Type} {R : Value → α → Prop} {t e : TypeId} {fuel : Nat} {cs : List Value} {x : DataW H × List MemPlace} (ht : P.underlying t = some (.slice e)) (hc : P.cellsOf e = 1)
    (hR : ∀ (n : Nat) (u : Value) (y : DataW H × List MemPlace), DataW.trod enc P w 0 spare held n e [u] = some y → ∃ a, R u a)
    (h : DataW.trod enc P w 0 spare held fuel t cs = some x) : ∃ (v : Value) (vs : List Value) (xs : List α), cs = [v] ∧ Sl id e w w.heap.size v vs ∧ vs.length = xs.length ∧ ∀ (i : Nat) (u : Value) (a : α), vs[i]? = some u → xs[i]? = some a → R u a := by
  rcases open_slice ht h with ⟨rfl, _⟩ | ⟨a, len, cap, m, n, D, Pl, rfl, _, hl, hm, hmm, _, hi⟩
  · exact ⟨_, [], [], rfl, Sl.nil _ _ _ _, rfl, by simp⟩
  · have hlm : len ≤ m := by rw [hmm]; split <;> omega
    have each : ∀ i : Fin len, ∃ p : Value × α, w.cell? (a.add i) = some p.1 ∧ R p.1 p.2 := by
      intro ⟨i, hil⟩
      obtain ⟨cs', hcs, htr⟩ := hi i (by omega)
      rw [hc] at hcs
      obtain ⟨_, hcl, hat⟩ := World.cells?_some hcs
      have h1 : cs' = [cs'[0]'(by omega)] := by
        match cs', hcl with
        | [c], _ => rfl
      rw [h1] at htr
      obtain ⟨y, hy⟩ := hR _ _ _ htr
      have h0 := hat 0 (by omega)
      rw [Nat.mul_one] at h0
      have ha0 : (a.add i).add 0 = a.add i := rfl
      rw [ha0, List.getElem?_eq_getElem (by omega)] at h0
      exact ⟨(cs'[0]'(by omega), y), h0, hy⟩
    obtain ⟨f, hf⟩ := Classical.axiomOfChoice each
    refine ⟨_, List.ofFn fun i => (f i).1, List.ofFn fun i => (f i).2, rfl, ⟨some a, cap, by simp, by simpa using hl, by simp only [maxLen] at hm; simp; omega, fun j u hj => ⟨a, rfl, ?_⟩, fun ad hA hne => .inl ?_⟩, by simp, fun i u x hu hx => ?_⟩
    · simp only [List.map_id] at hj
      rw [List.getElem?_ofFn] at hj
      split at hj
      · rename_i hjl
        cases hj; exact (hf ⟨j, hjl⟩).1
      · cases hj
    · cases hA
      have h0 : 0 < len := by
        rcases Nat.eq_zero_or_pos len with h0 | h0
        · subst h0; simp at hne
        · exact h0
      have := World.block_lt_of_cell? w _ (hf ⟨0, h0⟩).1
      rwa [add_eq] at this
    · rw [List.getElem?_ofFn] at hu hx
      split at hu
      · rename_i hil
        rw [dif_pos hil] at hx
        cases hu; cases hx
        exact (hf ⟨i, hil⟩).2
      · cases hu
end

end Go.Proofs.YtkalfkgnjmkjgaaDoor
