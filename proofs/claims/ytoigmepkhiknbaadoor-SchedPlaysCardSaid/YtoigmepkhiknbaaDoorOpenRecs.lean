/-
  Slices of structs that are handed in. No condition.
-/
import Derived.Test.YtoigmepkhiknbaaDoorRows
import Derived.Test.YtoigmepkhiknbaaDoorOpen
import Derived.Test.YtoigmepkhiknbaaDoorRecs
import Derived.Deep.Slices
import Derived.Deep.Fields
namespace Go.Proofs.YtoigmepkhiknbaaDoor
open Go.ChangeShapes Go.WideShapes Go.RowKit Go.Joins Go.Deep
set_option linter.unusedVariables false
section
variable {H : Type} {enc : TypeId × Value → H} {P : Program} {w : World} {spare : Nat → Bool} {held : Bool}

/-- A slice whose elements, k cells each, are told by 'cells' and R. -/
theorem open_recs {α : Type} {cells : α → List Value} {R : α → Prop} {k : Nat} {t e : TypeId} {fuel : Nat} {cs : List Value} {x : DataW H × List MemPlace} (hk : ∀ x, (cells x).length = k) (hk0 : 0 < k) (ht : P.underlying t = some (.slice e)) (hc : P.cellsOf e = k)
    (hR : ∀ (n : Nat) (us : List Value) (y : DataW H × List MemPlace), DataW.trod enc P w 0 spare held n e us = some y → ∃ a, us = cells a ∧ R a)
    (h : DataW.trod enc P w 0 spare held fuel t cs = some x) : ∃ (v : Value) (xs : List α), cs = [v] ∧ SlC cells e w w.heap.size v xs ∧ ∀ a ∈ xs, R a := by
  rcases open_slice ht h with ⟨rfl, _⟩ | ⟨a, len, cap, m, n, D, Pl, rfl, _, hl, hm, hmm, _, hi⟩
  · exact ⟨_, [], rfl, ⟨none, 0, rfl, Nat.le_refl _, by simp [maxLen], RdT.nil _ _ _ _⟩, by simp⟩
  · have hlm : len ≤ m := by rw [hmm]; split <;> omega
    have each : ∀ i : Fin len, ∃ p : α, (∀ j u, (cells p)[j]? = some u → w.cell? (a.add (i * k + j)) = some u) ∧ R p := by
      intro ⟨i, hil⟩
      obtain ⟨cs', hcs, htr⟩ := hi i (by omega)
      rw [hc] at hcs
      obtain ⟨_, hcl, hat⟩ := World.cells?_some hcs
      obtain ⟨p, rfl, hp⟩ := hR _ _ _ htr
      refine ⟨p, fun j u hj => ?_, hp⟩
      have hjk : j < k := by have := (List.getElem?_eq_some_iff.1 hj).1; rwa [hk] at this
      have h0 := hat j hjk
      rw [hj, Proofs.YtoigmepkhiknbaaDoor.add_add] at h0
      exact h0
    obtain ⟨f, hf⟩ := Classical.axiomOfChoice each
    have hlen : (List.ofFn f).length = len := by simp
    have hget : ∀ (i : Nat) (hi : i < len), (List.ofFn f)[i]'(by rw [hlen]; exact hi) = f ⟨i, hi⟩ := fun i hi => by simp
    refine ⟨_, List.ofFn f, rfl, ⟨some a, cap, by rw [hlen], by rw [hlen]; exact hl, hm, fun j u hj => ⟨a, rfl, ?_⟩, fun ad hA hne => .inl ?_⟩, fun p hp => ?_⟩
    · have hjl : j < len * k := by have := (List.getElem?_eq_some_iff.1 hj).1; rwa [flat_len hk, hlen] at this
      have hdiv : j / k < len := Nat.div_lt_of_lt_mul (by rw [Nat.mul_comm]; exact hjl)
      have hmod : j % k < k := Nat.mod_lt _ hk0
      have hje : j = j / k * k + j % k := by rw [Nat.mul_comm]; exact (Nat.div_add_mod j k).symm
      rw [hje, flat_get hk _ _ _ (by rw [hlen]; exact hdiv) hmod, hget _ hdiv] at hj
      have h1 := (hf ⟨j / k, hdiv⟩).1 (j % k) u hj
      rw [hje]
      exact h1
    · cases hA
      have h0 : 0 < len := by
        rcases Nat.eq_zero_or_pos len with h0 | h0
        · subst h0; simp at hne
        · exact h0
      have h1 := (hf ⟨0, h0⟩).1 0 ((cells (f ⟨0, h0⟩))[0]'(by rw [hk]; exact hk0)) (List.getElem?_eq_getElem _)
      have := World.block_lt_of_cell? w _ h1
      rwa [Proofs.YtoigmepkhiknbaaDoor.add_eq] at this
    · obtain ⟨i, hi, rfl⟩ := List.getElem_of_mem hp
      rw [hget i (by rw [hlen] at hi; exact hi)]
      exact (hf _).2
end
end Go.Proofs.YtoigmepkhiknbaaDoor
