/-
  A slice of texts that is handed in. No condition.
-/
import Derived.Test.YtkalfkgnjmkjgaaDoorOpenL
import Derived.Test.YtkalfkgnjmkjgaaDoorStrSplit
namespace Go.Proofs.YtkalfkgnjmkjgaaDoor
open Go.ChangeShapes Go.WideShapes Go.RowKit Go.Joins Go.Deep
set_option linter.unusedVariables false
section
variable {H : Type} {enc : TypeId × Value → H} {w : World} {spare : Nat → Bool} {held : Bool}

theorem open_strs' {fuel : Nat} {cs : List Value} {x : DataW H × List MemPlace} (h : DataW.trod enc Tryd.prog w 0 spare held fuel 30 cs = some x) :
    ∃ (v : Value) (xs : List (List UInt8)), cs = [v] ∧ SlS w w.heap.size v xs ∧ ∀ S ∈ xs, S.length ≤ 9223372036854775807 := by
  obtain ⟨v, vs, xs, h1, ⟨A, c, h2, h3, h4, h5⟩, h6, h7⟩ := open_list (R := fun u (a : List UInt8) => u = tv a ∧ a.length ≤ 9223372036854775807) Tryd.underlying30 (by kernel_rfl) (fun n u y hy => by
    obtain ⟨s, h8, h9⟩ := open_string' Tryd.underlying9 hy
    exact ⟨s.data.toList, by rw [h8]; rfl, by rw [Array.length_toList]; exact h9⟩) h
  have hv : vs = xs.map tv := by
    apply List.ext_getElem
    · rw [List.length_map]; exact h6
    · intro i hi1 hi2
      rw [List.getElem_map]
      exact (h7 i _ _ (List.getElem?_eq_getElem hi1) (List.getElem?_eq_getElem (by omega))).1
  refine ⟨v, xs, h1, ⟨A, c, by rw [h2, h6], by omega, by omega, ?_⟩, fun S hS => ?_⟩
  · rw [← hv]
    rw [List.map_id] at h5
    exact h5
  · obtain ⟨i, hi, rfl⟩ := List.getElem_of_mem hS
    exact (h7 i _ _ (List.getElem?_eq_getElem (by omega)) (List.getElem?_eq_getElem hi)).2
end
end Go.Proofs.YtkalfkgnjmkjgaaDoor
