/-
  slices.Clone of texts. No condition but a length.
-/
import Derived.Test.YtkalfkgnjmkjgaaDoorIgnAny
import Derived.Test.YtkalfkgnjmkjgaaDoorRowApp
import Derived.Test.YtkalfkgnjmkjgaaDoorRefParts4
namespace Go.Proofs.YtkalfkgnjmkjgaaDoor
open Go.RowKit
set_option linter.unusedVariables false
set_option linter.unusedSimpArgs false

set_option maxRecDepth 4000 in
set_option maxHeartbeats 1000000 in
theorem sclone_calls {e b0 : Nat} {v : Value} {x : List (List UInt8)} (w : World) (hv : Sl tv e w b0 v x) (hl : x.length ≤ 1000000000) :
    Calls Tryd.prog 27 #[v] w fun e w' => ∃ v', e = .returned v' ∧ w'.ownsRow w.heap.size 9 1 v' x.length (x.map tv) ∧ Below w.heap.size w w' := by
  have HV := Aside0.mk hv
  have HB : Aside0 (∀ o, Below w.heap.size w (w.alloc o)) := ⟨fun o => (Below.refl _ _).alloc (Nat.le_refl _) o⟩
  have HL := Aside0.mk hl
  clear hl
  obtain ⟨A, c, rfl, hc, hm, hR⟩ := hv
  rcases A with _ | ad
  · have h0 : x = [] := by
      cases x with
      | nil => rfl
      | cons y ys => obtain ⟨ad, h1, _⟩ := hR.cell 0 _ rfl; cases h1
    subst h0
    have h1 := Lib.run_eql_slice_nil (P := Tryd.prog) w 30 9 none 0 c 0 0 Tryd.underlying30
    clear hR
    go_enter Tryd.func27, Tryd.ntmps27
    go_wp2_with fail
    go_ret
    exact ⟨_, rfl, World.ownsRow_nil _ _ _ _, Below.refl _ _⟩
  · have h1 := Lib.run_eql_slice_nil (P := Tryd.prog) w 30 9 (some ad) x.length c 0 0 Tryd.underlying30
    clear hR
    go_enter Tryd.func27, Tryd.ntmps27
    go_wp2_with (at_builtin; go_must (refine append_row tv (fun _ => rfl) rfl (.tmp 5) (.tmp 6) 30 rfl w.heap.size 9 _ _ _ _ Tryd.underlying30 info_str rfl (by decide) _ [] x _ rfl rfl (World.ownsRow_made w #[] 0 (Nat.le_refl _) (by decide) rfl) (HV.out.below (HB.out _)) (by have := HL.out; simp; omega) (by simp) ?_); intro v' w' hown hg _)
    go_ret
    exact ⟨_, rfl, hown, below_grown (HB.out _) (by simp) hg (by rintro k hk; cases hk; exact Nat.le_refl _)⟩
end Go.Proofs.YtkalfkgnjmkjgaaDoor
