/-
  No rules: nothing is ignored, there are no lines. No condition.
-/
import Derived.Test.YtkalfkgnjmkjgaaDoorIgnParse
namespace Go.Proofs.YtkalfkgnjmkjgaaDoor
open Go.RowKit
set_option linter.unusedVariables false
set_option linter.unusedSimpArgs false

theorem lines_nil (w : World) : Calls Tryd.prog 20 #[.pointer none] w fun e w' => e = .returned (.slice none 0 0) ∧ w = w' := by
  go_enter Tryd.func20, Tryd.ntmps20
  go_wp2_with fail
  go_ret
  exact ⟨rfl, rfl⟩
theorem ignored_nil (p : ByteArray) (dir : Bool) (w : World) : Calls Tryd.prog 14 #[.pointer none, .string p, .bool dir] w fun e w' => e = .returned (.bool false) ∧ w = w' := by
  go_enter Tryd.func14, Tryd.ntmps14
  go_wp2_with fail
  go_ret
  exact ⟨rfl, rfl⟩
end Go.Proofs.YtkalfkgnjmkjgaaDoor
