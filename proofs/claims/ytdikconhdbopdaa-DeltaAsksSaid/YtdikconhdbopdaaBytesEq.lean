/-
  bytes.Equal. No condition but that both can be read.
-/
import Derived.Test.YtdikconhdbopdaaProg
import Derived.Test.YtdikconhdbopdaaBase
namespace Go.Proofs.Ytdikconhdbopdaa
open Go.RowKit
set_option linter.unusedVariables false
set_option linter.unusedSimpArgs false

theorem equal_calls {e e' : Nat} {base base' : Nat} {v v' : Value} {x y : List UInt8} (w : World) (hx : Sl bv e w base v x) (hy : Sl bv e' w base' v' y) :
    Calls Try.prog 33 #[v, v'] w fun e w' => e = .returned (.bool (x == y)) ∧ w = w' := by
  have c1 := hx.string (P := Try.prog) Try.underlying22 Try.underlying5 Try.underlying9
  have c2 := hy.string (P := Try.prog) Try.underlying22 Try.underlying5 Try.underlying9
  obtain ⟨A, c, rfl, _, _, _⟩ := hx
  obtain ⟨A', c', rfl, _, _, _⟩ := hy
  go_enter Try.func33, Try.ntmps33
  go_wp2
  go_ret
  exact ⟨ret_b (by rw [str_toList, str_toList]), rfl⟩
end Go.Proofs.Ytdikconhdbopdaa
