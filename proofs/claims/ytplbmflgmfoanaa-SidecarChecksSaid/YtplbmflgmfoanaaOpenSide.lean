/-
  A sidecar that is handed in. No condition.
-/
import Derived.Test.YtplbmflgmfoanaaRows
import Derived.Test.YtplbmflgmfoanaaOpen
import Derived.Test.YtplbmflgmfoanaaOpenL
import Derived.Test.YtplbmflgmfoanaaSideProg
namespace Go.Proofs.Ytplbmflgmfoanaa
open Go.ChangeShapes Go.WideShapes Go.RowKit Go.Joins Go.Deep
set_option linter.unusedVariables false

theorem six_list {α : Type} : ∀ {l : List α}, l.length = 6 → ∃ a b c d e f, l = [a, b, c, d, e, f]
  | [a, b, c, d, e, f], _ => ⟨a, b, c, d, e, f, rfl⟩
theorem open_side {H : Type} {enc : TypeId × Value → H} {w : World} {spare : Nat → Bool} {held : Bool} {r : Reach} {b0 : Nat} {fs : Array Field} {v : Value} {d : DataW H} {ps : List MemPlace}
    (hs : Try.prog.underlying 30 = some (.struct fs)) (hv : Value.okWide Try.prog w r b0 30 v) (h : DataW.Trod enc Try.prog w 0 spare held 30 v d ps) :
    ∃ (size block k : Int) (vr vl vp : Value) (root : List UInt8) (leaves par : List (List UInt8)), v = .agg #[.int .i64 size, .int .i64 block, .int .i64 k, vr, vl, vp] ∧ (-9223372036854775808 ≤ size ∧ size ≤ 9223372036854775807) ∧ (-9223372036854775808 ≤ block ∧ block ≤ 9223372036854775807) ∧ (-9223372036854775808 ≤ k ∧ k ≤ 9223372036854775807) ∧ SideR w vr vl vp root leaves par := by
  have h6 : fs.size = 6 := by
    have := hs.symm.trans Try.underlying30
    cases this; rfl
  obtain ⟨cs, rfl, hsz⟩ := okWide_struct hs hv
  obtain ⟨fuel, hf⟩ := h
  have hs' := Try.underlying30
  obtain ⟨h1, h2⟩ := open_fields hs' (by kernel_rfl) (by kernel_rfl) hf
  obtain ⟨l⟩ := cs
  simp only [Value.cells] at h1 h2
  obtain ⟨c0, c1, c2, c3, c4, c5, rfl⟩ := six_list h1
  obtain ⟨_, n0, y0, e0, t0⟩ := h2 0 _ rfl
  obtain ⟨_, n1, y1, e1, t1⟩ := h2 1 _ rfl
  obtain ⟨_, n2, y2, e2, t2⟩ := h2 2 _ rfl
  obtain ⟨_, n3, y3, e3, t3⟩ := h2 3 _ rfl
  obtain ⟨_, n4, y4, e4, t4⟩ := h2 4 _ rfl
  obtain ⟨_, n5, y5, e5, t5⟩ := h2 5 _ rfl
  cases e0; cases e1; cases e2; cases e3; cases e4; cases e5
  obtain ⟨a, rfl, wa⟩ := open_int' Try.underlying3 t0
  obtain ⟨b, rfl, wb⟩ := open_int' Try.underlying3 t1
  obtain ⟨k, rfl, wk⟩ := open_int' Try.underlying3 t2
  obtain ⟨vr, root, hr0, hr⟩ := open_bytes Try.underlying22 Try.underlying5 (by kernel_rfl) t3
  obtain ⟨vl, leaves, hl0, hl⟩ := open_bytess t4
  obtain ⟨vp, par, hp0, hp⟩ := open_bytess t5
  cases hr0; cases hl0; cases hp0
  exact ⟨a, b, k, _, _, _, root, leaves, par, rfl, wf_i64 wa, wf_i64 wb, wf_i64 wk, ⟨_, hr⟩, ⟨_, hl⟩, ⟨_, hp⟩⟩
end Go.Proofs.Ytplbmflgmfoanaa
