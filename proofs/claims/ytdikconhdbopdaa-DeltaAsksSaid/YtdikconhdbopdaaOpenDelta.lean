/-
  A delta that is handed in. No condition.
-/
import Derived.Test.YtdikconhdbopdaaRows
import Derived.Test.YtdikconhdbopdaaOpen
import Derived.Test.YtdikconhdbopdaaOpenL
import Derived.Test.YtdikconhdbopdaaDelSound
namespace Go.Proofs.Ytdikconhdbopdaa
open Go.ChangeShapes Go.WideShapes Go.RowKit Go.Joins Go.Deep
set_option linter.unusedVariables false

theorem open_delta {H : Type} {enc : TypeId × Value → H} {w : World} {spare : Nat → Bool} {held : Bool} {r : Reach} {b0 : Nat} {fs : Array Field} {v : Value} {d : DataW H} {ps : List MemPlace}
    (hs : Try.prog.underlying 26 = some (.struct fs)) (hv : Value.okWide Try.prog w r b0 26 v) (h : DataW.Trod enc Try.prog w 0 spare held 26 v d ps) :
    ∃ (size block : Int) (vr vl vb : Value) (root : List UInt8) (l : List Int) (bs : List (List UInt8)), v = .agg #[.int .i64 size, .int .i64 block, vr, vl, vb] ∧ DelR w vr vl vb root l bs := by
  have h5 : fs.size = 5 := by
    have := hs.symm.trans Try.underlying26
    cases this; rfl
  obtain ⟨cs, rfl, hsz⟩ := okWide_struct hs hv
  obtain ⟨fuel, hf⟩ := h
  have hs' := Try.underlying26
  obtain ⟨h1, h2⟩ := open_fields hs' (by kernel_rfl) (by kernel_rfl) hf
  obtain ⟨l⟩ := cs
  simp only [Value.cells] at h1 h2
  obtain ⟨c0, c1, c2, c3, c4, rfl⟩ := five h1
  obtain ⟨_, n0, y0, e0, t0⟩ := h2 0 _ rfl
  obtain ⟨_, n1, y1, e1, t1⟩ := h2 1 _ rfl
  obtain ⟨_, n2, y2, e2, t2⟩ := h2 2 _ rfl
  obtain ⟨_, n3, y3, e3, t3⟩ := h2 3 _ rfl
  obtain ⟨_, n4, y4, e4, t4⟩ := h2 4 _ rfl
  cases e0; cases e1; cases e2; cases e3; cases e4
  obtain ⟨a, rfl, wa⟩ := open_int' Try.underlying3 t0
  obtain ⟨b, rfl, wb⟩ := open_int' Try.underlying3 t1
  obtain ⟨vr, root, hr0, hr⟩ := open_bytes Try.underlying22 Try.underlying5 (by kernel_rfl) t2
  obtain ⟨vl, l, hl0, hl, _⟩ := open_nums Try.underlying23 Try.underlying3 (by kernel_rfl) t3
  obtain ⟨vb, bs, hb0, hb⟩ := open_bytess t4
  cases hr0; cases hl0; cases hb0
  exact ⟨a, b, _, _, _, root, l, bs, rfl, ⟨_, hr⟩, ⟨_, hl⟩, ⟨_, hb⟩⟩
end Go.Proofs.Ytdikconhdbopdaa
