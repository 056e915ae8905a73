/-
  A Stat that is handed in. No condition.
-/
import Derived.Test.YthhpimelnaealaaRows
import Derived.Test.YthhpimelnaealaaOpen
namespace Go.Proofs.Ythhpimelnaealaa
open Go.ChangeShapes Go.WideShapes Go.RowKit Go.Joins Go.Deep
set_option linter.unusedVariables false

theorem open_stat {H : Type} {enc : TypeId × Value → H} {w : World} {spare : Nat → Bool} {held : Bool} {r : Reach} {b0 : Nat} {fs : Array Field} {v : Value} {d : DataW H} {ps : List MemPlace}
    (hs : Try.prog.underlying 28 = some (.struct fs)) (hv : Value.okWide Try.prog w r b0 28 v) (h : DataW.Trod enc Try.prog w 0 spare held 28 v d ps) :
    ∃ (p : ByteArray) (k s m t : Int), v = .agg #[.string p, .int .i64 k, .int .i64 s, .int .i64 m, .int .u64 t] ∧ p.size ≤ 9223372036854775807 := by
  have h5 : fs.size = 5 := by
    have := hs.symm.trans Try.underlying28
    cases this; rfl
  obtain ⟨cs, rfl, hsz⟩ := okWide_struct hs hv
  obtain ⟨fuel, hf⟩ := h
  have hs' := Try.underlying28
  obtain ⟨h1, h2⟩ := open_fields hs' (by kernel_rfl) (by kernel_rfl) hf
  obtain ⟨l⟩ := cs
  simp only [Value.cells] at h1 h2
  obtain ⟨c0, c1, c2, c3, c4, rfl⟩ := five h1
  obtain ⟨_, n0, y0, e0, t0⟩ := h2 0 _ rfl
  obtain ⟨_, n1, y1, e1, t1⟩ := h2 1 _ rfl
  obtain ⟨_, n2, y2, e2, t2⟩ := h2 2 _ rfl
  obtain ⟨_, n3, y3, e3, t3⟩ := h2 3 _ rfl
  obtain ⟨_, n4, y4, e4, t4⟩ := h2 4 _ rfl
  cases e0; cases e1; cases e2; cases e3; cases e4
  obtain ⟨p, rfl, hp⟩ := open_string' Try.underlying9 t0
  obtain ⟨k, rfl, _⟩ := open_int' Try.underlying3 t1
  obtain ⟨s, rfl, _⟩ := open_int' Try.underlying3 t2
  obtain ⟨m, rfl, _⟩ := open_int' Try.underlying3 t3
  obtain ⟨t, rfl, _⟩ := open_int' Try.underlying26 t4
  exact ⟨p, k, s, m, t, rfl, hp⟩
end Go.Proofs.Ythhpimelnaealaa
