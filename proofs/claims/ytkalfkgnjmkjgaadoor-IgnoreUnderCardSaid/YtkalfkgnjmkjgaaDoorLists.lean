/-
  Slices of byte slices: read, owned, one more appended. No condition.
-/
import Derived.Test.YtkalfkgnjmkjgaaDoorProg
import Derived.Test.YtkalfkgnjmkjgaaDoorBase
import Derived.Test.YtkalfkgnjmkjgaaDoorClone
namespace Go.Proofs.YtkalfkgnjmkjgaaDoor
open Go.RowKit
set_option linter.unusedVariables false
set_option linter.unusedSimpArgs false

theorem info_bytes : (Tryd.prog.info? 49).map (fun i => (i.zero, i.size, i.bytes)) = some (some (.slice none 0 0), 1, 24) := by kernel_rfl

/-- append(v, y): v is the call's own, y lies in a box of its own. -/
theorem append_one {P : Program} {ops : Array Oper} {rest : List Oper} {o : Oper} {a : Act} {Q : Exit → Act → World → Prop} {w : World} (hgd : o.guard = none) (s x : Operand) (t : TypeId)
    (ho : o.op = .call { callee := .builtin .append, args := #[s, x], argTypes := #[t, t] })
    (base e : Nat) (z : Value) (bytes : Nat) (ht : P.underlying t = some (.slice e)) (hinfo : (P.info? e).map (fun i => (i.zero, i.size, i.bytes)) = some (some z, 1, bytes)) (hzs : z.cells.size = 1) (hb0 : 0 < bytes)
    (v : Value) (xs : List Value) (y : Value) (hy : y.oneCell' = true) (g c e0 : Nat) (fr : Nat × Nat) (hs : a.eval s = v) (hx : a.eval x = .slice (some ⟨g, 0, none⟩) 1 c) (hown : w.ownsRow base e 1 v xs.length xs) (hu : w.heap[g]? = some (.cells #[y] e0 fr))
    (hbytes : (xs.length + 1) * bytes ≤ 140737488355328) (hbase : base ≤ w.heap.size)
    (h : ∀ v' w', w'.ownsRow base e 1 v' (xs ++ [y]).length (xs ++ [y]) → w.grownBy w' v.ownBlock → (v' = .slice none 0 0 → False) → wpList P ops Q rest (a.put o.dst v') w') : wpList P ops Q (o :: rest) a w := by
  obtain ⟨i, hi, hz0, hz1, hz2⟩ := info_parts hinfo
  have hlen : xs.length + 1 ≤ 140737488355328 := Nat.le_trans (Nat.le_mul_of_pos_right _ hb0) hbytes
  refine wpList_append_own (P := P) (w := w) hgd s x t ho base e i z 1 bytes ht hi hz0 hz1 hz2 hzs (by omega) v xs.length xs hs hown ⟨g, 0, none⟩ 1 c [y] hx rfl ?_ ?_ (by simp only [maxLen]; omega) hbytes hbase ?_
  · intro j u hj
    cases j with
    | zero =>
      simp at hj; subst hj
      show w.cell? ⟨g, 0, none⟩ = _
      simp [World.cell?, hu]
    | succ j => simp at hj
  · intro u hu; simp at hu; subst hu; exact hy
  · intro v' w' h1 h2 h3
    exact h v' w' (by simpa using h1) h2 (fun hv => by have := h3.1 hv; omega)

/-- A slice of byte slices that can be read. -/
def SlL (w : World) (base : Nat) (v : Value) (L : List (List UInt8)) : Prop :=
  ∃ vs : List Value, vs.length = L.length ∧ Sl id 49 w base v vs ∧ ∀ (i : Nat) (u : Value) (x : List UInt8), vs[i]? = some u → L[i]? = some x → Sl bv 5 w base u x
/-- One of the call's own; what is in it is older, or the call's own. -/
def OwnL (w : World) (base : Nat) (v : Value) (L : List (List UInt8)) : Prop :=
  ∃ vs : List Value, vs.length = L.length ∧ w.ownsRow base 49 1 v vs.length vs ∧ ∀ (i : Nat) (u : Value) (x : List UInt8), vs[i]? = some u → L[i]? = some x → Sl bv 5 w base u x

section
variable {w w1 : World} {base : Nat} {v : Value} {L : List (List UInt8)}
theorem SlL.below (h : SlL w base v L) (hb : Below w.heap.size w w1) : SlL w1 base v L := by
  obtain ⟨vs, h1, h2, h3⟩ := h
  exact ⟨vs, h1, h2.below hb, fun i u x hu hx => (h3 i u x hu hx).below hb⟩
theorem SlL.mono {base' : Nat} (h : SlL w base v L) (hb : base ≤ base') : SlL w base' v L := by
  obtain ⟨vs, h1, h2, h3⟩ := h
  exact ⟨vs, h1, h2.mono hb, fun i u x hu hx => (h3 i u x hu hx).mono hb⟩
theorem SlL.old {b : Nat} (h : SlL w base v L) (hb : w.heap.size ≤ b) : SlL w b v L := by
  obtain ⟨vs, h1, h2, h3⟩ := h
  exact ⟨vs, h1, h2.old hb, fun i u x hu hx => (h3 i u x hu hx).old hb⟩
theorem SlL.shape (h : SlL w base v L) : ∃ A c, v = .slice A L.length c ∧ L.length ≤ c ∧ L.length ≤ 9223372036854775807 := by
  obtain ⟨vs, h1, ⟨A, c, h2, h3, h4, _⟩, _⟩ := h
  rw [h1] at h2 h3 h4
  exact ⟨A, c, h2, h3, h4⟩
/-- An element, as the walk reads it. -/
theorem SlL.at (h : SlL w base v L) (i : Nat) (hi : i < L.length) : ∃ (ad : Addr) (c : Nat) (u : Value) (A' : Option Addr) (c' : Nat), v = .slice (some ad) L.length c ∧ u = .slice A' (L.getD i []).length c' ∧ w.cell? (ad.add i) = some u ∧ Sl bv 5 w base u (L.getD i []) := by
  obtain ⟨vs, h1, ⟨A, c, h2, h3, h4, h5⟩, h6⟩ := h
  have hv : vs[i]? = some (vs[i]'(by omega)) := List.getElem?_eq_getElem (by omega)
  obtain ⟨ad, rfl, hc⟩ := h5.cell i (vs[i]'(by omega)) (by simp [List.getElem?_eq_getElem (show i < vs.length by omega)])
  have hx : L[i]? = some (L.getD i []) := by simp [List.getElem?_eq_getElem hi]
  have hs := h6 i _ _ hv hx
  obtain ⟨A', c', h7, _⟩ := hs
  exact ⟨ad, c, _, A', c', by rw [← h1]; exact h2, h7, hc, h6 i _ _ hv hx⟩
theorem OwnL.nil (w : World) (base : Nat) : OwnL w base (.slice none 0 0) [] := ⟨[], rfl, World.ownsRow_nil _ _ _ _, by simp⟩
theorem OwnL.below (h : OwnL w base v L) (hb : Below w.heap.size w w1) : OwnL w1 base v L := by
  obtain ⟨vs, h1, h2, h3⟩ := h
  exact ⟨vs, h1, own_below h2 hb, fun i u x hu hx => (h3 i u x hu hx).below hb⟩
theorem OwnL.reads (h : OwnL w base v L) : SlL w base v L := by
  obtain ⟨vs, h1, h2, h3⟩ := h
  exact ⟨vs, h1, Sl.of_own (enc := id) (by simpa using h2), h3⟩
theorem OwnL.base_le (h : OwnL w base v L) : ∀ k, v.ownBlock = some k → base ≤ k := by
  obtain ⟨vs, h1, h2, h3⟩ := h
  exact own_base h2

end
end Go.Proofs.YtkalfkgnjmkjgaaDoor
