/-
  Lists of lists of byte slices: read, owned, one more appended; small lists made on the spot. No condition.
-/
import Derived.Test.YtdikconhdbopdaaWordsL
namespace Go.Proofs.Ytdikconhdbopdaa
open Go.RowKit
set_option linter.unusedVariables false
set_option linter.unusedSimpArgs false

theorem info_list : (Try.prog.info? 24).map (fun i => (i.zero, i.size, i.bytes)) = some (some (.slice none 0 0), 1, 24) := by kernel_rfl

/-- A list of lists that can be read. -/
def SlV (w : World) (base : Nat) (v : Value) (LL : List (List (List UInt8))) : Prop :=
  ∃ vs : List Value, vs.length = LL.length ∧ Sl id 24 w base v vs ∧ ∀ (i : Nat) (u : Value) (x : List (List UInt8)), vs[i]? = some u → LL[i]? = some x → SlL w base u x
/-- One of the call's own. -/
def OwnV (w : World) (base : Nat) (v : Value) (LL : List (List (List UInt8))) : Prop :=
  ∃ vs : List Value, vs.length = LL.length ∧ w.ownsRow base 24 1 v vs.length vs ∧ ∀ (i : Nat) (u : Value) (x : List (List UInt8)), vs[i]? = some u → LL[i]? = some x → SlL w base u x
section
variable {w w1 : World} {base : Nat} {v : Value} {LL : List (List (List UInt8))}
theorem SlV.below (h : SlV w base v LL) (hb : Below w.heap.size w w1) : SlV w1 base v LL := by
  obtain ⟨vs, h1, h2, h3⟩ := h
  exact ⟨vs, h1, h2.below hb, fun i u x hu hx => (h3 i u x hu hx).below hb⟩
theorem SlV.mono {base' : Nat} (h : SlV w base v LL) (hb : base ≤ base') : SlV w base' v LL := by
  obtain ⟨vs, h1, h2, h3⟩ := h
  exact ⟨vs, h1, h2.mono hb, fun i u x hu hx => (h3 i u x hu hx).mono hb⟩
theorem SlV.shape (h : SlV w base v LL) : ∃ A c, v = .slice A LL.length c ∧ LL.length ≤ c ∧ LL.length ≤ 9223372036854775807 := by
  obtain ⟨vs, h1, ⟨A, c, h2, h3, h4, _⟩, _⟩ := h
  rw [h1] at h2 h3 h4
  exact ⟨A, c, h2, h3, h4⟩
theorem SlV.at (h : SlV w base v LL) (i : Nat) (hi : i < LL.length) : ∃ (ad : Addr) (c : Nat) (u : Value) (A' : Option Addr) (c' : Nat), v = .slice (some ad) LL.length c ∧ u = .slice A' (LL.getD i []).length c' ∧ w.cell? (ad.add i) = some u ∧ SlL w base u (LL.getD i []) := by
  obtain ⟨vs, h1, ⟨A, c, h2, h3, h4, h5⟩, h6⟩ := h
  have hv : vs[i]? = some (vs[i]'(by omega)) := List.getElem?_eq_getElem (by omega)
  obtain ⟨ad, rfl, hc⟩ := h5.cell i (vs[i]'(by omega)) (by simp [List.getElem?_eq_getElem (show i < vs.length by omega)])
  have hx : LL[i]? = some (LL.getD i []) := by simp [List.getElem?_eq_getElem hi]
  obtain ⟨A', c', h7, _⟩ := (h6 i _ _ hv hx).shape
  exact ⟨ad, c, _, A', c', by rw [← h1]; exact h2, h7, hc, h6 i _ _ hv hx⟩
theorem OwnV.nil (w : World) (base : Nat) : OwnV w base (.slice none 0 0) [] := ⟨[], rfl, World.ownsRow_nil _ _ _ _, by simp⟩
theorem OwnV.below (h : OwnV w base v LL) (hb : Below w.heap.size w w1) : OwnV w1 base v LL := by
  obtain ⟨vs, h1, h2, h3⟩ := h
  exact ⟨vs, h1, own_below h2 hb, fun i u x hu hx => (h3 i u x hu hx).below hb⟩
theorem OwnV.reads (h : OwnV w base v LL) : SlV w base v LL := by
  obtain ⟨vs, h1, h2, h3⟩ := h
  exact ⟨vs, h1, Sl.of_own (enc := id) (by simpa using h2), h3⟩
theorem OwnV.base_le (h : OwnV w base v LL) : ∀ k, v.ownBlock = some k → base ≤ k := by
  obtain ⟨vs, h1, h2, h3⟩ := h
  exact own_base h2
theorem SlL.oneCell {u : Value} {L : List (List UInt8)} (h : SlL w base u L) : u.oneCell' = true := by obtain ⟨A, c, rfl, _⟩ := h.shape; rfl

/-- One more list is appended. -/
theorem append_lev {P : Program} {ops : Array Oper} {rest : List Oper} {o : Oper} {a : Act} {Q : Exit → Act → World → Prop} (hP : P = Try.prog) (hgd : o.guard = none) (s x : Operand)
    (ho : o.op = .call { callee := .builtin .append, args := #[s, x], argTypes := #[60, 60] })
    (y : Value) (Y : List (List UInt8)) (g c e0 : Nat) (fr : Nat × Nat) (hs : a.eval s = v) (hx : a.eval x = .slice (some ⟨g, 0, none⟩) 1 c) (hown : OwnV w base v LL) (hu : w.heap[g]? = some (.cells #[y] e0 fr)) (hY : SlL w base y Y)
    (hbytes : (LL.length + 1) * 24 ≤ 140737488355328) (hbase : base ≤ w.heap.size)
    (h : ∀ v' w', OwnV w' base v' (LL ++ [Y]) → w.grownBy w' v.ownBlock → (∀ eb, eb ≤ base → SlL w eb y Y → SlL w' eb y Y) → (∃ A n c, v' = .slice A n c) → wpList P ops Q rest (a.put o.dst v') w') : wpList P ops Q (o :: rest) a w := by
  subst hP
  obtain ⟨vs, h1, h2, h3⟩ := hown
  refine append_one hgd s x 60 ho base 24 _ _ Try.underlying60 info_list rfl (by decide) v vs y hY.oneCell g c e0 fr hs hx h2 hu (by rw [h1]; exact hbytes) hbase ?_
  intro v' w' h4 h5 _
  have hne : ∀ k, v.ownBlock = some k → base ≤ k ∧ ∃ cur fr e', w.heap[k]? = some (.cells cur e' fr) ∧ e' ≠ 22 ∧ e' ≠ 5 := by
    intro k hk
    obtain ⟨h1, cur, fr, e', h2, rfl⟩ := own_row h2 k hk
    exact ⟨h1, cur, fr, _, h2, by decide, by decide⟩
  refine h v' w' ⟨vs ++ [y], by simp [h1], h4, fun i u x hu hx => ?_⟩ h5 (fun eb he h => h.other h5 fun k hk => ⟨Nat.le_trans he (hne k hk).1, (hne k hk).2⟩) ?_
  · rcases Nat.lt_or_ge i vs.length with hi | hi
    · rw [List.getElem?_append_left hi] at hu
      rw [List.getElem?_append_left (by omega)] at hx
      exact (h3 i u x hu hx).other h5 hne
    · rw [List.getElem?_append_right hi] at hu
      rw [List.getElem?_append_right (by omega), ← h1] at hx
      have h0 : i - vs.length = 0 := by
        rcases Nat.eq_zero_or_pos (i - vs.length) with h0 | h0
        · exact h0
        · rw [List.getElem?_eq_none (by simp; omega)] at hu; cases hu
      rw [h0] at hu hx
      cases hu; cases hx
      exact hY.other h5 hne
  · rcases h4.2 with ⟨rfl, _⟩ | ⟨g, cap, cur, rfl, _⟩
    · exact ⟨none, 0, 0, rfl⟩
    · exact ⟨_, _, _, rfl⟩
end
end Go.Proofs.Ytdikconhdbopdaa
