/-
  append(v, x...) of elements of one cell. No condition but lengths.
-/
import Derived.Test.YtoigmepkhiknbaaDoorProg
import Derived.Test.YtoigmepkhiknbaaDoorBase
namespace Go.Proofs.YtoigmepkhiknbaaDoor
open Go.RowKit
set_option linter.unusedVariables false
set_option linter.unusedSimpArgs false

/-- append(v, x...) where the element type is one cell: v is the call's own, x can be read. -/
theorem append_row {P : Program} {ops : Array Oper} {rest : List Oper} {o : Oper} {a : Act} {Q : Exit → Act → World → Prop} {w : World} {α : Type} (enc : α → Value) (henc : ∀ x, (enc x).oneCell' = true) (hgd : o.guard = none) (s x : Operand) (t : TypeId)
    (ho : o.op = .call { callee := .builtin .append, args := #[s, x], argTypes := #[t, t] })
    (base e e0 b0 : Nat) (z : Value) (bytes : Nat) (ht : P.underlying t = some (.slice e)) (hinfo : (P.info? e).map (fun i => (i.zero, i.size, i.bytes)) = some (some z, 1, bytes)) (hzs : z.cells.size = 1) (hb0 : 0 < bytes)
    (v : Value) (xs ys : List α) (u : Value) (hs : a.eval s = v) (hx : a.eval x = u) (hown : w.ownsRow base e 1 v xs.length (xs.map enc)) (hu : Sl enc e0 w b0 u ys)
    (hbytes : (xs.length + ys.length) * bytes ≤ 140737488355328) (hbase : base ≤ w.heap.size)
    (h : ∀ v' w', w'.ownsRow base e 1 v' (xs ++ ys).length ((xs ++ ys).map enc) → w.grownBy w' v.ownBlock → (v' = .slice none 0 0 ↔ v = .slice none 0 0 ∧ ys.length = 0) → wpList P ops Q rest (a.put o.dst v') w') : wpList P ops Q (o :: rest) a w := by
  obtain ⟨i, hi, hz0, hz1, hz2⟩ := info_parts hinfo
  obtain ⟨A, c, rfl, hc, hm, hR⟩ := hu
  have hlen : xs.length + ys.length ≤ 140737488355328 := Nat.le_trans (Nat.le_mul_of_pos_right _ hb0) hbytes
  rcases A with _ | ad
  · have h0 : ys = [] := by
      cases ys with
      | nil => rfl
      | cons y ys => obtain ⟨ad, h1, _⟩ := hR.cell 0 _ rfl; cases h1
    subst h0
    refine wpList_plain hgd fun K hK => ?_
    unfold Oper.wp
    have hv : ∃ A n c, v = .slice A n c ∧ n ≤ c := by
      rcases hown.2 with ⟨rfl, _⟩ | ⟨g, cap, cur, rfl, _, _, h1, _⟩
      · exact ⟨none, 0, 0, rfl, Nat.le_refl _⟩
      · exact ⟨_, _, _, rfl, h1⟩
    obtain ⟨A, n, cv, rfl, hnc⟩ := hv
    have hrun : (Builtin.append_ #[t, t] o.type #[.slice A n cv, .slice none 0 c]).run P w = .ok (.slice A n cv) w := by
      rcases A with _ | A <;> simp [Builtin.append_, run_underlying ht, sizeOf, typeInfo, hi, Builtin.lenOf, Builtin.firstCells, hnc, storeCells]
    unfold execOp
    simp only [ho, resolve, invoke, builtin, Sem.run_bind, Sem.run_pure, Result.andThen_ok, List.map_toArray, List.map_cons, List.map_nil, hs, hx, List.length_nil, hrun]
    exact hK _ _ (h _ w (by simpa using hown) (World.grownBy.refl w _) (by simp))
  · refine wpList_append_own (P := P) (w := w) hgd s x t ho base e i z 1 bytes ht hi hz0 hz1 hz2 hzs (by omega) v xs.length (xs.map enc) hs hown ad ys.length c (ys.map enc) hx (by simp) ?_ ?_ (by simp only [maxLen]; omega) hbytes hbase ?_
    · intro j u hj
      obtain ⟨ad', h1, h2⟩ := hR.cell j u hj
      cases h1; exact h2
    · intro u hu
      obtain ⟨y, _, rfl⟩ := List.mem_map.1 hu
      exact henc y
    · intro v' w' h1 h2 h3
      exact h v' w' (by simpa using h1) h2 h3

end Go.Proofs.YtoigmepkhiknbaaDoor
