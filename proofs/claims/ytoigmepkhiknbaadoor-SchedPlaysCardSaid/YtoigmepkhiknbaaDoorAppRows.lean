/-
  append of a slice of structs to a row of the call's own. No condition but that the slice can be read, and that they are not more than memory.
-/
import Derived.Test.YtoigmepkhiknbaaDoorRecs
import Derived.Lib.SmallJoins
import Derived.Deep.RegionLaw
import Derived.Deep.AppendLies
namespace Go.Proofs.YtoigmepkhiknbaaDoor
open Go.RowKit Go.Joins
set_option linter.unusedVariables false
set_option linter.unusedSimpArgs false

theorem wp_append_rows {P : Program} {o : Oper} {a : Act} {K : Act → World → Prop} {Q : Exit → Act → World → Prop} {w : World} {α : Type} (cells : α → List Value) (k : Nat) (hk : ∀ x, (cells x).length = k) (hk0 : 0 < k) (s x : Operand) (t : TypeId)
    (ho : o.op = .call { callee := .builtin .append, args := #[s, x], argTypes := #[t, t] })
    (base e e0 b0 : Nat) (z : Value) (bytes : Nat) (ht : P.underlying t = some (.slice e)) (hinfo : (P.info? e).map (fun i => (i.zero, i.size, i.bytes)) = some (some z, k, bytes)) (hzs : z.cells.size = k) (hb0 : 0 < bytes)
    (v : Value) (xs ys : List α) (u : Value) (hs : a.eval s = v) (hx : a.eval x = u) (hown : w.ownsRow base e k v xs.length (xs.flatMap cells)) (hu : SlC cells e0 w b0 u ys) (h1 : ∀ y ∈ ys, ∀ c ∈ cells y, c.oneCell' = true)
    (hbytes : (xs.length + ys.length) * bytes ≤ 140737488355328) (hbase : base ≤ w.heap.size)
    (h : ∀ v' w', w'.ownsRow base e k v' (xs ++ ys).length ((xs ++ ys).flatMap cells) → w.grownBy w' v.ownBlock → (∃ A n c, v' = .slice A n c) → K (a.put o.dst v') w') : Oper.wp P o a w K Q := by
  obtain ⟨i, hi, hz0, hz1, hz2⟩ := info_parts hinfo
  obtain ⟨A, c, rfl, hc, hm, hR⟩ := hu
  have hlen : xs.length + ys.length ≤ 140737488355328 := Nat.le_trans (Nat.le_mul_of_pos_right _ hb0) hbytes
  have hv : ∃ A n c, v = .slice A n c ∧ n ≤ c := by
    rcases hown.2 with ⟨rfl, _⟩ | ⟨g, cap, cur, rfl, _, _, h1, _⟩
    · exact ⟨none, 0, 0, rfl, Nat.le_refl _⟩
    · exact ⟨_, _, _, rfl, h1⟩
  rcases Nat.eq_zero_or_pos ys.length with h0 | hpos
  · have h0 : ys = [] := List.eq_nil_of_length_eq_zero h0
    subst h0
    obtain ⟨B, n, cv, rfl, hnc⟩ := hv
    unfold Oper.wp
    have hrun : (Builtin.append_ #[t, t] o.type #[.slice B n cv, .slice A 0 c]).run P w = .ok (.slice B n cv) w := by
      rcases A with _ | A <;> rcases B with _ | B <;> simp [Builtin.append_, run_underlying ht, sizeOf, typeInfo, hi, Builtin.lenOf, Builtin.firstCells, hnc, storeCells, loadCells, loadCellsFrom]
    unfold execOp
    simp only [ho, resolve, invoke, builtin, Sem.run_bind, Sem.run_pure, Result.andThen_ok, List.map_toArray, List.map_cons, List.map_nil, hs, hx, List.length_nil, hrun]
    exact h _ w (by simpa using hown) (World.grownBy.refl w _) ⟨_, _, _, rfl⟩
  · have hfl := flat_len hk ys
    have hA : ∃ ad, A = some ad := by
      have : 0 < (ys.flatMap cells).length := by rw [hfl]; exact Nat.mul_pos hpos hk0
      obtain ⟨ad, h1, _⟩ := hR.getD 0 this
      exact ⟨ad, h1⟩
    obtain ⟨ad, rfl⟩ := hA
    refine wp_append_lies w s x t ho base e i z k bytes ht hi hz0 hz1 hz2 hzs hk0 v xs.length (xs.flatMap cells) hs hown ad ys.length c (ys.flatMap cells) hx hfl ?_ ?_ hpos (by simp only [maxLen]; omega) hbytes hbase w.heap.size rfl ?_
    · intro j u hj
      obtain ⟨ad', h1, h2⟩ := hR.cell j u hj
      cases h1; exact h2
    · intro u hu
      obtain ⟨y, hy, huy⟩ := List.mem_flatMap.1 hu
      exact h1 y hy u huy
    · intro g cap w' h1 h2 _ _
      exact h _ w' (by rw [List.length_append, List.flatMap_append]; exact h1) h2 ⟨_, _, _, rfl⟩

theorem step_append_rows {P : Program} {ops : Array Oper} {o : Oper} {a : Act} {K : Act → World → Prop} {Q : Exit → Act → World → Prop} {E : Prop} {w : World} {α : Type} (cells : α → List Value) (k : Nat) (hk : ∀ x, (cells x).length = k) (hk0 : 0 < k) (hgd : o.guard = none) (s x : Operand) (t : TypeId)
    (ho : o.op = .call { callee := .builtin .append, args := #[s, x], argTypes := #[t, t] })
    (base e e0 b0 : Nat) (z : Value) (bytes : Nat) (ht : P.underlying t = some (.slice e)) (hinfo : (P.info? e).map (fun i => (i.zero, i.size, i.bytes)) = some (some z, k, bytes)) (hzs : z.cells.size = k) (hb0 : 0 < bytes)
    (v : Value) (xs ys : List α) (u : Value) (hs : a.eval s = v) (hx : a.eval x = u) (hown : w.ownsRow base e k v xs.length (xs.flatMap cells)) (hu : SlC cells e0 w b0 u ys) (h1 : ∀ y ∈ ys, ∀ c ∈ cells y, c.oneCell' = true)
    (hbytes : (xs.length + ys.length) * bytes ≤ 140737488355328) (hbase : base ≤ w.heap.size)
    (h : ∀ v' w', w'.ownsRow base e k v' (xs ++ ys).length ((xs ++ ys).flatMap cells) → w.grownBy w' v.ownBlock → (∃ A n c, v' = .slice A n c) → K (a.put o.dst v') w') :
    if Region.wanted o (yielded ops a.tmps) = true then Oper.wp P o a w K Q else E := by
  have hw : Region.wanted o (yielded ops a.tmps) = true := by simp [Region.wanted, hgd]
  rw [if_pos hw]
  exact wp_append_rows cells k hk hk0 s x t ho base e e0 b0 z bytes ht hinfo hzs hb0 v xs ys u hs hx hown hu h1 hbytes hbase h

theorem wpList_append_rows {P : Program} {ops : Array Oper} {rest : List Oper} {o : Oper} {a : Act} {Q : Exit → Act → World → Prop} {w : World} {α : Type} (cells : α → List Value) (k : Nat) (hk : ∀ x, (cells x).length = k) (hk0 : 0 < k) (hgd : o.guard = none) (s x : Operand) (t : TypeId)
    (ho : o.op = .call { callee := .builtin .append, args := #[s, x], argTypes := #[t, t] })
    (base e e0 b0 : Nat) (z : Value) (bytes : Nat) (ht : P.underlying t = some (.slice e)) (hinfo : (P.info? e).map (fun i => (i.zero, i.size, i.bytes)) = some (some z, k, bytes)) (hzs : z.cells.size = k) (hb0 : 0 < bytes)
    (v : Value) (xs ys : List α) (u : Value) (hs : a.eval s = v) (hx : a.eval x = u) (hown : w.ownsRow base e k v xs.length (xs.flatMap cells)) (hu : SlC cells e0 w b0 u ys) (h1 : ∀ y ∈ ys, ∀ c ∈ cells y, c.oneCell' = true)
    (hbytes : (xs.length + ys.length) * bytes ≤ 140737488355328) (hbase : base ≤ w.heap.size)
    (h : ∀ v' w', w'.ownsRow base e k v' (xs ++ ys).length ((xs ++ ys).flatMap cells) → w.grownBy w' v.ownBlock → (∃ A n c, v' = .slice A n c) → wpList P ops Q rest (a.put o.dst v') w') : wpList P ops Q (o :: rest) a w := by
  refine wpList_plain hgd fun K hK => ?_
  exact wp_append_rows cells k hk hk0 s x t ho base e e0 b0 z bytes ht hinfo hzs hb0 v xs ys u hs hx hown hu h1 hbytes hbase fun v' w' a b c => hK _ _ (h v' w' a b c)
end Go.Proofs.YtoigmepkhiknbaaDoor
