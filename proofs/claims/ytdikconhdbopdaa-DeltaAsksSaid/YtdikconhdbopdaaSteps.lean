/-
  append of bytes, and of byte slices, in a region that draws its order. No condition but that the pieces can be read.
-/
import Derived.Test.YtdikconhdbopdaaLists
namespace Go.Proofs.Ytdikconhdbopdaa
open Go.RowKit
set_option linter.unusedVariables false
set_option linter.unusedSimpArgs false

theorem wp_append_row {P : Program} {o : Oper} {a : Act} {K : Act → World → Prop} {Q : Exit → Act → World → Prop} {w : World} {α : Type} (enc : α → Value) (henc : ∀ x, (enc x).oneCell' = true) (s x : Operand) (t : TypeId)
    (ho : o.op = .call { callee := .builtin .append, args := #[s, x], argTypes := #[t, t] })
    (base e e0 b0 : Nat) (z : Value) (bytes : Nat) (ht : P.underlying t = some (.slice e)) (hinfo : (P.info? e).map (fun i => (i.zero, i.size, i.bytes)) = some (some z, 1, bytes)) (hzs : z.cells.size = 1) (hb0 : 0 < bytes)
    (v : Value) (xs ys : List α) (u : Value) (hs : a.eval s = v) (hx : a.eval x = u) (hown : w.ownsRow base e 1 v xs.length (xs.map enc)) (hu : Sl enc e0 w b0 u ys)
    (hbytes : (xs.length + ys.length) * bytes ≤ 140737488355328) (hbase : base ≤ w.heap.size)
    (h : ∀ v' w', w'.ownsRow base e 1 v' (xs ++ ys).length ((xs ++ ys).map enc) → w.grownBy w' v.ownBlock → (∃ A n c, v' = .slice A n c) → K (a.put o.dst v') w') : Oper.wp P o a w K Q := by
  obtain ⟨i, hi, hz0, hz1, hz2⟩ := info_parts hinfo
  obtain ⟨A, c, rfl, hc, hm, hR⟩ := hu
  have hlen : xs.length + ys.length ≤ 140737488355328 := Nat.le_trans (Nat.le_mul_of_pos_right _ hb0) hbytes
  have hv : ∃ A n c, v = .slice A n c ∧ n ≤ c := by
    rcases hown.2 with ⟨rfl, _⟩ | ⟨g, cap, cur, rfl, _, _, h1, _⟩
    · exact ⟨none, 0, 0, rfl, Nat.le_refl _⟩
    · exact ⟨_, _, _, rfl, h1⟩
  rcases A with _ | ad
  · have h0 : ys = [] := by
      cases ys with
      | nil => rfl
      | cons y ys => obtain ⟨ad, h1, _⟩ := hR.cell 0 _ rfl; cases h1
    subst h0
    unfold Oper.wp
    obtain ⟨A, n, cv, rfl, hnc⟩ := hv
    have hrun : (Builtin.append_ #[t, t] o.type #[.slice A n cv, .slice none 0 c]).run P w = .ok (.slice A n cv) w := by
      rcases A with _ | A <;> simp [Builtin.append_, run_underlying ht, sizeOf, typeInfo, hi, Builtin.lenOf, Builtin.firstCells, hnc, storeCells]
    unfold execOp
    simp only [ho, resolve, invoke, builtin, Sem.run_bind, Sem.run_pure, Result.andThen_ok, List.map_toArray, List.map_cons, List.map_nil, hs, hx, List.length_nil, hrun]
    exact h _ w (by simpa using hown) (World.grownBy.refl w _) ⟨_, _, _, rfl⟩
  · refine wp_append_own w s x t ho base e i z 1 bytes ht hi hz0 hz1 hz2 hzs (by omega) v xs.length (xs.map enc) hs hown ad ys.length c (ys.map enc) hx (by simp) ?_ ?_ (by simp only [maxLen]; omega) hbytes hbase ?_
    · intro j u hj
      obtain ⟨ad', h1, h2⟩ := hR.cell j u hj
      cases h1; exact h2
    · intro u hu
      obtain ⟨y, _, rfl⟩ := List.mem_map.1 hu
      exact henc y
    · intro v' w' h1 h2 _
      have h1' : w'.ownsRow base e 1 v' (xs ++ ys).length ((xs ++ ys).map enc) := by simpa using h1
      refine h v' w' h1' h2 ?_
      rcases h1'.2 with ⟨rfl, _⟩ | ⟨g, cap, cur, rfl, _⟩
      · exact ⟨none, 0, 0, rfl⟩
      · exact ⟨_, _, _, rfl⟩

/-- Bytes are appended to bytes of the call's own. -/
theorem step_append_row {P : Program} {ops : Array Oper} {o : Oper} {a : Act} {K : Act → World → Prop} {Q : Exit → Act → World → Prop} {E : Prop} {w : World} (hP : P = Try.prog) (hgd : o.guard = none) (s x : Operand)
    (ho : o.op = .call { callee := .builtin .append, args := #[s, x], argTypes := #[22, 22] })
    (base e0 b0 : Nat) (v : Value) (xs ys : List UInt8) (u : Value) (hs : a.eval s = v) (hx : a.eval x = u) (hown : w.ownsRow base 5 1 v xs.length (xs.map bv)) (hu : Sl bv e0 w b0 u ys)
    (hbytes : (xs.length + ys.length) * 1 ≤ 140737488355328) (hbase : base ≤ w.heap.size)
    (h : ∀ v' w', w'.ownsRow base 5 1 v' (xs ++ ys).length ((xs ++ ys).map bv) → w.grownBy w' v.ownBlock → (∃ A n c, v' = .slice A n c) → K (a.put o.dst v') w') :
    if Region.wanted o (yielded ops a.tmps) = true then Oper.wp P o a w K Q else E := by
  subst hP
  have hw : Region.wanted o (yielded ops a.tmps) = true := by simp [Region.wanted, hgd]
  rw [if_pos hw]
  exact wp_append_row bv (fun _ => rfl) s x 22 ho base 5 e0 b0 _ _ Try.underlying22 info_u8 rfl (by decide) v xs ys u hs hx hown hu hbytes hbase h

/-- A list of byte slices of the call's own; what is in it lies below eb, or in blocks of bytes. -/
def OwnE (w : World) (base eb : Nat) (v : Value) (L : List (List UInt8)) : Prop :=
  ∃ vs : List Value, vs.length = L.length ∧ w.ownsRow base 22 1 v vs.length vs ∧ ∀ (i : Nat) (u : Value) (x : List UInt8), vs[i]? = some u → L[i]? = some x → Sl bv 5 w eb u x
section
variable {w w1 : World} {base eb : Nat} {v : Value} {L : List (List UInt8)}
theorem OwnE.nil (w : World) (base eb : Nat) : OwnE w base eb (.slice none 0 0) [] := ⟨[], rfl, World.ownsRow_nil _ _ _ _, by simp⟩
theorem OwnE.below (h : OwnE w base eb v L) (hb : Below w.heap.size w w1) : OwnE w1 base eb v L := by
  obtain ⟨vs, h1, h2, h3⟩ := h
  exact ⟨vs, h1, own_below h2 hb, fun i u x hu hx => (h3 i u x hu hx).below hb⟩
theorem OwnE.reads (h : OwnE w base eb v L) : SlL w eb v L := by
  obtain ⟨vs, h1, h2, h3⟩ := h
  exact ⟨vs, h1, Sl.of_own (enc := id) (by simpa using h2), h3⟩
theorem OwnE.base_le (h : OwnE w base eb v L) : ∀ k, v.ownBlock = some k → base ≤ k := by
  obtain ⟨vs, h1, h2, h3⟩ := h
  exact own_base h2
theorem OwnE.own (h : OwnE w base eb v L) (hb : eb ≤ base) : OwnL w base v L := by
  obtain ⟨vs, h1, h2, h3⟩ := h
  exact ⟨vs, h1, h2, fun i u x hu hx => (h3 i u x hu hx).mono hb⟩
theorem OwnE.mono {base' : Nat} (h : OwnE w base eb v L) (hb : base' ≤ base) : OwnE w base' eb v L := by
  obtain ⟨vs, h1, h2, h3⟩ := h
  exact ⟨vs, h1, own_mono h2 hb, h3⟩
theorem OwnE.cast {M : List (List UInt8)} (h : OwnE w base eb v L) (e : L = M) : OwnE w base eb v M := e ▸ h

/-- One more byte slice is appended. -/
theorem wp_append_list {o : Oper} {a : Act} {K : Act → World → Prop} {Q : Exit → Act → World → Prop} (s x : Operand)
    (ho : o.op = .call { callee := .builtin .append, args := #[s, x], argTypes := #[24, 24] })
    (y : Value) (Y : List UInt8) (g c e0 : Nat) (fr : Nat × Nat) (hs : a.eval s = v) (hx : a.eval x = .slice (some ⟨g, 0, none⟩) 1 c) (hown : OwnE w base eb v L) (hu : w.heap[g]? = some (.cells #[y] e0 fr)) (hY : Sl bv 5 w eb y Y) (heb : eb ≤ base)
    (hbytes : (L.length + 1) * 24 ≤ 140737488355328) (hbase : base ≤ w.heap.size)
    (h : ∀ v' w', OwnE w' base eb v' (L ++ [Y]) → w.grownBy w' v.ownBlock → (∃ A n c, v' = .slice A n c) → K (a.put o.dst v') w') :
    Oper.wp Try.prog o a w K Q := by
  obtain ⟨vs, h1, h2, h3⟩ := hown
  have hy1 : y.oneCell' = true := by obtain ⟨A, c, rfl, _⟩ := hY; rfl
  obtain ⟨i, hi, hz0, hz1, hz2⟩ := info_parts info_bytes
  refine wp_append_own w s x 24 ho base 22 i _ 1 24 Try.underlying24 hi hz0 hz1 hz2 rfl (by decide) v vs.length vs hs h2 ⟨g, 0, none⟩ 1 c [y] hx rfl ?_ ?_ (by simp only [maxLen]; omega) (by omega) hbase ?_
  · intro j u hj
    cases j with
    | zero =>
      simp at hj; subst hj
      show w.cell? ⟨g, 0, none⟩ = _
      simp [World.cell?, hu]
    | succ j => simp at hj
  · intro u hu; simp at hu; subst hu; exact hy1
  intro v' w' h4 h5 _
  have h4 : w'.ownsRow base 22 1 v' (vs ++ [y]).length (vs ++ [y]) := by simpa using h4
  have hne : ∀ k, v.ownBlock = some k → eb ≤ k ∧ ∃ cur fr e', w.heap[k]? = some (.cells cur e' fr) ∧ e' ≠ 5 := fun k hk => by
    obtain ⟨a, b⟩ := own_row_ne (e0 := 5) h2 (by decide) k hk
    exact ⟨Nat.le_trans heb a, b⟩
  refine h v' w' ⟨vs ++ [y], by simp [h1], h4, fun i u x hu hx => ?_⟩ h5 ?_
  · rcases Nat.lt_or_ge i vs.length with hi | hi
    · rw [List.getElem?_append_left hi] at hu
      rw [List.getElem?_append_left (by omega)] at hx
      exact (h3 i u x hu hx).other h5 hne
    · rw [List.getElem?_append_right hi] at hu
      rw [List.getElem?_append_right (by omega), ← h1] at hx
      have h0 : i - vs.length = 0 := by
        rcases Nat.eq_zero_or_pos (i - vs.length) with h0 | h0
        · exact h0
        · rw [List.getElem?_eq_none (by simp; omega)] at hu; cases hu
      rw [h0] at hu hx
      cases hu; cases hx
      exact hY.other h5 hne
  · rcases h4.2 with ⟨rfl, _⟩ | ⟨g, cap, cur, rfl, _⟩
    · exact ⟨none, 0, 0, rfl⟩
    · exact ⟨_, _, _, rfl⟩
theorem step_append_list {P : Program} {ops : Array Oper} {o : Oper} {a : Act} {K : Act → World → Prop} {Q : Exit → Act → World → Prop} {E : Prop} (hP : P = Try.prog) (hgd : o.guard = none) (s x : Operand)
    (ho : o.op = .call { callee := .builtin .append, args := #[s, x], argTypes := #[24, 24] })
    (y : Value) (Y : List UInt8) (g c e0 : Nat) (fr : Nat × Nat) (hs : a.eval s = v) (hx : a.eval x = .slice (some ⟨g, 0, none⟩) 1 c) (hown : OwnE w base eb v L) (hu : w.heap[g]? = some (.cells #[y] e0 fr)) (hY : Sl bv 5 w eb y Y) (heb : eb ≤ base)
    (hbytes : (L.length + 1) * 24 ≤ 140737488355328) (hbase : base ≤ w.heap.size)
    (h : ∀ v' w', OwnE w' base eb v' (L ++ [Y]) → w.grownBy w' v.ownBlock → (∃ A n c, v' = .slice A n c) → K (a.put o.dst v') w') :
    if Region.wanted o (yielded ops a.tmps) = true then Oper.wp P o a w K Q else E := by
  subst hP
  have hw : Region.wanted o (yielded ops a.tmps) = true := by simp [Region.wanted, hgd]
  rw [if_pos hw]
  exact wp_append_list s x ho y Y g c e0 fr hs hx hown hu hY heb hbytes hbase h
theorem append_listE {P : Program} {ops : Array Oper} {rest : List Oper} {o : Oper} {a : Act} {Q : Exit → Act → World → Prop} (hP : P = Try.prog) (hgd : o.guard = none) (s x : Operand)
    (ho : o.op = .call { callee := .builtin .append, args := #[s, x], argTypes := #[24, 24] })
    (y : Value) (Y : List UInt8) (g c e0 : Nat) (fr : Nat × Nat) (hs : a.eval s = v) (hx : a.eval x = .slice (some ⟨g, 0, none⟩) 1 c) (hown : OwnE w base eb v L) (hu : w.heap[g]? = some (.cells #[y] e0 fr)) (hY : Sl bv 5 w eb y Y) (heb : eb ≤ base)
    (hbytes : (L.length + 1) * 24 ≤ 140737488355328) (hbase : base ≤ w.heap.size)
    (h : ∀ v' w', OwnE w' base eb v' (L ++ [Y]) → w.grownBy w' v.ownBlock → (∃ A n c, v' = .slice A n c) → wpList P ops Q rest (a.put o.dst v') w') : wpList P ops Q (o :: rest) a w := by
  subst hP
  refine wpList_plain hgd fun K hK => ?_
  exact wp_append_list s x ho y Y g c e0 fr hs hx hown hu hY heb hbytes hbase fun v' w' a b c => hK _ _ (h v' w' a b c)
end
end Go.Proofs.Ytdikconhdbopdaa
