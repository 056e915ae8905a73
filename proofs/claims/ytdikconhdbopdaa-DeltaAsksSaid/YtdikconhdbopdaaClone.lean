/-
  slices.Clone of bytes: new bytes, the same. No condition but that the slice can be read and isn't longer than memory.
-/
import Derived.Test.YtdikconhdbopdaaProg
import Derived.Test.YtdikconhdbopdaaBase
namespace Go.Proofs.Ytdikconhdbopdaa
open Go.RowKit
set_option linter.unusedVariables false
set_option linter.unusedSimpArgs false

theorem info_u8 : (Try.prog.info? 5).map (fun i => (i.zero, i.size, i.bytes)) = some (some (.int .u8 0), 1, 1) := by kernel_rfl

/-- append(v, x...) where the element type is one cell: v is the call's own, x can be read. -/
theorem append_row {P : Program} {ops : Array Oper} {rest : List Oper} {o : Oper} {a : Act} {Q : Exit → Act → World → Prop} {w : World} {α : Type} (enc : α → Value) (henc : ∀ x, (enc x).oneCell' = true) (hgd : o.guard = none) (s x : Operand) (t : TypeId)
    (ho : o.op = .call { callee := .builtin .append, args := #[s, x], argTypes := #[t, t] })
    (base e e0 b0 : Nat) (z : Value) (bytes : Nat) (ht : P.underlying t = some (.slice e)) (hinfo : (P.info? e).map (fun i => (i.zero, i.size, i.bytes)) = some (some z, 1, bytes)) (hzs : z.cells.size = 1) (hb0 : 0 < bytes)
    (v : Value) (xs ys : List α) (u : Value) (hs : a.eval s = v) (hx : a.eval x = u) (hown : w.ownsRow base e 1 v xs.length (xs.map enc)) (hu : Sl enc e0 w b0 u ys)
    (hbytes : (xs.length + ys.length) * bytes ≤ 140737488355328) (hbase : base ≤ w.heap.size)
    (h : ∀ v' w', w'.ownsRow base e 1 v' (xs ++ ys).length ((xs ++ ys).map enc) → w.grownBy w' v.ownBlock → (v' = .slice none 0 0 ↔ v = .slice none 0 0 ∧ ys.length = 0) → wpList P ops Q rest (a.put o.dst v') w') : wpList P ops Q (o :: rest) a w := by
  obtain ⟨i, hi, hz0, hz1, hz2⟩ := info_parts hinfo
  obtain ⟨A, c, rfl, hc, hm, hR⟩ := hu
  have hlen : xs.length + ys.length ≤ 140737488355328 := Nat.le_trans (Nat.le_mul_of_pos_right _ hb0) hbytes
  rcases A with _ | ad
  · have h0 : ys = [] := by
      cases ys with
      | nil => rfl
      | cons y ys => obtain ⟨ad, h1, _⟩ := hR.cell 0 _ rfl; cases h1
    subst h0
    refine wpList_plain hgd fun K hK => ?_
    unfold Oper.wp
    have hv : ∃ A n c, v = .slice A n c ∧ n ≤ c := by
      rcases hown.2 with ⟨rfl, _⟩ | ⟨g, cap, cur, rfl, _, _, h1, _⟩
      · exact ⟨none, 0, 0, rfl, Nat.le_refl _⟩
      · exact ⟨_, _, _, rfl, h1⟩
    obtain ⟨A, n, cv, rfl, hnc⟩ := hv
    have hrun : (Builtin.append_ #[t, t] o.type #[.slice A n cv, .slice none 0 c]).run P w = .ok (.slice A n cv) w := by
      rcases A with _ | A <;> simp [Builtin.append_, run_underlying ht, sizeOf, typeInfo, hi, Builtin.lenOf, Builtin.firstCells, hnc, storeCells]
    unfold execOp
    simp only [ho, resolve, invoke, builtin, Sem.run_bind, Sem.run_pure, Result.andThen_ok, List.map_toArray, List.map_cons, List.map_nil, hs, hx, List.length_nil, hrun]
    exact hK _ _ (h _ w (by simpa using hown) (World.grownBy.refl w _) (by simp))
  · refine wpList_append_own (P := P) (w := w) hgd s x t ho base e i z 1 bytes ht hi hz0 hz1 hz2 hzs (by omega) v xs.length (xs.map enc) hs hown ad ys.length c (ys.map enc) hx (by simp) ?_ ?_ (by simp only [maxLen]; omega) hbytes hbase ?_
    · intro j u hj
      obtain ⟨ad', h1, h2⟩ := hR.cell j u hj
      cases h1; exact h2
    · intro u hu
      obtain ⟨y, _, rfl⟩ := List.mem_map.1 hu
      exact henc y
    · intro v' w' h1 h2 h3
      exact h v' w' (by simpa using h1) h2 h3

set_option maxHeartbeats 400000 in
theorem clone_calls {e : Nat} {b0 : Nat} {v : Value} {x : List UInt8} (w : World) (hv : Sl bv e w b0 v x) (hl : x.length ≤ 140737488355328) :
    Calls Try.prog 40 #[v] w fun e w' => ∃ v', e = .returned v' ∧ w'.ownsRow w.heap.size 5 1 v' x.length (x.map bv) ∧ Below w.heap.size w w' := by
  have HV := Aside0.mk hv
  obtain ⟨A, c, rfl, hc, hm, hR⟩ := hv
  rcases A with _ | ad
  · have h0 : x = [] := by
      cases x with
      | nil => rfl
      | cons y ys => obtain ⟨ad, h1, _⟩ := hR.cell 0 _ rfl; cases h1
    subst h0
    have h1 := Lib.run_eql_slice_nil (P := Try.prog) w 22 5 none 0 c 0 0 Try.underlying22
    clear hR hc HV
    go_enter Try.func40, Try.ntmps40
    go_wp2
    go_ret
    exact ⟨_, rfl, World.ownsRow_nil _ _ _ _, Below.refl _ _⟩
  · have h1 := Lib.run_eql_slice_nil (P := Try.prog) w 22 5 (some ad) x.length c 0 0 Try.underlying22
    clear hR
    have BA : ∀ o : Obj, Below w.heap.size w (w.alloc o) := fun o => (Below.refl _ _).alloc (Nat.le_refl _) _
    have HB := Aside0.mk BA
    clear BA
    go_enter Try.func40, Try.ntmps40
    go_wp2_with (at_builtin; refine append_row bv (fun _ => rfl) rfl (.tmp 5) (.tmp 6) 22 rfl w.heap.size 5 _ _ _ _ Try.underlying22 info_u8 rfl (by decide) _ [] x _ rfl rfl (World.ownsRow_made w #[] 0 (Nat.le_refl _) (by decide) rfl) (HV.out.below (HB.out _)) (by simp; exact hl) (by simp) ?_; intro v' w' hown hg _)
    go_ret
    exact ⟨_, rfl, by simpa using hown, (HB.out _).grown hg (by simp) (fun k hk => by cases hk; exact Nat.le_refl _)⟩
end Go.Proofs.Ytdikconhdbopdaa
