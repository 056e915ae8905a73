/-
  'clear' of a part of a row of structs; a struct of four cells stored in a row. No condition.
-/
import Derived.Test.YtmpmngfimeojhaaRecs
import Derived.Lib.SliceRun
import Derived.Lib.SmallJoins
import Derived.Laws.OwnMore
namespace Go.Proofs.Ytmpmngfimeojhaa
open Go.RowKit Go.Joins
set_option linter.unusedVariables false
set_option linter.unusedSimpArgs false

theorem setCells_block {g t : Nat} {fr : Nat × Nat} : ∀ (vs : List Value) (o : Nat) (w : World) (cur : Array Value), w.heap[g]? = some (.cells cur t fr) →
    ∃ cur', (w.setCells g o vs).heap[g]? = some (.cells cur' t fr) ∧ cur'.size = cur.size ∧ ∀ j, j < o → cur'[j]? = cur[j]?
  | [], o, w, cur, h => ⟨cur, h, rfl, fun _ _ => rfl⟩
  | v :: vs, o, w, cur, h => by
    obtain ⟨cur', h1, h2, h3⟩ := setCells_block vs (o + 1) (w.setCell ⟨g, o, none⟩ v) (cur.setIfInBounds o v) (block_setCell h v)
    refine ⟨cur', h1, by rw [h2, Array.size_setIfInBounds], fun j hj => ?_⟩
    rw [h3 j (by omega), Array.getElem?_setIfInBounds_ne (by omega)]
theorem setCells_grown {g : Nat} : ∀ (vs : List Value) (o : Nat) (w : World), w.grownBy (w.setCells g o vs) (some g)
  | [], o, w => World.grownBy.refl w _
  | v :: vs, o, w => by
    have h1 := setCells_grown (g := g) vs (o + 1) (w.setCell ⟨g, o, none⟩ v)
    have h0 : w.grownBy (w.setCell ⟨g, o, none⟩ v) (some g) := ⟨rfl, rfl, rfl, by simp, fun k hk hne => Below.heap_setCell w ⟨g, o, none⟩ v k (fun e => hne (by rw [e]))⟩
    exact ⟨h1.os.trans h0.os, h1.tape.trans h0.tape, h1.output.trans h0.output, Nat.le_trans h0.size h1.size, fun i hi hr => (h1.block i (Nat.lt_of_lt_of_le hi h0.size) hr).trans (h0.block i hi hr)⟩
theorem setCells_at {g t : Nat} {fr : Nat × Nat} : ∀ (vs : List Value) (o : Nat) (w : World) (cur : Array Value), w.heap[g]? = some (.cells cur t fr) → o + vs.length ≤ cur.size →
    ∃ cur', (w.setCells g o vs).heap[g]? = some (.cells cur' t fr) ∧ cur'.size = cur.size ∧ cur'.toList = cur.toList.take o ++ vs ++ cur.toList.drop (o + vs.length)
  | [], o, w, cur, h, _ => ⟨cur, h, rfl, by simp⟩
  | v :: vs, o, w, cur, h, hl => by
    rw [List.length_cons] at hl
    obtain ⟨cur', h1, h2, h3⟩ := setCells_at vs (o + 1) (w.setCell ⟨g, o, none⟩ v) (cur.setIfInBounds o v) (block_setCell h v) (by rw [Array.size_setIfInBounds]; omega)
    refine ⟨cur', h1, by rw [h2, Array.size_setIfInBounds], ?_⟩
    have hlt : o < cur.toList.length := by rw [Array.length_toList]; omega
    rw [h3, Array.toList_setIfInBounds, List.drop_set_of_lt (by omega), List.take_succ_eq_append_getElem (by rw [List.length_set]; exact hlt), List.take_set_of_le (Nat.le_refl _), List.length_cons]
    simp [Nat.add_assoc, Nat.add_comm 1]
/-- The first part of a row stays where what is behind it is cleared. -/
theorem own_cleared {w : World} {base e size n i g cap : Nat} {xs : List Value} (vs : List Value) (h : w.ownsRow base e size (.slice (some ⟨g, 0, none⟩) n cap) n xs) (hi : i ≤ n) :
    (w.setCells g (i * size) vs).ownsRow base e size (.slice (some ⟨g, 0, none⟩) i cap) i (xs.take (i * size)) := by
  obtain ⟨hl, h2⟩ := h
  have hle : i * size ≤ n * size := Nat.mul_le_mul_right _ hi
  refine ⟨by rw [List.length_take]; omega, ?_⟩
  rcases h2 with ⟨h', _⟩ | ⟨g', cap', cur, h', hb, hg, hnc, hcm, hcs, htake⟩
  · cases h'
  · cases h'
    obtain ⟨cur', h1, h2, h3⟩ := setCells_block vs (i * size) w cur hg
    refine .inr ⟨g, cap, cur', rfl, hb, h1, by omega, hcm, by rw [h2, hcs], ?_⟩
    apply List.ext_getElem?
    intro j
    rw [← htake, List.getElem?_take, List.getElem?_take, List.getElem?_take]
    split
    · rw [if_pos (by omega)]; simpa using h3 j (by omega)
    · rfl
theorem set4 (a b c d : Value) : ∀ (l : List Value) (i : Nat), i + 4 ≤ l.length → (((l.set i a).set (i + 1) b).set (i + 2) c).set (i + 3) d = l.take i ++ [a, b, c, d] ++ l.drop (i + 4)
  | w :: x :: y :: z :: l, 0, _ => rfl
  | w :: l, i + 1, h => by
    have := set4 a b c d l i (by simpa using h)
    rw [List.set_cons_succ, show i + 1 + 1 = (i + 1) + 1 from rfl, List.set_cons_succ, show i + 1 + 2 = (i + 2) + 1 by omega, List.set_cons_succ, show i + 1 + 3 = (i + 3) + 1 by omega, List.set_cons_succ, this, show i + 1 + 4 = (i + 4) + 1 by omega]
    rfl
  | [], 0, h => by simp at h
  | [_], 0, h => by simp at h
  | [_, _], 0, h => by simp at h
  | [_, _, _], 0, h => by simp at h
/-- A struct of four cells is stored in a row. -/
theorem own_set4 {α : Type} {cells : α → List Value} (hk : ∀ x, (cells x).length = 4) {w : World} {base e g cap : Nat} {xs : List α} {y : α} {a b c d : Value} (hy : cells y = [a, b, c, d]) (h : w.ownsRow base e 4 (.slice (some ⟨g, 0, none⟩) xs.length cap) xs.length (xs.flatMap cells)) (i : Nat) (hi : i < xs.length) :
    ((((w.setCell ⟨g, i * 4, none⟩ a).setCell ⟨g, i * 4 + 1, none⟩ b).setCell ⟨g, i * 4 + 2, none⟩ c).setCell ⟨g, i * 4 + 3, none⟩ d).ownsRow base e 4 (.slice (some ⟨g, 0, none⟩) xs.length cap) xs.length ((xs.set i y).flatMap cells) ∧
      w.grownBy ((((w.setCell ⟨g, i * 4, none⟩ a).setCell ⟨g, i * 4 + 1, none⟩ b).setCell ⟨g, i * 4 + 2, none⟩ c).setCell ⟨g, i * 4 + 3, none⟩ d) (some g) := by
  obtain ⟨h1, g1⟩ := h.stored (i * 4) a
  obtain ⟨h2, g2⟩ := h1.stored (i * 4 + 1) b
  obtain ⟨h3, g3⟩ := h2.stored (i * 4 + 2) c
  obtain ⟨h4, g4⟩ := h3.stored (i * 4 + 3) d
  have hl := flat_len hk xs
  rw [set4 a b c d _ _ (by rw [hl]; omega)] at h4
  rw [flat_set hk xs i y hi, hy]
  refine ⟨h4, ?_⟩
  have tr : ∀ {x y z : World}, x.grownBy y (some g) → y.grownBy z (some g) → x.grownBy z (some g) := fun h k => ⟨k.os.trans h.os, k.tape.trans h.tape, k.output.trans h.output, Nat.le_trans h.size k.size, fun i hi hr => (k.block i (Nat.lt_of_lt_of_le hi h.size) hr).trans (h.block i hi hr)⟩
  exact tr (tr (tr g1 g2) g3) g4

theorem run_clear_row {P : Program} {t e ty : TypeId} {z : Value} {k : Nat} (ht : P.underlying t = some (.slice e)) (hv : ∀ w, (zeroValue e).run P w = .ok z w) (hz : z.cells.size = k) (hk0 : 0 < k) (h1 : ∀ v ∈ z.cells.toList, v.oneCell' = true)
    {w : World} {g o n c : Nat} (hn : 0 < n) (hc : ∀ j, j < n * k → (w.cell? ⟨g, o + j, none⟩).isSome = true) (hf : ∀ j, j < n * k → w.frozen? ⟨g, o + j, none⟩ = false) :
    (Builtin.clear_ #[t] ty #[.slice (some ⟨g, o, none⟩) n c]).run P w = .ok (.tuple #[]) (w.setCells g o (Builtin.zeroCells z.cells n).toList) := by
  have hl : (Builtin.zeroCells z.cells n).toList.length = n * k := by simp [Builtin.zeroCells, hz]
  have hst := run_storeCells_cells (P := P) g o (Builtin.zeroCells z.cells n).toList 0 w (by rw [hl]; simpa using hc) (by rw [hl]; simpa using hf) (by
    intro v hv'
    simp only [Builtin.zeroCells, Array.toList_map, List.mem_map] at hv'
    obtain ⟨i, _, rfl⟩ := hv'
    have hlt : i % z.cells.size < z.cells.size := Nat.mod_lt _ (by omega)
    rw [getElem!_pos z.cells _ hlt]
    exact h1 _ (by simp))
  simp only [Nat.add_zero] at hst
  obtain ⟨m, rfl⟩ : ∃ m, n = m + 1 := ⟨n - 1, by omega⟩
  simp [Builtin.clear_, run_underlying ht, hv, hst]
theorem zero_of_info {P : Program} {t : TypeId} {z : Value} {a b : Nat} (h : (P.info? t).map (fun i => (i.zero, i.size, i.bytes)) = some (some z, a, b)) : ∀ w, (zeroValue t).run P w = .ok z w := by
  obtain ⟨i0, hi, hz0, -, -⟩ := info_parts h
  intro w
  simp [zeroValue, typeInfo, hi, hz0]
/-- At the operation. -/
theorem wpList_clear_row {P : Program} {ops : Array Oper} {rest : List Oper} {o : Oper} {a : Act} {Q : Exit → Act → World → Prop} {w : World} (hgd : o.guard = none) (x : Operand) (t : TypeId) (ho : o.op = .call { callee := .builtin .clear, args := #[x], argTypes := #[t] })
    {e : TypeId} {z : Value} {k : Nat} (ht : P.underlying t = some (.slice e)) (hv : ∀ w, (zeroValue e).run P w = .ok z w) (hz : z.cells.size = k) (hk0 : 0 < k) (h1 : ∀ v ∈ z.cells.toList, v.oneCell' = true)
    (g off n c : Nat) (hx : a.eval x = .slice (some ⟨g, off, none⟩) n c) (hn : 0 < n) (hc : ∀ j, j < n * k → (w.cell? ⟨g, off + j, none⟩).isSome = true) (hf : ∀ j, j < n * k → w.frozen? ⟨g, off + j, none⟩ = false)
    (h : wpList P ops Q rest (a.put o.dst (.tuple #[])) (w.setCells g off (Builtin.zeroCells z.cells n).toList)) : wpList P ops Q (o :: rest) a w := by
  refine wpList_plain hgd fun K hK => ?_
  have hr := run_clear_row (P := P) (ty := o.type) ht hv hz hk0 h1 (w := w) (c := c) hn hc hf
  unfold Oper.wp execOp
  simp only [ho, resolve, invoke, builtin, Sem.run_bind, Sem.run_pure, Result.andThen_ok, List.map_toArray, List.map_cons, List.map_nil, hx, hr]
  exact hK _ _ h
end Go.Proofs.Ytmpmngfimeojhaa
