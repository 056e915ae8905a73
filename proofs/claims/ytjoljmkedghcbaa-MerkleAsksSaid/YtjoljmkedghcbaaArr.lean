/-
  A whole array that lies in a block of its own: loaded, stored, an element stored. No condition.
-/
import Derived.Test.YtjoljmkedghcbaaBase
import Derived.Deep.MidRow
import Derived.Laws.Rows
namespace Go.Proofs.Ytjoljmkedghcbaa
open Go.RowKit
set_option linter.unusedVariables false
set_option linter.unusedSimpArgs false

theorem arr_set {w : World} {g e i : Nat} {cur : Array Value} {fr : Nat × Nat} {u : Value} (h : w.heap[g]? = some (.cells cur e fr)) : (w.setCell ⟨g, i, none⟩ u).heap[g]? = some (.cells (cur.setIfInBounds i u) e fr) := by
  simp [World.setCell, Array.getElem?_modify, h]
theorem arrs_grown {g : Nat} : ∀ (vs : List Value) (o : Nat) (w : World), w.grownBy (w.setCells g o vs) (some g)
  | [], o, w => World.grownBy.refl w _
  | v :: vs, o, w => by
    have h1 := arrs_grown (g := g) vs (o + 1) (w.setCell ⟨g, o, none⟩ v)
    have h0 : w.grownBy (w.setCell ⟨g, o, none⟩ v) (some g) := ⟨rfl, rfl, rfl, by simp, fun k hk hne => Below.heap_setCell w ⟨g, o, none⟩ v k (fun e => hne (by rw [e]))⟩
    exact ⟨h1.os.trans h0.os, h1.tape.trans h0.tape, h1.output.trans h0.output, Nat.le_trans h0.size h1.size, fun i hi hr => (h1.block i (Nat.lt_of_lt_of_le hi h0.size) hr).trans (h0.block i hi hr)⟩
theorem arrs_at {g t : Nat} {fr : Nat × Nat} : ∀ (vs : List Value) (o : Nat) (w : World) (cur : Array Value), w.heap[g]? = some (.cells cur t fr) → o + vs.length ≤ cur.size →
    ∃ cur', (w.setCells g o vs).heap[g]? = some (.cells cur' t fr) ∧ cur'.size = cur.size ∧ cur'.toList = cur.toList.take o ++ vs ++ cur.toList.drop (o + vs.length)
  | [], o, w, cur, h, _ => ⟨cur, h, rfl, by simp⟩
  | v :: vs, o, w, cur, h, hl => by
    rw [List.length_cons] at hl
    obtain ⟨cur', h1, h2, h3⟩ := arrs_at vs (o + 1) (w.setCell ⟨g, o, none⟩ v) (cur.setIfInBounds o v) (arr_set h) (by rw [Array.size_setIfInBounds]; omega)
    refine ⟨cur', h1, by rw [h2, Array.size_setIfInBounds], ?_⟩
    have hlt : o < cur.toList.length := by rw [Array.length_toList]; omega
    rw [h3, Array.toList_setIfInBounds, List.drop_set_of_lt (by omega), List.take_succ_eq_append_getElem (by rw [List.length_set]; exact hlt), List.take_set_of_le (Nat.le_refl _), List.length_cons]
    simp [Nat.add_assoc, Nat.add_comm 1]
theorem arr_whole {w : World} {g t : Nat} {fr : Nat × Nat} {cur cells : Array Value} (h : w.heap[g]? = some (.cells cur t fr)) (hs : cur.size = cells.size) : (w.setCells g 0 cells.toList).heap[g]? = some (.cells cells t fr) := by
  obtain ⟨cur', h1, h2, h3⟩ := arrs_at cells.toList 0 w cur h (by simp; omega)
  rw [h1]
  have : cur' = cells := by
    apply Array.ext'
    rw [h3, List.take_zero, List.nil_append, List.drop_eq_nil_of_le (by simp; omega), List.append_nil]
  rw [this]
theorem arr_there {w : World} {g t : Nat} {cur : Array Value} (h : w.heap[g]? = some (.cells cur t (0, 0))) : w.there g 0 cur.size := by
  intro j hj
  obtain ⟨h1, h2⟩ := blk h
  rw [Nat.zero_add]
  exact ⟨by rw [h1, Array.getElem?_eq_getElem hj]; rfl, h2 j⟩

/-- An array is stored whole. -/
theorem wpList_store_arr {P : Program} {ops : Array Oper} {rest : List Oper} {op : Oper} {a : Act} {w : World} {Q : Exit → Act → World → Prop} (hgd : op.guard = none) (ty : TypeId) (x y : Operand) (ho : op.op = .store ty x y)
    (b : Nat) (cells cur : Array Value) (t : TypeId) (hx : a.eval x = .pointer (some ⟨b, 0, none⟩)) (hy : a.eval y = .agg cells)
    (hg : w.heap[b]? = some (.cells cur t (0, 0))) (hs : cur.size = cells.size) (hi : (P.info? ty).map (·.size) = some cells.size) (h1 : cells.all (·.oneCell') = true)
    (h : ∀ w', w'.heap[b]? = some (.cells cells t (0, 0)) → w.grownBy w' (some b) → wpList P ops Q rest (a.put op.dst undef) w') : wpList P ops Q (op :: rest) a w :=
  wpList_store_mid hgd ty x y ho b 0 cells hx hy (by rw [← hs]; exact arr_there hg) hi h1 (h _ (arr_whole hg hs) (arrs_grown _ _ _))
theorem wp_store_arr {P : Program} {op : Oper} {a : Act} {w : World} {K : Act → World → Prop} {Q : Exit → Act → World → Prop} (ty : TypeId) (x y : Operand) (ho : op.op = .store ty x y)
    (b : Nat) (cells cur : Array Value) (t : TypeId) (hx : a.eval x = .pointer (some ⟨b, 0, none⟩)) (hy : a.eval y = .agg cells)
    (hg : w.heap[b]? = some (.cells cur t (0, 0))) (hs : cur.size = cells.size) (hi : (P.info? ty).map (·.size) = some cells.size) (h1 : cells.all (·.oneCell') = true)
    (h : ∀ w', w'.heap[b]? = some (.cells cells t (0, 0)) → w.grownBy w' (some b) → K (a.put op.dst undef) w') : op.wp P a w K Q :=
  wp_store_mid ty x y ho b 0 cells hx hy (by rw [← hs]; exact arr_there hg) hi h1 (h _ (arr_whole hg hs) (arrs_grown _ _ _))
theorem arr_part {w : World} {g t o : Nat} {fr : Nat × Nat} {cur cells : Array Value} (h : w.heap[g]? = some (.cells cur t fr)) (hs : o + cells.size ≤ cur.size) : (w.setCells g o cells.toList).heap[g]? = some (.cells (cur.toList.take o ++ cells.toList ++ cur.toList.drop (o + cells.size)).toArray t fr) := by
  obtain ⟨cur', h1, h2, h3⟩ := arrs_at cells.toList o w cur h (by simpa using hs)
  rw [h1]
  have : cur' = (cur.toList.take o ++ cells.toList ++ cur.toList.drop (o + cells.size)).toArray := by
    apply Array.ext'
    rw [h3, Array.length_toList]
  rw [this]
theorem arr_there_at {w : World} {g t o n : Nat} {cur : Array Value} (h : w.heap[g]? = some (.cells cur t (0, 0))) (hn : o + n ≤ cur.size) : w.there g o n := by
  intro j hj
  obtain ⟨h1, h2⟩ := blk h
  exact ⟨by rw [h1, Array.getElem?_eq_getElem (by omega)]; rfl, h2 _⟩
/-- An array is stored in the midst of a block. -/
theorem wpList_store_part {P : Program} {ops : Array Oper} {rest : List Oper} {op : Oper} {a : Act} {w : World} {Q : Exit → Act → World → Prop} (hgd : op.guard = none) (ty : TypeId) (x y : Operand) (ho : op.op = .store ty x y)
    (b o : Nat) (cells cur : Array Value) (t : TypeId) (hx : a.eval x = .pointer (some ⟨b, o, none⟩)) (hy : a.eval y = .agg cells)
    (hg : w.heap[b]? = some (.cells cur t (0, 0))) (hs : o + cells.size ≤ cur.size) (hi : (P.info? ty).map (·.size) = some cells.size) (h1 : cells.all (·.oneCell') = true)
    (h : ∀ w', w'.heap[b]? = some (.cells (cur.toList.take o ++ cells.toList ++ cur.toList.drop (o + cells.size)).toArray t (0, 0)) → w.grownBy w' (some b) → wpList P ops Q rest (a.put op.dst undef) w') : wpList P ops Q (op :: rest) a w :=
  wpList_store_mid hgd ty x y ho b o cells hx hy (arr_there_at hg hs) hi h1 (h _ (arr_part hg hs) (arrs_grown _ _ _))
end Go.Proofs.Ytjoljmkedghcbaa
