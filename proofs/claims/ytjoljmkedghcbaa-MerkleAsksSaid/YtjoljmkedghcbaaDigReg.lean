/-
  The first statement of 'step': constants, schedule and state are laid into variables, in whatever order. No condition but that the slice has 64 bytes.
-/
import Derived.Test.YtjoljmkedghcbaaDigConst
import Derived.Test.YtjoljmkedghcbaaRegInv
namespace Go.Proofs.Ytjoljmkedghcbaa
open Go.RowKit
set_option linter.unusedVariables false
set_option linter.unusedSimpArgs false

def Zs (n : Nat) : Array Value := (List.replicate n (Value.int .u32 0)).toArray
def KsA : Array Value := (Ks.map qv).toArray
def scA (x : List UInt8) : Array Value := ((sched x 64).map qv).toArray
theorem alloc_arr (w : World) : (Instr.alloc 59 true (.tuple #[])).run Try.prog w = .ok (.pointer (some ⟨w.heap.size, 0, none⟩)) (w.alloc (.cells (Zs 64) 59)) := by kernel_rfl
theorem alloc_st (w : World) : (Instr.alloc 54 true (.tuple #[])).run Try.prog w = .ok (.pointer (some ⟨w.heap.size, 0, none⟩)) (w.alloc (.cells (Zs 8) 54)) := by kernel_rfl
theorem size_KsA : KsA.size = 64 := by kernel_rfl
theorem size_scA (x : List UInt8) : (scA x).size = 64 := by unfold scA; rw [List.size_toArray, List.length_map, sched_length]
theorem size_Zs (n : Nat) : (Zs n).size = n := by unfold Zs; simp
theorem size_vs (s : St) : s.vs.size = 8 := rfl
theorem one_vs (s : St) : s.vs.all (·.oneCell') = true := by simp [St.vs, qv, Value.oneCell']

theorem getD_tf {l : Array Bool} {i : Nat} (h : l.getD i true = false) : l.getD i false = false := by
  rw [Array.getD_eq_getD_getElem?] at h ⊢
  cases hq : l[i]? with
  | none => rw [hq] at h; cases h
  | some b => rw [hq] at h; exact h
theorem getD_tt {l : Array Bool} {i : Nat} (hi : i < l.size) (h : l.getD i true = true) : l.getD i false = true := by
  rw [Array.getD_eq_getD_getElem?] at h ⊢
  rw [Array.getElem?_eq_getElem hi] at h ⊢
  exact h
/-- What stands while the statement goes on. -/
structure StepI (a0 : Act) (W : World) (s : St) (v : Value) (x : List UInt8) (l : Array Bool) (a : Act) (w : World) : Prop where
  sz : l.size = 10
  tsz : a.tmps.size = 111
  dfs : a.defers = a0.defers
  same : ∀ t : Nat, t ≠ 5 → t ≠ 6 → t ≠ 7 → t ≠ 14 → t ≠ 15 → t ≠ 16 → t ≠ 17 → a.tmps[t]? = a0.tmps[t]?
  s14 : l.getD 0 false = true → a.tmps[14]? = some (.agg KsA)
  s15 : l.getD 1 false = true → a.tmps[15]? = some v
  s16 : l.getD 2 false = true → a.tmps[16]? = some (.agg (scA x))
  s17 : l.getD 3 false = true → a.tmps[17]? = some (.agg s.vs)
  blocks : ∃ g5 g6 g7 : Nat,
    (l.getD 4 false = true → a.tmps[5]? = some (.pointer (some ⟨g5, 0, none⟩)) ∧ W.heap.size ≤ g5 ∧ w.heap[g5]? = some (.cells (if l.getD 7 false = true then KsA else Zs 64) 59 (0, 0))) ∧
    (l.getD 5 false = true → a.tmps[6]? = some (.pointer (some ⟨g6, 0, none⟩)) ∧ W.heap.size ≤ g6 ∧ w.heap[g6]? = some (.cells (if l.getD 8 false = true then scA x else Zs 64) 59 (0, 0))) ∧
    (l.getD 6 false = true → a.tmps[7]? = some (.pointer (some ⟨g7, 0, none⟩)) ∧ W.heap.size ≤ g7 ∧ w.heap[g7]? = some (.cells (if l.getD 9 false = true then s.vs else Zs 8) 54 (0, 0))) ∧
    (l.getD 4 false = true → l.getD 5 false = true → g5 ≠ g6) ∧ (l.getD 4 false = true → l.getD 6 false = true → g5 ≠ g7) ∧ (l.getD 5 false = true → l.getD 6 false = true → g6 ≠ g7)
  low : Below W.heap.size W w
  o7 : l.getD 7 false = true → l.getD 4 false = true
  o8 : l.getD 8 false = true → l.getD 5 false = true
  o9 : l.getD 9 false = true → l.getD 6 false = true

/-- The world goes on below what is there. -/
theorem StepI.go {a0 : Act} {W : World} {s : St} {v : Value} {x : List UInt8} {l : Array Bool} {a : Act} {w w' : World} (h : StepI a0 W s v x l a w) (hb : Below w.heap.size w w') : StepI a0 W s v x l a w' := by
  obtain ⟨g5, g6, g7, h5, h6, h7, hr⟩ := h.blocks
  exact { h with
    blocks := ⟨g5, g6, g7, fun k => ⟨(h5 k).1, (h5 k).2.1, below_heap hb (h5 k).2.2⟩, fun k => ⟨(h6 k).1, (h6 k).2.1, below_heap hb (h6 k).2.2⟩, fun k => ⟨(h7 k).1, (h7 k).2.1, below_heap hb (h7 k).2.2⟩, hr⟩
    low := below_then h.low h.low.size hb }
theorem StepI.m0 {a0 : Act} {W : World} {s : St} {v : Value} {x : List UInt8} {l : Array Bool} {a : Act} {w : World} (h : StepI a0 W s v x l a w) : StepI a0 W s v x (l.setIfInBounds 0 true) (a.put (some 14) (.agg KsA)) w := by
  obtain ⟨g5, g6, g7, h5, h6, h7, d1, d2, d3⟩ := h.blocks
  exact {
    sz := by rw [Array.size_setIfInBounds]; exact h.sz
    tsz := by rw [put_size]; exact h.tsz
    dfs := by rw [put_defs]; exact h.dfs
    same := fun t k5 k6 k7 k14 k15 k16 k17 => by rw [put_at _ _ _ (by rw [h.tsz]; decide), if_neg (fun e => k14 e.symm)]; exact h.same t k5 k6 k7 k14 k15 k16 k17
    s14 := fun _ => by rw [put_at _ _ _ (by rw [h.tsz]; decide), if_pos rfl]
    s15 := fun k => by rw [put_at _ _ _ (by rw [h.tsz]; decide), if_neg (by decide)]; exact h.s15 (by rwa [getD_set_ne false (show 0 ≠ 1 by decide)] at k)
    s16 := fun k => by rw [put_at _ _ _ (by rw [h.tsz]; decide), if_neg (by decide)]; exact h.s16 (by rwa [getD_set_ne false (show 0 ≠ 2 by decide)] at k)
    s17 := fun k => by rw [put_at _ _ _ (by rw [h.tsz]; decide), if_neg (by decide)]; exact h.s17 (by rwa [getD_set_ne false (show 0 ≠ 3 by decide)] at k)
    o7 := fun k => getD_set_true (h.o7 (by rwa [getD_set_ne false (show 0 ≠ 7 by decide)] at k))
    o8 := fun k => getD_set_true (h.o8 (by rwa [getD_set_ne false (show 0 ≠ 8 by decide)] at k))
    o9 := fun k => getD_set_true (h.o9 (by rwa [getD_set_ne false (show 0 ≠ 9 by decide)] at k))
    blocks := ⟨g5, g6, g7, fun k => by rw [put_at _ _ _ (by rw [h.tsz]; decide), if_neg (by decide), getD_set_ne false (show 0 ≠ 7 by decide)]; exact h5 (by rwa [getD_set_ne false (show 0 ≠ 4 by decide)] at k), fun k => by rw [put_at _ _ _ (by rw [h.tsz]; decide), if_neg (by decide), getD_set_ne false (show 0 ≠ 8 by decide)]; exact h6 (by rwa [getD_set_ne false (show 0 ≠ 5 by decide)] at k), fun k => by rw [put_at _ _ _ (by rw [h.tsz]; decide), if_neg (by decide), getD_set_ne false (show 0 ≠ 9 by decide)]; exact h7 (by rwa [getD_set_ne false (show 0 ≠ 6 by decide)] at k), fun k k2 => d1 (by rwa [getD_set_ne false (show 0 ≠ 4 by decide)] at k) (by rwa [getD_set_ne false (show 0 ≠ 5 by decide)] at k2), fun k k2 => d2 (by rwa [getD_set_ne false (show 0 ≠ 4 by decide)] at k) (by rwa [getD_set_ne false (show 0 ≠ 6 by decide)] at k2), fun k k2 => d3 (by rwa [getD_set_ne false (show 0 ≠ 5 by decide)] at k) (by rwa [getD_set_ne false (show 0 ≠ 6 by decide)] at k2)⟩
    low := h.low }
theorem StepI.m1 {a0 : Act} {W : World} {s : St} {v : Value} {x : List UInt8} {l : Array Bool} {a : Act} {w : World} (h : StepI a0 W s v x l a w) : StepI a0 W s v x (l.setIfInBounds 1 true) (a.put (some 15) (v)) w := by
  obtain ⟨g5, g6, g7, h5, h6, h7, d1, d2, d3⟩ := h.blocks
  exact {
    sz := by rw [Array.size_setIfInBounds]; exact h.sz
    tsz := by rw [put_size]; exact h.tsz
    dfs := by rw [put_defs]; exact h.dfs
    same := fun t k5 k6 k7 k14 k15 k16 k17 => by rw [put_at _ _ _ (by rw [h.tsz]; decide), if_neg (fun e => k15 e.symm)]; exact h.same t k5 k6 k7 k14 k15 k16 k17
    s14 := fun k => by rw [put_at _ _ _ (by rw [h.tsz]; decide), if_neg (by decide)]; exact h.s14 (by rwa [getD_set_ne false (show 1 ≠ 0 by decide)] at k)
    s15 := fun _ => by rw [put_at _ _ _ (by rw [h.tsz]; decide), if_pos rfl]
    s16 := fun k => by rw [put_at _ _ _ (by rw [h.tsz]; decide), if_neg (by decide)]; exact h.s16 (by rwa [getD_set_ne false (show 1 ≠ 2 by decide)] at k)
    s17 := fun k => by rw [put_at _ _ _ (by rw [h.tsz]; decide), if_neg (by decide)]; exact h.s17 (by rwa [getD_set_ne false (show 1 ≠ 3 by decide)] at k)
    o7 := fun k => getD_set_true (h.o7 (by rwa [getD_set_ne false (show 1 ≠ 7 by decide)] at k))
    o8 := fun k => getD_set_true (h.o8 (by rwa [getD_set_ne false (show 1 ≠ 8 by decide)] at k))
    o9 := fun k => getD_set_true (h.o9 (by rwa [getD_set_ne false (show 1 ≠ 9 by decide)] at k))
    blocks := ⟨g5, g6, g7, fun k => by rw [put_at _ _ _ (by rw [h.tsz]; decide), if_neg (by decide), getD_set_ne false (show 1 ≠ 7 by decide)]; exact h5 (by rwa [getD_set_ne false (show 1 ≠ 4 by decide)] at k), fun k => by rw [put_at _ _ _ (by rw [h.tsz]; decide), if_neg (by decide), getD_set_ne false (show 1 ≠ 8 by decide)]; exact h6 (by rwa [getD_set_ne false (show 1 ≠ 5 by decide)] at k), fun k => by rw [put_at _ _ _ (by rw [h.tsz]; decide), if_neg (by decide), getD_set_ne false (show 1 ≠ 9 by decide)]; exact h7 (by rwa [getD_set_ne false (show 1 ≠ 6 by decide)] at k), fun k k2 => d1 (by rwa [getD_set_ne false (show 1 ≠ 4 by decide)] at k) (by rwa [getD_set_ne false (show 1 ≠ 5 by decide)] at k2), fun k k2 => d2 (by rwa [getD_set_ne false (show 1 ≠ 4 by decide)] at k) (by rwa [getD_set_ne false (show 1 ≠ 6 by decide)] at k2), fun k k2 => d3 (by rwa [getD_set_ne false (show 1 ≠ 5 by decide)] at k) (by rwa [getD_set_ne false (show 1 ≠ 6 by decide)] at k2)⟩
    low := h.low }
theorem StepI.m2 {a0 : Act} {W : World} {s : St} {v : Value} {x : List UInt8} {l : Array Bool} {a : Act} {w : World} (h : StepI a0 W s v x l a w) : StepI a0 W s v x (l.setIfInBounds 2 true) (a.put (some 16) (.agg (scA x))) w := by
  obtain ⟨g5, g6, g7, h5, h6, h7, d1, d2, d3⟩ := h.blocks
  exact {
    sz := by rw [Array.size_setIfInBounds]; exact h.sz
    tsz := by rw [put_size]; exact h.tsz
    dfs := by rw [put_defs]; exact h.dfs
    same := fun t k5 k6 k7 k14 k15 k16 k17 => by rw [put_at _ _ _ (by rw [h.tsz]; decide), if_neg (fun e => k16 e.symm)]; exact h.same t k5 k6 k7 k14 k15 k16 k17
    s14 := fun k => by rw [put_at _ _ _ (by rw [h.tsz]; decide), if_neg (by decide)]; exact h.s14 (by rwa [getD_set_ne false (show 2 ≠ 0 by decide)] at k)
    s15 := fun k => by rw [put_at _ _ _ (by rw [h.tsz]; decide), if_neg (by decide)]; exact h.s15 (by rwa [getD_set_ne false (show 2 ≠ 1 by decide)] at k)
    s16 := fun _ => by rw [put_at _ _ _ (by rw [h.tsz]; decide), if_pos rfl]
    s17 := fun k => by rw [put_at _ _ _ (by rw [h.tsz]; decide), if_neg (by decide)]; exact h.s17 (by rwa [getD_set_ne false (show 2 ≠ 3 by decide)] at k)
    o7 := fun k => getD_set_true (h.o7 (by rwa [getD_set_ne false (show 2 ≠ 7 by decide)] at k))
    o8 := fun k => getD_set_true (h.o8 (by rwa [getD_set_ne false (show 2 ≠ 8 by decide)] at k))
    o9 := fun k => getD_set_true (h.o9 (by rwa [getD_set_ne false (show 2 ≠ 9 by decide)] at k))
    blocks := ⟨g5, g6, g7, fun k => by rw [put_at _ _ _ (by rw [h.tsz]; decide), if_neg (by decide), getD_set_ne false (show 2 ≠ 7 by decide)]; exact h5 (by rwa [getD_set_ne false (show 2 ≠ 4 by decide)] at k), fun k => by rw [put_at _ _ _ (by rw [h.tsz]; decide), if_neg (by decide), getD_set_ne false (show 2 ≠ 8 by decide)]; exact h6 (by rwa [getD_set_ne false (show 2 ≠ 5 by decide)] at k), fun k => by rw [put_at _ _ _ (by rw [h.tsz]; decide), if_neg (by decide), getD_set_ne false (show 2 ≠ 9 by decide)]; exact h7 (by rwa [getD_set_ne false (show 2 ≠ 6 by decide)] at k), fun k k2 => d1 (by rwa [getD_set_ne false (show 2 ≠ 4 by decide)] at k) (by rwa [getD_set_ne false (show 2 ≠ 5 by decide)] at k2), fun k k2 => d2 (by rwa [getD_set_ne false (show 2 ≠ 4 by decide)] at k) (by rwa [getD_set_ne false (show 2 ≠ 6 by decide)] at k2), fun k k2 => d3 (by rwa [getD_set_ne false (show 2 ≠ 5 by decide)] at k) (by rwa [getD_set_ne false (show 2 ≠ 6 by decide)] at k2)⟩
    low := h.low }
theorem StepI.m3 {a0 : Act} {W : World} {s : St} {v : Value} {x : List UInt8} {l : Array Bool} {a : Act} {w : World} (h : StepI a0 W s v x l a w) : StepI a0 W s v x (l.setIfInBounds 3 true) (a.put (some 17) (.agg s.vs)) w := by
  obtain ⟨g5, g6, g7, h5, h6, h7, d1, d2, d3⟩ := h.blocks
  exact {
    sz := by rw [Array.size_setIfInBounds]; exact h.sz
    tsz := by rw [put_size]; exact h.tsz
    dfs := by rw [put_defs]; exact h.dfs
    same := fun t k5 k6 k7 k14 k15 k16 k17 => by rw [put_at _ _ _ (by rw [h.tsz]; decide), if_neg (fun e => k17 e.symm)]; exact h.same t k5 k6 k7 k14 k15 k16 k17
    s14 := fun k => by rw [put_at _ _ _ (by rw [h.tsz]; decide), if_neg (by decide)]; exact h.s14 (by rwa [getD_set_ne false (show 3 ≠ 0 by decide)] at k)
    s15 := fun k => by rw [put_at _ _ _ (by rw [h.tsz]; decide), if_neg (by decide)]; exact h.s15 (by rwa [getD_set_ne false (show 3 ≠ 1 by decide)] at k)
    s16 := fun k => by rw [put_at _ _ _ (by rw [h.tsz]; decide), if_neg (by decide)]; exact h.s16 (by rwa [getD_set_ne false (show 3 ≠ 2 by decide)] at k)
    s17 := fun _ => by rw [put_at _ _ _ (by rw [h.tsz]; decide), if_pos rfl]
    o7 := fun k => getD_set_true (h.o7 (by rwa [getD_set_ne false (show 3 ≠ 7 by decide)] at k))
    o8 := fun k => getD_set_true (h.o8 (by rwa [getD_set_ne false (show 3 ≠ 8 by decide)] at k))
    o9 := fun k => getD_set_true (h.o9 (by rwa [getD_set_ne false (show 3 ≠ 9 by decide)] at k))
    blocks := ⟨g5, g6, g7, fun k => by rw [put_at _ _ _ (by rw [h.tsz]; decide), if_neg (by decide), getD_set_ne false (show 3 ≠ 7 by decide)]; exact h5 (by rwa [getD_set_ne false (show 3 ≠ 4 by decide)] at k), fun k => by rw [put_at _ _ _ (by rw [h.tsz]; decide), if_neg (by decide), getD_set_ne false (show 3 ≠ 8 by decide)]; exact h6 (by rwa [getD_set_ne false (show 3 ≠ 5 by decide)] at k), fun k => by rw [put_at _ _ _ (by rw [h.tsz]; decide), if_neg (by decide), getD_set_ne false (show 3 ≠ 9 by decide)]; exact h7 (by rwa [getD_set_ne false (show 3 ≠ 6 by decide)] at k), fun k k2 => d1 (by rwa [getD_set_ne false (show 3 ≠ 4 by decide)] at k) (by rwa [getD_set_ne false (show 3 ≠ 5 by decide)] at k2), fun k k2 => d2 (by rwa [getD_set_ne false (show 3 ≠ 4 by decide)] at k) (by rwa [getD_set_ne false (show 3 ≠ 6 by decide)] at k2), fun k k2 => d3 (by rwa [getD_set_ne false (show 3 ≠ 5 by decide)] at k) (by rwa [getD_set_ne false (show 3 ≠ 6 by decide)] at k2)⟩
    low := h.low }
theorem StepI.m4 {a0 : Act} {W : World} {s : St} {v : Value} {x : List UInt8} {l : Array Bool} {a : Act} {w : World} (h : StepI a0 W s v x l a w) (h0 : l.getD 4 true = false) : StepI a0 W s v x (l.setIfInBounds 4 true) (a.put (some 5) (.pointer (some ⟨w.heap.size, 0, none⟩))) (w.alloc (.cells (Zs 64) 59)) := by
  have hn : l.getD 7 false = false := by
    cases hq : l.getD 7 false with
    | false => rfl
    | true => have := h.o7 hq; rw [getD_tf h0] at this; cases this
  have hB : Below w.heap.size w (w.alloc (.cells (Zs 64) 59)) := (Below.refl _ _).alloc (Nat.le_refl _) _
  obtain ⟨g5, g6, g7, h5, h6, h7, d1, d2, d3⟩ := h.blocks
  exact {
    sz := by rw [Array.size_setIfInBounds]; exact h.sz
    tsz := by rw [put_size]; exact h.tsz
    dfs := by rw [put_defs]; exact h.dfs
    same := fun t k5 k6 k7 k14 k15 k16 k17 => by rw [put_at _ _ _ (by rw [h.tsz]; decide), if_neg (fun e => k5 e.symm)]; exact h.same t k5 k6 k7 k14 k15 k16 k17
    s14 := fun k => by rw [put_at _ _ _ (by rw [h.tsz]; decide), if_neg (by decide)]; exact h.s14 (by rwa [getD_set_ne false (show 4 ≠ 0 by decide)] at k)
    s15 := fun k => by rw [put_at _ _ _ (by rw [h.tsz]; decide), if_neg (by decide)]; exact h.s15 (by rwa [getD_set_ne false (show 4 ≠ 1 by decide)] at k)
    s16 := fun k => by rw [put_at _ _ _ (by rw [h.tsz]; decide), if_neg (by decide)]; exact h.s16 (by rwa [getD_set_ne false (show 4 ≠ 2 by decide)] at k)
    s17 := fun k => by rw [put_at _ _ _ (by rw [h.tsz]; decide), if_neg (by decide)]; exact h.s17 (by rwa [getD_set_ne false (show 4 ≠ 3 by decide)] at k)
    o7 := fun k => getD_set_true (h.o7 (by rwa [getD_set_ne false (show 4 ≠ 7 by decide)] at k))
    o8 := fun k => getD_set_true (h.o8 (by rwa [getD_set_ne false (show 4 ≠ 8 by decide)] at k))
    o9 := fun k => getD_set_true (h.o9 (by rwa [getD_set_ne false (show 4 ≠ 9 by decide)] at k))
    blocks := ⟨w.heap.size, g6, g7, fun k => by rw [put_at _ _ _ (by rw [h.tsz]; decide), if_pos rfl, getD_set_ne false (show 4 ≠ 7 by decide), hn]; exact ⟨rfl, h.low.size, heap_new rfl⟩, fun k => by rw [put_at _ _ _ (by rw [h.tsz]; decide), if_neg (by decide), getD_set_ne false (show 4 ≠ 8 by decide)]; have := h6 (by rwa [getD_set_ne false (show 4 ≠ 5 by decide)] at k); exact ⟨this.1, this.2.1, heap_old this.2.2⟩, fun k => by rw [put_at _ _ _ (by rw [h.tsz]; decide), if_neg (by decide), getD_set_ne false (show 4 ≠ 9 by decide)]; have := h7 (by rwa [getD_set_ne false (show 4 ≠ 6 by decide)] at k); exact ⟨this.1, this.2.1, heap_old this.2.2⟩, fun k k2 => Nat.ne_of_gt (blk_lt (h6 (by rwa [getD_set_ne false (show 4 ≠ 5 by decide)] at k2)).2.2), fun k k2 => Nat.ne_of_gt (blk_lt (h7 (by rwa [getD_set_ne false (show 4 ≠ 6 by decide)] at k2)).2.2), fun k k2 => d3 (by rwa [getD_set_ne false (show 4 ≠ 5 by decide)] at k) (by rwa [getD_set_ne false (show 4 ≠ 6 by decide)] at k2)⟩
    low := below_then h.low h.low.size hB }
theorem StepI.m5 {a0 : Act} {W : World} {s : St} {v : Value} {x : List UInt8} {l : Array Bool} {a : Act} {w : World} (h : StepI a0 W s v x l a w) (h0 : l.getD 5 true = false) : StepI a0 W s v x (l.setIfInBounds 5 true) (a.put (some 6) (.pointer (some ⟨w.heap.size, 0, none⟩))) (w.alloc (.cells (Zs 64) 59)) := by
  have hn : l.getD 8 false = false := by
    cases hq : l.getD 8 false with
    | false => rfl
    | true => have := h.o8 hq; rw [getD_tf h0] at this; cases this
  have hB : Below w.heap.size w (w.alloc (.cells (Zs 64) 59)) := (Below.refl _ _).alloc (Nat.le_refl _) _
  obtain ⟨g5, g6, g7, h5, h6, h7, d1, d2, d3⟩ := h.blocks
  exact {
    sz := by rw [Array.size_setIfInBounds]; exact h.sz
    tsz := by rw [put_size]; exact h.tsz
    dfs := by rw [put_defs]; exact h.dfs
    same := fun t k5 k6 k7 k14 k15 k16 k17 => by rw [put_at _ _ _ (by rw [h.tsz]; decide), if_neg (fun e => k6 e.symm)]; exact h.same t k5 k6 k7 k14 k15 k16 k17
    s14 := fun k => by rw [put_at _ _ _ (by rw [h.tsz]; decide), if_neg (by decide)]; exact h.s14 (by rwa [getD_set_ne false (show 5 ≠ 0 by decide)] at k)
    s15 := fun k => by rw [put_at _ _ _ (by rw [h.tsz]; decide), if_neg (by decide)]; exact h.s15 (by rwa [getD_set_ne false (show 5 ≠ 1 by decide)] at k)
    s16 := fun k => by rw [put_at _ _ _ (by rw [h.tsz]; decide), if_neg (by decide)]; exact h.s16 (by rwa [getD_set_ne false (show 5 ≠ 2 by decide)] at k)
    s17 := fun k => by rw [put_at _ _ _ (by rw [h.tsz]; decide), if_neg (by decide)]; exact h.s17 (by rwa [getD_set_ne false (show 5 ≠ 3 by decide)] at k)
    o7 := fun k => getD_set_true (h.o7 (by rwa [getD_set_ne false (show 5 ≠ 7 by decide)] at k))
    o8 := fun k => getD_set_true (h.o8 (by rwa [getD_set_ne false (show 5 ≠ 8 by decide)] at k))
    o9 := fun k => getD_set_true (h.o9 (by rwa [getD_set_ne false (show 5 ≠ 9 by decide)] at k))
    blocks := ⟨g5, w.heap.size, g7, fun k => by rw [put_at _ _ _ (by rw [h.tsz]; decide), if_neg (by decide), getD_set_ne false (show 5 ≠ 7 by decide)]; have := h5 (by rwa [getD_set_ne false (show 5 ≠ 4 by decide)] at k); exact ⟨this.1, this.2.1, heap_old this.2.2⟩, fun k => by rw [put_at _ _ _ (by rw [h.tsz]; decide), if_pos rfl, getD_set_ne false (show 5 ≠ 8 by decide), hn]; exact ⟨rfl, h.low.size, heap_new rfl⟩, fun k => by rw [put_at _ _ _ (by rw [h.tsz]; decide), if_neg (by decide), getD_set_ne false (show 5 ≠ 9 by decide)]; have := h7 (by rwa [getD_set_ne false (show 5 ≠ 6 by decide)] at k); exact ⟨this.1, this.2.1, heap_old this.2.2⟩, fun k k2 => Nat.ne_of_lt (blk_lt (h5 (by rwa [getD_set_ne false (show 5 ≠ 4 by decide)] at k)).2.2), fun k k2 => d2 (by rwa [getD_set_ne false (show 5 ≠ 4 by decide)] at k) (by rwa [getD_set_ne false (show 5 ≠ 6 by decide)] at k2), fun k k2 => Nat.ne_of_gt (blk_lt (h7 (by rwa [getD_set_ne false (show 5 ≠ 6 by decide)] at k2)).2.2)⟩
    low := below_then h.low h.low.size hB }
theorem StepI.m6 {a0 : Act} {W : World} {s : St} {v : Value} {x : List UInt8} {l : Array Bool} {a : Act} {w : World} (h : StepI a0 W s v x l a w) (h0 : l.getD 6 true = false) : StepI a0 W s v x (l.setIfInBounds 6 true) (a.put (some 7) (.pointer (some ⟨w.heap.size, 0, none⟩))) (w.alloc (.cells (Zs 8) 54)) := by
  have hn : l.getD 9 false = false := by
    cases hq : l.getD 9 false with
    | false => rfl
    | true => have := h.o9 hq; rw [getD_tf h0] at this; cases this
  have hB : Below w.heap.size w (w.alloc (.cells (Zs 8) 54)) := (Below.refl _ _).alloc (Nat.le_refl _) _
  obtain ⟨g5, g6, g7, h5, h6, h7, d1, d2, d3⟩ := h.blocks
  exact {
    sz := by rw [Array.size_setIfInBounds]; exact h.sz
    tsz := by rw [put_size]; exact h.tsz
    dfs := by rw [put_defs]; exact h.dfs
    same := fun t k5 k6 k7 k14 k15 k16 k17 => by rw [put_at _ _ _ (by rw [h.tsz]; decide), if_neg (fun e => k7 e.symm)]; exact h.same t k5 k6 k7 k14 k15 k16 k17
    s14 := fun k => by rw [put_at _ _ _ (by rw [h.tsz]; decide), if_neg (by decide)]; exact h.s14 (by rwa [getD_set_ne false (show 6 ≠ 0 by decide)] at k)
    s15 := fun k => by rw [put_at _ _ _ (by rw [h.tsz]; decide), if_neg (by decide)]; exact h.s15 (by rwa [getD_set_ne false (show 6 ≠ 1 by decide)] at k)
    s16 := fun k => by rw [put_at _ _ _ (by rw [h.tsz]; decide), if_neg (by decide)]; exact h.s16 (by rwa [getD_set_ne false (show 6 ≠ 2 by decide)] at k)
    s17 := fun k => by rw [put_at _ _ _ (by rw [h.tsz]; decide), if_neg (by decide)]; exact h.s17 (by rwa [getD_set_ne false (show 6 ≠ 3 by decide)] at k)
    o7 := fun k => getD_set_true (h.o7 (by rwa [getD_set_ne false (show 6 ≠ 7 by decide)] at k))
    o8 := fun k => getD_set_true (h.o8 (by rwa [getD_set_ne false (show 6 ≠ 8 by decide)] at k))
    o9 := fun k => getD_set_true (h.o9 (by rwa [getD_set_ne false (show 6 ≠ 9 by decide)] at k))
    blocks := ⟨g5, g6, w.heap.size, fun k => by rw [put_at _ _ _ (by rw [h.tsz]; decide), if_neg (by decide), getD_set_ne false (show 6 ≠ 7 by decide)]; have := h5 (by rwa [getD_set_ne false (show 6 ≠ 4 by decide)] at k); exact ⟨this.1, this.2.1, heap_old this.2.2⟩, fun k => by rw [put_at _ _ _ (by rw [h.tsz]; decide), if_neg (by decide), getD_set_ne false (show 6 ≠ 8 by decide)]; have := h6 (by rwa [getD_set_ne false (show 6 ≠ 5 by decide)] at k); exact ⟨this.1, this.2.1, heap_old this.2.2⟩, fun k => by rw [put_at _ _ _ (by rw [h.tsz]; decide), if_pos rfl, getD_set_ne false (show 6 ≠ 9 by decide), hn]; exact ⟨rfl, h.low.size, heap_new rfl⟩, fun k k2 => d1 (by rwa [getD_set_ne false (show 6 ≠ 4 by decide)] at k) (by rwa [getD_set_ne false (show 6 ≠ 5 by decide)] at k2), fun k k2 => Nat.ne_of_lt (blk_lt (h5 (by rwa [getD_set_ne false (show 6 ≠ 4 by decide)] at k)).2.2), fun k k2 => Nat.ne_of_lt (blk_lt (h6 (by rwa [getD_set_ne false (show 6 ≠ 5 by decide)] at k)).2.2)⟩
    low := below_then h.low h.low.size hB }
theorem StepI.m7 {a0 : Act} {W : World} {s : St} {v : Value} {x : List UInt8} {l : Array Bool} {a : Act} {w w' : World} (h : StepI a0 W s v x l a w) (hl : l.getD 4 false = true) (hn : l.getD 7 false = false) {g : Nat} (hg : a.tmps[5]? = some (.pointer (some ⟨g, 0, none⟩))) (hh : w'.heap[g]? = some (.cells (KsA) 59 (0, 0))) (hgr : w.grownBy w' (some g)) : StepI a0 W s v x (l.setIfInBounds 7 true) a w' := by
  obtain ⟨g5, g6, g7, h5, h6, h7, d1, d2, d3⟩ := h.blocks
  obtain rfl : g = g5 := by have := (h5 hl).1; rw [hg] at this; simpa using this
  have hlt : 7 < l.size := by rw [h.sz]; decide
  exact {
    sz := by rw [Array.size_setIfInBounds]; exact h.sz
    tsz := h.tsz
    dfs := h.dfs
    same := h.same
    s14 := fun k => h.s14 (by rwa [getD_set_ne false (show 7 ≠ 0 by decide)] at k)
    s15 := fun k => h.s15 (by rwa [getD_set_ne false (show 7 ≠ 1 by decide)] at k)
    s16 := fun k => h.s16 (by rwa [getD_set_ne false (show 7 ≠ 2 by decide)] at k)
    s17 := fun k => h.s17 (by rwa [getD_set_ne false (show 7 ≠ 3 by decide)] at k)
    o7 := fun _ => getD_set_true hl
    o8 := fun k => getD_set_true (h.o8 (by rwa [getD_set_ne false (show 7 ≠ 8 by decide)] at k))
    o9 := fun k => getD_set_true (h.o9 (by rwa [getD_set_ne false (show 7 ≠ 9 by decide)] at k))
    blocks := ⟨g, g6, g7, fun k => ⟨hg, (h5 hl).2.1, by rw [show (l.setIfInBounds 7 true).getD 7 false = true by simp [hlt]]; exact hh⟩, fun k => by rw [getD_set_ne false (show 7 ≠ 8 by decide)]; have := h6 (by rwa [getD_set_ne false (show 7 ≠ 5 by decide)] at k); exact ⟨this.1, this.2.1, (hgr.block _ (blk_lt this.2.2) (fun e => d1 hl (by rwa [getD_set_ne false (show 7 ≠ 5 by decide)] at k) (Option.some.inj e).symm)).trans this.2.2⟩, fun k => by rw [getD_set_ne false (show 7 ≠ 9 by decide)]; have := h7 (by rwa [getD_set_ne false (show 7 ≠ 6 by decide)] at k); exact ⟨this.1, this.2.1, (hgr.block _ (blk_lt this.2.2) (fun e => d2 hl (by rwa [getD_set_ne false (show 7 ≠ 6 by decide)] at k) (Option.some.inj e).symm)).trans this.2.2⟩, fun k k2 => d1 (by rwa [getD_set_ne false (show 7 ≠ 4 by decide)] at k) (by rwa [getD_set_ne false (show 7 ≠ 5 by decide)] at k2), fun k k2 => d2 (by rwa [getD_set_ne false (show 7 ≠ 4 by decide)] at k) (by rwa [getD_set_ne false (show 7 ≠ 6 by decide)] at k2), fun k k2 => d3 (by rwa [getD_set_ne false (show 7 ≠ 5 by decide)] at k) (by rwa [getD_set_ne false (show 7 ≠ 6 by decide)] at k2)⟩
    low := h.low.grown hgr h.low.size (fun k hk => by cases hk; exact (h5 hl).2.1) }
theorem StepI.m8 {a0 : Act} {W : World} {s : St} {v : Value} {x : List UInt8} {l : Array Bool} {a : Act} {w w' : World} (h : StepI a0 W s v x l a w) (hl : l.getD 5 false = true) (hn : l.getD 8 false = false) {g : Nat} (hg : a.tmps[6]? = some (.pointer (some ⟨g, 0, none⟩))) (hh : w'.heap[g]? = some (.cells (scA x) 59 (0, 0))) (hgr : w.grownBy w' (some g)) : StepI a0 W s v x (l.setIfInBounds 8 true) a w' := by
  obtain ⟨g5, g6, g7, h5, h6, h7, d1, d2, d3⟩ := h.blocks
  obtain rfl : g = g6 := by have := (h6 hl).1; rw [hg] at this; simpa using this
  have hlt : 8 < l.size := by rw [h.sz]; decide
  exact {
    sz := by rw [Array.size_setIfInBounds]; exact h.sz
    tsz := h.tsz
    dfs := h.dfs
    same := h.same
    s14 := fun k => h.s14 (by rwa [getD_set_ne false (show 8 ≠ 0 by decide)] at k)
    s15 := fun k => h.s15 (by rwa [getD_set_ne false (show 8 ≠ 1 by decide)] at k)
    s16 := fun k => h.s16 (by rwa [getD_set_ne false (show 8 ≠ 2 by decide)] at k)
    s17 := fun k => h.s17 (by rwa [getD_set_ne false (show 8 ≠ 3 by decide)] at k)
    o7 := fun k => getD_set_true (h.o7 (by rwa [getD_set_ne false (show 8 ≠ 7 by decide)] at k))
    o8 := fun _ => getD_set_true hl
    o9 := fun k => getD_set_true (h.o9 (by rwa [getD_set_ne false (show 8 ≠ 9 by decide)] at k))
    blocks := ⟨g5, g, g7, fun k => by rw [getD_set_ne false (show 8 ≠ 7 by decide)]; have := h5 (by rwa [getD_set_ne false (show 8 ≠ 4 by decide)] at k); exact ⟨this.1, this.2.1, (hgr.block _ (blk_lt this.2.2) (fun e => d1 (by rwa [getD_set_ne false (show 8 ≠ 4 by decide)] at k) hl (Option.some.inj e))).trans this.2.2⟩, fun k => ⟨hg, (h6 hl).2.1, by rw [show (l.setIfInBounds 8 true).getD 8 false = true by simp [hlt]]; exact hh⟩, fun k => by rw [getD_set_ne false (show 8 ≠ 9 by decide)]; have := h7 (by rwa [getD_set_ne false (show 8 ≠ 6 by decide)] at k); exact ⟨this.1, this.2.1, (hgr.block _ (blk_lt this.2.2) (fun e => d3 hl (by rwa [getD_set_ne false (show 8 ≠ 6 by decide)] at k) (Option.some.inj e).symm)).trans this.2.2⟩, fun k k2 => d1 (by rwa [getD_set_ne false (show 8 ≠ 4 by decide)] at k) (by rwa [getD_set_ne false (show 8 ≠ 5 by decide)] at k2), fun k k2 => d2 (by rwa [getD_set_ne false (show 8 ≠ 4 by decide)] at k) (by rwa [getD_set_ne false (show 8 ≠ 6 by decide)] at k2), fun k k2 => d3 (by rwa [getD_set_ne false (show 8 ≠ 5 by decide)] at k) (by rwa [getD_set_ne false (show 8 ≠ 6 by decide)] at k2)⟩
    low := h.low.grown hgr h.low.size (fun k hk => by cases hk; exact (h6 hl).2.1) }
theorem StepI.m9 {a0 : Act} {W : World} {s : St} {v : Value} {x : List UInt8} {l : Array Bool} {a : Act} {w w' : World} (h : StepI a0 W s v x l a w) (hl : l.getD 6 false = true) (hn : l.getD 9 false = false) {g : Nat} (hg : a.tmps[7]? = some (.pointer (some ⟨g, 0, none⟩))) (hh : w'.heap[g]? = some (.cells (s.vs) 54 (0, 0))) (hgr : w.grownBy w' (some g)) : StepI a0 W s v x (l.setIfInBounds 9 true) a w' := by
  obtain ⟨g5, g6, g7, h5, h6, h7, d1, d2, d3⟩ := h.blocks
  obtain rfl : g = g7 := by have := (h7 hl).1; rw [hg] at this; simpa using this
  have hlt : 9 < l.size := by rw [h.sz]; decide
  exact {
    sz := by rw [Array.size_setIfInBounds]; exact h.sz
    tsz := h.tsz
    dfs := h.dfs
    same := h.same
    s14 := fun k => h.s14 (by rwa [getD_set_ne false (show 9 ≠ 0 by decide)] at k)
    s15 := fun k => h.s15 (by rwa [getD_set_ne false (show 9 ≠ 1 by decide)] at k)
    s16 := fun k => h.s16 (by rwa [getD_set_ne false (show 9 ≠ 2 by decide)] at k)
    s17 := fun k => h.s17 (by rwa [getD_set_ne false (show 9 ≠ 3 by decide)] at k)
    o7 := fun k => getD_set_true (h.o7 (by rwa [getD_set_ne false (show 9 ≠ 7 by decide)] at k))
    o8 := fun k => getD_set_true (h.o8 (by rwa [getD_set_ne false (show 9 ≠ 8 by decide)] at k))
    o9 := fun _ => getD_set_true hl
    blocks := ⟨g5, g6, g, fun k => by rw [getD_set_ne false (show 9 ≠ 7 by decide)]; have := h5 (by rwa [getD_set_ne false (show 9 ≠ 4 by decide)] at k); exact ⟨this.1, this.2.1, (hgr.block _ (blk_lt this.2.2) (fun e => d2 (by rwa [getD_set_ne false (show 9 ≠ 4 by decide)] at k) hl (Option.some.inj e))).trans this.2.2⟩, fun k => by rw [getD_set_ne false (show 9 ≠ 8 by decide)]; have := h6 (by rwa [getD_set_ne false (show 9 ≠ 5 by decide)] at k); exact ⟨this.1, this.2.1, (hgr.block _ (blk_lt this.2.2) (fun e => d3 (by rwa [getD_set_ne false (show 9 ≠ 5 by decide)] at k) hl (Option.some.inj e))).trans this.2.2⟩, fun k => ⟨hg, (h7 hl).2.1, by rw [show (l.setIfInBounds 9 true).getD 9 false = true by simp [hlt]]; exact hh⟩, fun k k2 => d1 (by rwa [getD_set_ne false (show 9 ≠ 4 by decide)] at k) (by rwa [getD_set_ne false (show 9 ≠ 5 by decide)] at k2), fun k k2 => d2 (by rwa [getD_set_ne false (show 9 ≠ 4 by decide)] at k) (by rwa [getD_set_ne false (show 9 ≠ 6 by decide)] at k2), fun k k2 => d3 (by rwa [getD_set_ne false (show 9 ≠ 5 by decide)] at k) (by rwa [getD_set_ne false (show 9 ≠ 6 by decide)] at k2)⟩
    low := h.low.grown hgr h.low.size (fun k hk => by cases hk; exact (h7 hl).2.1) }

theorem wpOp_plain {P : Program} {ops : Array Oper} {Q : Exit → Act → World → Prop} {i : Nat} {o : Oper} {a : Act} {w : World} {K : Act → World → Prop} (ho : ops[i]? = some o) (hg : o.guard = none) (h : o.wp P a w K Q) : wpOp P ops Q i K a w := by
  unfold wpOp
  rw [ho]
  simp only [Region.wanted, hg, if_true]
  exact .inl h
theorem tmp_at {a : Act} {t : Nat} {v : Value} (h : a.tmps[t]? = some v) : a.eval (.tmp t) = v := by
  simp [Act.eval, h]

/-- What the seven slots hold. -/
def seven (a0 : Act) (g5 g6 g7 : Nat) (s : St) (v : Value) (x : List UInt8) : Act :=
  ((((((a0.put (some 5) (.pointer (some ⟨g5, 0, none⟩))).put (some 6) (.pointer (some ⟨g6, 0, none⟩))).put (some 7) (.pointer (some ⟨g7, 0, none⟩))).put (some 14) (.agg KsA)).put (some 15) v).put (some 16) (.agg (scA x))).put (some 17) (.agg s.vs)
theorem StepI.frame {a0 : Act} {W : World} {s : St} {v : Value} {x : List UInt8} {l : Array Bool} {a : Act} {w : World} (h : StepI a0 W s v x l a w) (h0 : a0.tmps.size = 111) (hl : ∀ j, j < 10 → l.getD j false = true) :
    ∃ g5 g6 g7 : Nat, a = seven a0 g5 g6 g7 s v x ∧ W.heap.size ≤ g5 ∧ W.heap.size ≤ g6 ∧ W.heap.size ≤ g7 ∧ g5 ≠ g6 ∧ g5 ≠ g7 ∧ g6 ≠ g7 ∧
      w.heap[g5]? = some (.cells KsA 59 (0, 0)) ∧ w.heap[g6]? = some (.cells (scA x) 59 (0, 0)) ∧ w.heap[g7]? = some (.cells s.vs 54 (0, 0)) := by
  obtain ⟨g5, g6, g7, h5, h6, h7, d1, d2, d3⟩ := h.blocks
  have l4 := hl 4 (by decide)
  have l5 := hl 5 (by decide)
  have l6 := hl 6 (by decide)
  have b5 := h5 l4
  have b6 := h6 l5
  have b7 := h7 l6
  rw [if_pos (hl 7 (by decide))] at b5
  rw [if_pos (hl 8 (by decide))] at b6
  rw [if_pos (hl 9 (by decide))] at b7
  refine ⟨g5, g6, g7, ?_, b5.2.1, b6.2.1, b7.2.1, d1 l4 l5, d2 l4 l6, d3 l5 l6, b5.2.2, b6.2.2, b7.2.2⟩
  unfold seven
  apply act_ext
  · simp only [put_defs]; exact h.dfs
  · intro t
    rw [put_at _ _ _ (by simp only [put_size]; rw [h0]; decide), put_at _ _ _ (by simp only [put_size]; rw [h0]; decide), put_at _ _ _ (by simp only [put_size]; rw [h0]; decide), put_at _ _ _ (by simp only [put_size]; rw [h0]; decide), put_at _ _ _ (by simp only [put_size]; rw [h0]; decide), put_at _ _ _ (by simp only [put_size]; rw [h0]; decide), put_at _ _ _ (by rw [h0]; decide)]
    by_cases k17 : 17 = t
    · subst k17; exact h.s17 (hl 3 (by decide))
    rw [if_neg k17]
    by_cases k16 : 16 = t
    · subst k16; exact h.s16 (hl 2 (by decide))
    rw [if_neg k16]
    by_cases k15 : 15 = t
    · subst k15; exact h.s15 (hl 1 (by decide))
    rw [if_neg k15]
    by_cases k14 : 14 = t
    · subst k14; exact h.s14 (hl 0 (by decide))
    rw [if_neg k14]
    by_cases k7 : 7 = t
    · subst k7; exact b7.1
    rw [if_neg k7]
    by_cases k6 : 6 = t
    · subst k6; exact b6.1
    rw [if_neg k6]
    by_cases k5 : 5 = t
    · subst k5; exact b5.1
    rw [if_neg k5]
    exact h.same t (Ne.symm k5) (Ne.symm k6) (Ne.symm k7) (Ne.symm k14) (Ne.symm k15) (Ne.symm k16) (Ne.symm k17)
end Go.Proofs.Ytjoljmkedghcbaa
