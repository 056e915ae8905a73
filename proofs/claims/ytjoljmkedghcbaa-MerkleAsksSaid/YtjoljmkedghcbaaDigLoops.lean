/-
  Words for the reference's Sum: what stands through its blocks; its loops' bodies, taken out of its code. No condition.
-/
import Derived.Test.YtjoljmkedghcbaaDigRef
import Derived.Test.YtjoljmkedghcbaaStillQ
import Derived.Test.YtjoljmkedghcbaaAppGrow
namespace Go.Proofs.Ytjoljmkedghcbaa
open Go.RowKit
set_option linter.unusedVariables false
set_option linter.unusedSimpArgs false

/-- What stands through the blocks: the message, the constants, the state. -/
def RE (w0 : World) (gm : Nat) (cur : Array Value) (g3 g4 : Nat) (s : St) (wr : World) : Prop :=
  wr.heap[gm]? = some (.cells cur 5 (0, 0)) ∧ wr.heap[g3]? = some (.cells (Ks.map qv).toArray 59 (0, 0)) ∧ wr.heap[g4]? = some (.cells s.vs 53 (0, 0)) ∧ Below w0.heap.size w0 wr

theorem RE.below {w0 w1 w2 : World} {gm g3 g4 : Nat} {cur : Array Value} {s : St} (h : RE w0 gm cur g3 g4 s w1) (hb : Below w1.heap.size w1 w2) : RE w0 gm cur g3 g4 s w2 :=
  ⟨below_heap hb h.1, below_heap hb h.2.1, below_heap hb h.2.2.1, below_step h.2.2.2 hb⟩
theorem RE.other {w0 w1 w2 : World} {gm g3 g4 g : Nat} {cur : Array Value} {s : St} (h : RE w0 gm cur g3 g4 s w1) (hg : w1.grownBy w2 (some g)) (h1 : gm ≠ g) (h2 : g3 ≠ g) (h3 : g4 ≠ g) (h4 : w0.heap.size ≤ g) : RE w0 gm cur g3 g4 s w2 :=
  ⟨(hg.block _ (blk_lt h.1) (fun e => h1 (Option.some.inj e))).trans h.1, (hg.block _ (blk_lt h.2.1) (fun e => h2 (Option.some.inj e))).trans h.2.1, (hg.block _ (blk_lt h.2.2.1) (fun e => h3 (Option.some.inj e))).trans h.2.2.1, h.2.2.2.grown hg h.2.2.2.size (fun k hk => by cases hk; exact h4)⟩
/-- A byte of the message. -/
theorem cur_at {w : World} {gm : Nat} {cur : Array Value} {T : List UInt8} (h : w.heap[gm]? = some (.cells cur 5 (0, 0))) (hc : cur.toList.take T.length = T.map bv) (j : Nat) (hj : j < T.length) : w.cell? ⟨gm, j, none⟩ = some (.int .u8 ((T.getD j 0).toNat : Int)) := by
  rw [(blk h).1 j]
  have h1 : (cur.toList.take T.length)[j]? = (T.map bv)[j]? := by rw [hc]
  rw [List.getElem?_take, if_pos hj, List.getElem?_map, List.getElem?_eq_getElem hj] at h1
  rw [← Array.getElem?_toList, h1]
  simp [bv, List.getElem?_eq_getElem hj]
/-- The q-th block. -/
def blkL (T : List UInt8) (q : Nat) : List UInt8 := (T.drop (64 * q)).take 64
theorem blkL_at (T : List UInt8) (q k : Nat) (hk : k < 64) : (blkL T q).getD k 0 = T.getD (64 * q + k) 0 := by
  unfold blkL
  rw [List.getD_eq_getElem?_getD, List.getElem?_take, if_pos hk, List.getElem?_drop, List.getD_eq_getElem?_getD]
theorem wordAt_blk (T : List UInt8) (q k : Nat) (hk : k < 16) : wordAt (blkL T q) k = wordL (T.getD (64 * q + 4 * k) 0) (T.getD (64 * q + 4 * k + 1) 0) (T.getD (64 * q + 4 * k + 2) 0) (T.getD (64 * q + 4 * k + 3) 0) := by
  unfold wordAt
  rw [blkL_at _ _ _ (by omega), blkL_at _ _ _ (by omega), blkL_at _ _ _ (by omega), blkL_at _ _ _ (by omega)]
  rfl
theorem word_eq (x0 x1 x2 x3 : UInt8) : bits .or .u32 (bits .or .u32 (bits .or .u32 ((x0.toNat : Int) % 4294967296 * 16777216 % 4294967296) ((x1.toNat : Int) % 4294967296 * 65536 % 4294967296)) ((x2.toNat : Int) % 4294967296 * 256 % 4294967296)) ((x3.toNat : Int) % 4294967296) = ((wordL x0 x1 x2 x3).toNat : Int) := by
  have e0 := q_byte x0 24 (by omega)
  have e1 := q_byte x1 16 (by omega)
  have e2 := q_byte x2 8 (by omega)
  have e3 : (x3.toNat : Int) % 4294967296 = (x3.toUInt32.toNat : Int) := by rw [UInt8.toNat_toUInt32]; have := x3.toNat_lt; omega
  rw [show (16777216 : Int) = 2 ^ 24 from rfl, show (65536 : Int) = 2 ^ 16 from rfl, show (256 : Int) = 2 ^ 8 from rfl, e0, e1, e2, e3, q_or, q_or, q_or]
  rfl
theorem zero_at (x : List UInt8) (k : Nat) (h : k < 64) : ((filled x k).map qv).toArray[k]? = some (.int .u32 0) := by
  simp only [filled, List.getElem?_toArray, List.map_append, List.getElem?_append]
  rw [if_neg (by rw [List.length_map, sched_length]; omega), List.length_map, sched_length, Nat.sub_self, show 64 - k = 63 - k + 1 by omega]
  rfl

theorem info_w8 : (Try.prog.info? 53).map (·.size) = some 8 := by kernel_rfl
theorem Grow.block {W w : World} {v : Value} {x : List UInt8} (h : Grow W w v x) (hx : 0 < x.length) : ∃ g c cur, v = .slice (some ⟨g, 0, none⟩) x.length c ∧ x.length ≤ c ∧ w.heap[g]? = some (.cells cur 5 (0, 0)) ∧ cur.toList.take x.length = x.map bv ∧ W.heap.size ≤ g := by
  rcases h.1.2 with ⟨rfl, h0⟩ | ⟨g, cap, cur, rfl, hb, hg, h1, h2, h3, h4⟩
  · omega
  · exact ⟨g, cap, cur, rfl, h1, hg, by rw [Nat.mul_one] at h4; exact h4, hb⟩

/-- All loops' bodies, as they stand. -/
def loopsIn : Code → List Code
  | .loop c => c :: loopsIn c
  | .seq a b => loopsIn a ++ loopsIn b
  | .block _ c => loopsIn c
  | .scope c => loopsIn c
  | .cond _ a b => loopsIn a ++ loopsIn b
  | _ => []
noncomputable def loopAt (n : Nat) : Code := (((Try.f34).body.map loopsIn).getD []).getD n .skip
end Go.Proofs.Ytjoljmkedghcbaa
