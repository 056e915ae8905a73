/-
  append of bytes that lie in a new block, in a region that draws its order. No condition.
-/
import Derived.Test.YtjoljmkedghcbaaDigSum2
namespace Go.Proofs.Ytjoljmkedghcbaa
open Go.RowKit
set_option linter.unusedVariables false
set_option linter.unusedSimpArgs false

/-- Bytes that lie in a new block are appended, in a region that draws its order. -/
theorem step_append_grow {P : Program} {ops : Array Oper} {o : Oper} {a : Act} {K : Act → World → Prop} {Q : Exit → Act → World → Prop} {E : Prop} {W w : World} (hP : P = Try.prog) (hgd : o.guard = none) (s x : Operand)
    (ho : o.op = .call { callee := .builtin .append, args := #[s, x], argTypes := #[22, 22] }) (v : Value) (xs ys : List UInt8) (n : Nat) (hn : n = ys.length) (cells : Array Value) (hcells : cells = (ys.map bv).toArray)
    (hs : a.eval s = v) (hx : a.eval x = .slice (some ⟨w.heap.size, 0, none⟩) n n) (h : Grow W w v xs) (hl : xs.length + ys.length ≤ 70368744177664)
    (hk : ∀ v' w', Grow W w' v' (xs ++ ys) → K (a.put o.dst v') w') :
    if Region.wanted o (yielded ops a.tmps) = true then Oper.wp P o a (w.alloc (.cells cells 5)) K Q else E := by
  subst hP hn hcells
  have hw : Region.wanted o (yielded ops a.tmps) = true := by simp [Region.wanted, hgd]
  rw [if_pos hw]
  obtain ⟨i, hi, hz0, hz1, hz2⟩ := info_parts info_u8
  have hb : Below w.heap.size w (w.alloc (.cells (ys.map bv).toArray 5)) := (Below.refl _ _).alloc (Nat.le_refl _) _
  refine wp_append_own _ s x 22 ho W.heap.size 5 i _ 1 1 Try.underlying22 hi hz0 hz1 hz2 rfl (by decide) v xs.length (xs.map bv) hs (own_below h.1 hb) ⟨w.heap.size, 0, none⟩ ys.length ys.length (ys.map bv) hx (by simp) ?_ ?_ (by simp only [maxLen]; omega) (by omega) (Nat.le_trans h.2.size hb.size) ?_
  · intro j u hj
    have ha : (⟨w.heap.size, 0, none⟩ : Addr).add j = ⟨w.heap.size, j, none⟩ := by unfold Addr.add; split <;> simp_all
    rw [ha, (blk (heap_new rfl)).1 j]
    simpa using hj
  · intro u hu
    obtain ⟨y, _, rfl⟩ := List.mem_map.1 hu
    rfl
  · intro v' w' h1 h2 _
    exact hk v' w' ⟨by simpa using h1, (below_step h.2 hb).grown h2 (below_step h.2 hb).size (own_base h.1)⟩

end Go.Proofs.Ytjoljmkedghcbaa
