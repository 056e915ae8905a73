/-
  append(v, n) of an int; bytes.Equal. No condition but lengths.
-/
import Derived.Test.YtdikconhdbopdaaLists
import Derived.Test.YtdikconhdbopdaaBytesEq
namespace Go.Proofs.Ytdikconhdbopdaa
open Go.RowKit
set_option linter.unusedVariables false
set_option linter.unusedSimpArgs false

theorem info_int : (Try.prog.info? 3).map (fun i => (i.zero, i.size, i.bytes)) = some (some (.int .i64 0), 1, 8) := by kernel_rfl
theorem equal_same {e e' : Nat} {base base' : Nat} {v v' : Value} {x y : List UInt8} (w : World) (hx : Sl bv e w base v x) (hy : Sl bv e' w base' v' y) :
    Calls Try.prog 33 #[v, v'] w fun e w' => e = .returned (.bool (x == y)) ∧ w' = w := (equal_calls w hx hy).mono fun _ _ ⟨h1, h2⟩ => ⟨h1, h2.symm⟩
/-- Numbers of the call's own. -/
def OwnI (w : World) (base : Nat) (v : Value) (l : List Int) : Prop := w.ownsRow base 3 1 v l.length (l.map iv)
theorem append_int {P : Program} {ops : Array Oper} {rest : List Oper} {o : Oper} {a : Act} {Q : Exit → Act → World → Prop} {w : World} (hP : P = Try.prog) (hgd : o.guard = none) (s x : Operand)
    (ho : o.op = .call { callee := .builtin .append, args := #[s, x], argTypes := #[23, 23] })
    (base : Nat) (v : Value) (xs : List Int) (n : Int) (g c e0 : Nat) (fr : Nat × Nat) (hs : a.eval s = v) (hx : a.eval x = .slice (some ⟨g, 0, none⟩) 1 c) (hown : OwnI w base v xs) (hu : w.heap[g]? = some (.cells #[.int .i64 n] e0 fr))
    (hbytes : (xs.length + 1) * 8 ≤ 140737488355328) (hbase : base ≤ w.heap.size)
    (h : ∀ v' w', OwnI w' base v' (xs ++ [n]) → w.grownBy w' v.ownBlock → wpList P ops Q rest (a.put o.dst v') w') : wpList P ops Q (o :: rest) a w := by
  subst hP
  refine append_one hgd s x 23 ho base 3 _ _ Try.underlying23 info_int rfl (by decide) v (xs.map iv) (.int .i64 n) rfl g c e0 fr hs hx (by rw [List.length_map]; exact hown) hu (by rw [List.length_map]; exact hbytes) hbase ?_
  intro v' w' h1 h2 _
  refine h v' w' ?_ h2
  unfold OwnI
  simpa [iv] using h1

end Go.Proofs.Ytdikconhdbopdaa
