/-
  A region that draws its order, by an invariant over what has come up. No condition.
-/
import Derived.Test.YtoigmepkhiknbaaDoorBase
import Derived.Orders
namespace Go.Proofs.YtoigmepkhiknbaaDoor
open Go.RowKit
set_option linter.unusedVariables false
set_option linter.unusedSimpArgs false

/-- How many have not come up yet. -/
def leftN (l : Array Bool) : Nat := l.toList.countP (fun b => !b)
theorem leftN_set (l : Array Bool) (i : Nat) (h : l.getD i true = false) : leftN (l.setIfInBounds i true) + 1 = leftN l := by
  unfold leftN
  rw [Array.toList_setIfInBounds]
  have hi : i < l.toList.length := by
    rcases Nat.lt_or_ge i l.toList.length with h' | h'
    · exact h'
    · rw [Array.getD_eq_getD_getElem?, Array.getElem?_eq_none (by simpa using h')] at h; cases h
  have hv : l.toList[i] = false := by
    rw [Array.getD_eq_getD_getElem?, Array.getElem?_eq_getElem (by simpa using hi)] at h
    simpa using h
  have h1 : l.toList.set i true = l.toList.take i ++ true :: l.toList.drop (i + 1) := by rw [List.set_eq_take_append_cons_drop, if_pos hi]
  have h2 : l.toList = l.toList.take i ++ l.toList[i] :: l.toList.drop (i + 1) := by rw [List.getElem_cons_drop, List.take_append_drop]
  rw [h1]
  rw [congrArg (List.countP fun b => !b) h2, List.countP_append, List.countP_append, List.countP_cons, List.countP_cons, hv]
  simp
  omega

theorem wpAny_inv {P : Program} {md : Region.Mode} {ops : Array Oper} {Q : Exit → Act → World → Prop} (I : Array Bool → Act → World → Prop)
    (hdone : ∀ l a w, I l a w → Region.ready md ops l = [] → Q .normal a w)
    (hstep : ∀ l a w i, I l a w → i ∈ Region.ready md ops l → wpOp P ops Q i (fun a' w' => I (l.setIfInBounds i true) a' w') a w) :
    ∀ (fuel : Nat) l a w, leftN l ≤ fuel → I l a w → wpAny P md ops Q fuel l a w := by
  intro fuel
  induction fuel with
  | zero =>
    intro l a w hl hI
    have hr : Region.ready md ops l = [] := by
      apply List.eq_nil_iff_forall_not_mem.2
      intro j hj
      have := leftN_set l j (mem_ready.1 hj).1
      omega
    exact ⟨hr, hdone l a w hI hr⟩
  | succ fuel ih =>
    intro l a w hl hI
    refine ⟨fun hr => hdone l a w hI hr, fun i hi => ?_⟩
    refine wpOp_mono (fun a' w' h => ih _ a' w' ?_ h) (hstep l a w i hI hi)
    have := leftN_set l i (mem_ready.1 hi).1
    omega

theorem wp_region_inv {P : Program} {ops : Array Oper} {Q : Exit → Act → World → Prop} {id : Nat} {a : Act} {w : World} (hm : P.follows .mixedOrders = true) (I : Array Bool → Act → World → Prop)
    (hdone : ∀ l a w, I l a w → Region.ready .any ops l = [] → Q .normal a w)
    (hstep : ∀ l a w i, I l a w → i ∈ Region.ready .any ops l → wpOp P ops Q i (fun a' w' => I (l.setIfInBounds i true) a' w') a w)
    (h0 : I (Array.replicate ops.size false) a w.drew) : (Code.region id ops true).wp P Q a w :=
  wp_region_any hm (wpAny_inv I hdone hstep _ _ _ _ (by
    unfold leftN
    refine Nat.le_trans (List.countP_le_length) ?_
    simp) h0)

/-- The same, the invariant as a function of where the region begins. -/
theorem wp_region_from {P : Program} {ops : Array Oper} {Q : Exit → Act → World → Prop} {id : Nat} {a0 : Act} {W : World} (hm : P.follows .mixedOrders = true) (J : Act → World → Array Bool → Act → World → Prop)
    (h0 : J a0 W (Array.replicate ops.size false) a0 W.drew)
    (hdone : ∀ l a w, J a0 W l a w → Region.ready .any ops l = [] → Q .normal a w)
    (hstep : ∀ l a w i, J a0 W l a w → i ∈ Region.ready .any ops l → wpOp P ops Q i (fun a' w' => J a0 W (l.setIfInBounds i true) a' w') a w) : (Code.region id ops true).wp P Q a0 W :=
  wp_region_inv hm (J a0 W) hdone hstep h0

theorem ready_no {md : Region.Mode} {ops : Array Oper} {l : Array Bool} (h : Region.ready md ops l = []) : ∀ j, j ∉ Region.ready md ops l := by rw [h]; exact fun _ h => by cases h

theorem act_ext {a b : Act} (hd : a.defers = b.defers) (h : ∀ i : Nat, a.tmps[i]? = b.tmps[i]?) : a = b := by
  cases a; cases b
  simp only at hd h
  rw [hd, Array.ext_getElem? h]
theorem put_at (a : Act) (d : Nat) (v : Value) (hd : d < a.tmps.size) (t : Nat) : (a.put (some d) v).tmps[t]? = if d = t then some v else a.tmps[t]? := by
  simp only [Act.put, Array.getElem?_setIfInBounds]
  split
  · rename_i h; subst h; simp [hd]
  · rfl
theorem put_size (a : Act) (d : Option Tmp) (v : Value) : (a.put d v).tmps.size = a.tmps.size := by cases d <;> simp [Act.put]
theorem put_defs (a : Act) (d : Option Tmp) (v : Value) : (a.put d v).defers = a.defers := by cases d <;> rfl

section
variable {P : Program} {o : Oper} {a : Act} {w : World} {K : Act → World → Prop} {Q : Exit → Act → World → Prop}
theorem op_move (x : Operand) (h : o.op = .move x) (hk : K (a.put o.dst (a.eval x)) w) : o.wp P a w K Q := by
  unfold Oper.wp execOp
  simp only [h, Sem.run_pure]
  exact hk
theorem op_call (f : Nat) (xs : Array Operand) (tys : Array TypeId) (h : o.op = .call { callee := .value (.func f), args := xs, argTypes := tys }) (fn : Func) (hf : P.funcs[f]? = some fn) (hn : (fn.name == "runtime.NumGoroutine") = false) (hb : fn.body.isNone = false) (vs : Array Value) (hv : xs.map a.eval = vs)
    (hk : Calls P f vs w fun e w' => ∃ v, e = .returned v ∧ K (a.put o.dst v) w') : o.wp P a w K Q := by
  unfold Oper.wp execOp
  have e1 : (callFunc f vs).run P w = .ok (.enter f vs) w := by
    unfold callFunc
    simp only [Sem.run_bind, run_program, Result.andThen_ok, hf, hn, hb, Bool.false_eq_true, if_false, Sem.run_pure]
  simp only [h, resolve, invoke, Deferred.ofValue, Sem.run_bind, Sem.run_pure, Result.andThen_ok, Act.eval, hv, Array.empty_append, Array.append_empty, e1]
  refine hk.mono ?_
  rintro e w' ⟨v, rfl, hk⟩
  exact hk
theorem op_alloc (t : TypeId) (h : o.op = .alloc t) (p : Value) (w' : World) (hr : (Instr.alloc t true (.tuple #[])).run P w = .ok p w') (hk : K (a.put o.dst p) w') : o.wp P a w K Q := by
  unfold Oper.wp execOp
  simp only [h, Sem.run_bind, hr, Result.andThen_ok, Sem.run_pure]
  exact hk
end
end Go.Proofs.YtoigmepkhiknbaaDoor
