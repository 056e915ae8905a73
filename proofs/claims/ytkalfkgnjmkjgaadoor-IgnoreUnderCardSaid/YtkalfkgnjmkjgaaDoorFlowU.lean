/-
  XFlow's law for regions in which operations without a slot stand too (a store that leaves the world below as it was). No condition.
-/
import Derived.Test.YtkalfkgnjmkjgaaDoorFlow
import Derived.Test.YtkalfkgnjmkjgaaDoorFlowM
namespace Go.Proofs.YtkalfkgnjmkjgaaDoor
open Go.RowKit
set_option linter.unusedVariables false
set_option linter.unusedSimpArgs false

def dO (ops : Array Oper) (i : Nat) : Option Nat := (ops[i]?).bind (·.dst)
def flowOkU (ops : Array Oper) (n : Nat) : Bool :=
  (List.range ops.size).all fun i => match ops[i]? with
    | none => false
    | some o => (match o.dst with | none => true | some d => decide (d < n) && (List.range ops.size).all fun j => j == i || dO ops j != some d) && o.after.all fun e => decide (e.on < i) || !Region.binds .any e
def notDstU (ops : Array Oper) (t : Nat) : Bool := (List.range ops.size).all fun i => dO ops i != some t
theorem flowOkU_at {ops : Array Oper} {n : Nat} (h : flowOkU ops n = true) {i : Nat} {o : Oper} (ho : ops[i]? = some o) :
    (∀ d, o.dst = some d → d < n ∧ dstOf ops i = d ∧ ∀ j, j < ops.size → j ≠ i → dO ops j ≠ some d) ∧ ∀ e ∈ o.after, Region.binds .any e = true → e.on < i := by
  have hi : i < ops.size := (Array.getElem?_eq_some_iff.1 ho).1
  have h1 := List.all_eq_true.1 h i (List.mem_range.2 hi)
  rw [ho] at h1
  simp only [Bool.and_eq_true] at h1
  obtain ⟨h2, h3⟩ := h1
  refine ⟨fun d hd => ?_, fun e he hb => ?_⟩
  · rw [hd] at h2
    simp only [Bool.and_eq_true, decide_eq_true_eq] at h2
    refine ⟨h2.1, by unfold dstOf; rw [ho]; simp [hd], fun j hj hne => ?_⟩
    have := List.all_eq_true.1 h2.2 j (List.mem_range.2 hj)
    simp only [Bool.or_eq_true, beq_iff_eq, bne_iff_ne, ne_eq] at this
    exact this.resolve_left hne
  · have := (Array.all_eq_true_iff_forall_mem.1 h3) e he
    simpa [hb] using this
structure FlowSU (ops : Array Oper) (R : Nat → Value → World → Prop) (a0 : Act) (W : World) (i : Nat) (a : Act) (w : World) : Prop where
  low : Below W.heap.size W w
  same : ∀ t, notDstU ops t = true → a.tmps[t]? = a0.tmps[t]?
  dep : ∀ o, ops[i]? = some o → ∀ e ∈ o.after, Region.binds .any e = true → R e.on (a.tmps.getD (dstOf ops e.on) undef) w
theorem FlowSU.of {ops : Array Oper} {R : Nat → Value → World → Prop} {a0 : Act} {W : World} {i : Nat} {a : Act} {w : World} (F : FlowSU ops R a0 W i a w) (j : Nat) (h : depOk ops i j = true) : R j (a.tmps.getD (dstOf ops j) undef) w := by
  unfold depOk at h
  cases ho : ops[i]? with
  | none => rw [ho] at h; cases h
  | some o =>
    rw [ho] at h
    obtain ⟨k, hk, he⟩ := Array.any_iff_exists.1 h
    simp only [Bool.and_eq_true, beq_iff_eq] at he
    obtain ⟨he0, he1, he2⟩ := he
    have := F.dep o ho _ (Array.getElem_mem hk) he2.2
    rwa [he2.1] at this
theorem FlowSU.out {ops : Array Oper} {R : Nat → Value → World → Prop} {a0 : Act} {W : World} {i : Nat} {a : Act} {w : World} (F : FlowSU ops R a0 W i a w) (t : Nat) (ht : notDstU ops t = true) (v : Value) (hv : a0.tmps[t]? = some v) : a.tmps.getD t undef = v := by
  rw [Array.getD_eq_getD_getElem?, F.same t ht, hv]; rfl
structure FlowIU (ops : Array Oper) (R : Nat → Value → World → Prop) (a0 : Act) (W : World) (l : Array Bool) (a : Act) (w : World) : Prop where
  sz : l.size = ops.size
  tsz : a.tmps.size = a0.tmps.size
  dfs : a.defers = a0.defers
  low : Below W.heap.size W w
  same : ∀ t, notDstU ops t = true → a.tmps[t]? = a0.tmps[t]?
  got : ∀ i, i < ops.size → l.getD i false = true → R i (a.tmps.getD (dstOf ops i) undef) w
theorem wp_region_flowU {P : Program} {ops : Array Oper} {Q : Exit → Act → World → Prop} {id : Nat} {a0 : Act} {W : World} (R : Nat → Value → World → Prop) (hm : P.follows .mixedOrders = true)
    (hchk : flowOkU ops a0.tmps.size = true) (hst : ∀ i v w w', R i v w → Below w.heap.size w w' → R i v w')
    (hnone : ∀ i, i < ops.size → dO ops i = none → ∀ v w, R i v w)
    (hstep : ∀ i o, ops[i]? = some o → ∀ a w, FlowSU ops R a0 W i a w → wpOp P ops Q i (fun a' w' => ∃ v, a' = a.put o.dst v ∧ Below w.heap.size w w' ∧ R i v w') a w)
    (hdone : ∀ (a : Act) w, a.tmps.size = a0.tmps.size → a.defers = a0.defers → (∀ t, notDstU ops t = true → a.tmps[t]? = a0.tmps[t]?) → Below W.heap.size W w → (∀ i, i < ops.size → R i (a.tmps.getD (dstOf ops i) undef) w) → Q .normal a w) : (Code.region id ops true).wp P Q a0 W := by
  refine wp_region_from hm (fun a0 W l a w => FlowIU ops R a0 W l a w) ?_ ?_ ?_
  · exact ⟨by simp, rfl, rfl, (Below.refl _ _).drew, fun _ _ => rfl, fun i hi h => by simp [hi] at h⟩
  · intro l a w hI hr
    have hno := ready_no hr
    have hall : ∀ i, i < ops.size → l.getD i false = true := by
      intro i
      induction i using Nat.strongRecOn with
      | ind i ih =>
        intro hi
        refine getD_tt' (by rw [hI.sz]; exact hi) ?_
        cases hq : l.getD i true with
        | true => rfl
        | false =>
          obtain ⟨o, ho⟩ : ∃ o, ops[i]? = some o := ⟨_, Array.getElem?_eq_getElem hi⟩
          refine absurd (mem_ready.2 ⟨hq, o, ho, fun e he hb => ?_⟩) (hno i)
          have := (flowOkU_at hchk ho).2 e he hb
          exact ih e.on this (by omega)
    exact hdone a w hI.tsz hI.dfs hI.same hI.low fun i hi => hI.got i hi (hall i hi)
  · intro l a w i hI hi
    obtain ⟨hi0, o, ho, hdep⟩ := mem_ready.1 hi
    obtain ⟨h1, h4⟩ := flowOkU_at hchk ho
    have hisz : i < ops.size := (Array.getElem?_eq_some_iff.1 ho).1
    refine wpOp_mono ?_ (hstep i o ho a w ⟨hI.low, hI.same, fun o' ho' e he hb => ?_⟩)
    · rintro a' w' ⟨v, rfl, hb, hR⟩
      have hdO : dO ops i = o.dst := by unfold dO; rw [ho]; rfl
      cases hd : o.dst with
      | none =>
        refine ⟨by rw [Array.size_setIfInBounds]; exact hI.sz, hI.tsz, hI.dfs, below_then hI.low hI.low.size hb, hI.same, fun j hj hl => ?_⟩
        by_cases hji : j = i
        · subst hji; exact hnone j hj (by rw [hdO, hd]) _ _
        · exact hst _ _ _ _ (hI.got j hj (getD_set hji hl)) hb
      | some d =>
        obtain ⟨h2, h5, h3⟩ := h1 d hd
        refine ⟨by rw [Array.size_setIfInBounds]; exact hI.sz, by rw [put_size]; exact hI.tsz, by rw [put_defs]; exact hI.dfs, below_then hI.low hI.low.size hb, fun t ht => ?_, fun j hj hl => ?_⟩
        · rw [put_at _ _ _ (by rw [hI.tsz]; exact h2), if_neg]
          · exact hI.same t ht
          · have := List.all_eq_true.1 ht i (List.mem_range.2 hisz)
            simp only [bne_iff_ne, ne_eq, hdO, hd, Option.some.injEq] at this
            exact this
        · rw [Array.getD_eq_getD_getElem?, put_at _ _ _ (by rw [hI.tsz]; exact h2)]
          by_cases hji : j = i
          · subst hji; rw [h5, if_pos rfl]; exact hR
          · cases hdj : dO ops j with
            | none => exact hnone j hj hdj _ _
            | some d' =>
              have he : dstOf ops j = d' := by unfold dO at hdj; unfold dstOf; rw [hdj]; rfl
              have hne : ¬ d = dstOf ops j := by
                intro e
                rw [he] at e
                exact h3 j hj hji (by rw [hdj, e])
              rw [if_neg hne, ← Array.getD_eq_getD_getElem?]
              exact hst _ _ _ _ (hI.got j hj (getD_set hji hl)) hb
    · rw [ho] at ho'; cases ho'
      have h5 := h4 e he hb
      exact hI.got e.on (by omega) (hdep e he hb)
theorem flow_un {P : Program} {ops : Array Oper} {o : Oper} {a : Act} {w : World} {K : Act → World → Prop} {Q : Exit → Act → World → Prop} {i : Nat} (ho : ops[i]? = some o) {g : Nat} {b : Bool} (hg : o.guard = some (g, b)) (d : Nat) (hd : (ops[g]?).bind (·.dst) = some d) (hy : a.tmps.getD d undef = undef) (h : K (a.put o.dst undef) w) : wpOp P ops Q i K a w := by
  unfold wpOp
  rw [ho]
  simp only
  rw [if_neg ?_]
  · exact h
  · simp only [Region.wanted, hg, yielded, hd, Option.bind_some]
    rw [Array.getD_eq_getD_getElem?] at hy
    cases hq : a.tmps[d]? with
    | none => simp
    | some v => rw [hq] at hy; simp only [Option.getD_some] at hy; subst hy; simp [undef]
end Go.Proofs.YtkalfkgnjmkjgaaDoor
