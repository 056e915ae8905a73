/-
  A region that draws its order, where each operation's outcome stands whatever comes up beside it. No condition.
-/
import Derived.Test.YtoigmepkhiknbaaDoorRegInv
namespace Go.Proofs.YtoigmepkhiknbaaDoor
open Go.RowKit
set_option linter.unusedVariables false
set_option linter.unusedSimpArgs false

/-- Where an operation's outcome lies. -/
def dstOf (ops : Array Oper) (i : Nat) : Nat := ((ops[i]?).bind (·.dst)).getD 0
/-- Each operation has a slot of its own, and waits for earlier ones only. -/
def flowOk (ops : Array Oper) (n : Nat) : Bool :=
  (List.range ops.size).all fun i => match ops[i]? with
    | none => false
    | some o => (match o.dst with | none => false | some d => decide (d < n) && (List.range i).all fun j => dstOf ops j != d) && o.after.all fun e => decide (e.on < i)
def notDst (ops : Array Oper) (t : Nat) : Bool := (List.range ops.size).all fun i => dstOf ops i != t
theorem flowOk_at {ops : Array Oper} {n : Nat} (h : flowOk ops n = true) {i : Nat} {o : Oper} (ho : ops[i]? = some o) :
    o.dst = some (dstOf ops i) ∧ dstOf ops i < n ∧ (∀ j, j < i → dstOf ops j ≠ dstOf ops i) ∧ ∀ e ∈ o.after, e.on < i := by
  have hi : i < ops.size := (Array.getElem?_eq_some_iff.1 ho).1
  have h1 := List.all_eq_true.1 h i (List.mem_range.2 hi)
  rw [ho] at h1
  simp only [Bool.and_eq_true] at h1
  obtain ⟨h2, h3⟩ := h1
  cases hd : o.dst with
  | none => rw [hd] at h2; cases h2
  | some d =>
    rw [hd] at h2
    simp only [Bool.and_eq_true, decide_eq_true_eq] at h2
    have he : dstOf ops i = d := by unfold dstOf; rw [ho]; simp [hd]
    rw [he]
    refine ⟨rfl, h2.1, fun j hj => ?_, fun e he => ?_⟩
    · have := List.all_eq_true.1 h2.2 j (List.mem_range.2 hj)
      simpa using this
    · have := (Array.all_eq_true_iff_forall_mem.1 h3) e he
      simpa using this

/-- What stands when an operation comes up. -/
structure FlowS (ops : Array Oper) (R : Nat → Value → World → Prop) (a0 : Act) (W : World) (i : Nat) (a : Act) (w : World) : Prop where
  low : Below W.heap.size W w
  same : ∀ t, notDst ops t = true → a.tmps[t]? = a0.tmps[t]?
  dep : ∀ o, ops[i]? = some o → ∀ e ∈ o.after, Region.binds .any e = true → R e.on (a.tmps.getD (dstOf ops e.on) undef) w
def depOk (ops : Array Oper) (i j : Nat) : Bool := match ops[i]? with
  | some o => o.after.any fun e => e.on == j && Region.binds .any e
  | none => false
theorem FlowS.of {ops : Array Oper} {R : Nat → Value → World → Prop} {a0 : Act} {W : World} {i : Nat} {a : Act} {w : World} (F : FlowS ops R a0 W i a w) (j : Nat) (h : depOk ops i j = true) : R j (a.tmps.getD (dstOf ops j) undef) w := by
  unfold depOk at h
  cases ho : ops[i]? with
  | none => rw [ho] at h; cases h
  | some o =>
    rw [ho] at h
    obtain ⟨k, hk, he⟩ := Array.any_iff_exists.1 h
    simp only [Bool.and_eq_true, beq_iff_eq] at he
    obtain ⟨he0, he1, he2⟩ := he
    have := F.dep o ho _ (Array.getElem_mem hk) he2.2
    rwa [he2.1] at this
structure FlowI (ops : Array Oper) (R : Nat → Value → World → Prop) (a0 : Act) (W : World) (l : Array Bool) (a : Act) (w : World) : Prop where
  sz : l.size = ops.size
  tsz : a.tmps.size = a0.tmps.size
  dfs : a.defers = a0.defers
  low : Below W.heap.size W w
  same : ∀ t, notDst ops t = true → a.tmps[t]? = a0.tmps[t]?
  got : ∀ i, i < ops.size → l.getD i false = true → R i (a.tmps.getD (dstOf ops i) undef) w
/-- The frame behind the region. -/
def puts (ops : Array Oper) (vs : Nat → Value) : Nat → Act → Act
  | 0, a => a
  | n + 1, a => (puts ops vs n a).put (some (dstOf ops n)) (vs n)
theorem puts_size (ops : Array Oper) (vs : Nat → Value) (a : Act) : ∀ n, (puts ops vs n a).tmps.size = a.tmps.size
  | 0 => rfl
  | n + 1 => by rw [puts, put_size, puts_size ops vs a n]
theorem puts_defs (ops : Array Oper) (vs : Nat → Value) (a : Act) : ∀ n, (puts ops vs n a).defers = a.defers
  | 0 => rfl
  | n + 1 => by rw [puts, put_defs, puts_defs ops vs a n]
theorem flow_frame {ops : Array Oper} {a0 a : Act} (hc : flowOk ops a0.tmps.size = true) (ht : a.tmps.size = a0.tmps.size) (hd : a.defers = a0.defers) (hs : ∀ t, notDst ops t = true → a.tmps[t]? = a0.tmps[t]?) :
    a = puts ops (fun i => a.tmps.getD (dstOf ops i) undef) ops.size a0 := by
  have key : ∀ n, n ≤ ops.size → ∀ t, (puts ops (fun i => a.tmps.getD (dstOf ops i) undef) n a0).tmps[t]? = if (∃ i, i < n ∧ dstOf ops i = t) then a.tmps[t]? else a0.tmps[t]? := by
    intro n
    induction n with
    | zero => intro _ t; rw [if_neg (by rintro ⟨i, h, _⟩; omega)]; rfl
    | succ n ih =>
      intro hn t
      obtain ⟨o, ho⟩ : ∃ o, ops[n]? = some o := ⟨_, Array.getElem?_eq_getElem (by omega)⟩
      obtain ⟨h1, h2, h3, h4⟩ := flowOk_at hc ho
      rw [puts, put_at _ _ _ (by rw [puts_size]; exact h2)]
      by_cases h : dstOf ops n = t
      · subst h
        rw [if_pos rfl, if_pos ⟨n, by omega, rfl⟩]
        have hlt : dstOf ops n < a.tmps.size := by rw [ht]; exact h2
        rw [Array.getD_eq_getD_getElem?, Array.getElem?_eq_getElem hlt]; rfl
      · rw [if_neg h, ih (by omega) t]
        by_cases h5 : ∃ i, i < n ∧ dstOf ops i = t
        · obtain ⟨i, h6, h7⟩ := h5
          rw [if_pos ⟨i, h6, h7⟩, if_pos ⟨i, by omega, h7⟩]
        · rw [if_neg h5, if_neg]
          rintro ⟨i, h6, h7⟩
          rcases Nat.lt_or_ge i n with h8 | h8
          · exact h5 ⟨i, h8, h7⟩
          · have : i = n := by omega
            subst this; exact h h7
  refine act_ext (by rw [puts_defs]; exact hd) fun t => ?_
  rw [key ops.size (Nat.le_refl _) t]
  by_cases h : ∃ i, i < ops.size ∧ dstOf ops i = t
  · rw [if_pos h]
  · rw [if_neg h]
    refine hs t (List.all_eq_true.2 fun i hi => ?_)
    simp only [bne_iff_ne, ne_eq]
    exact fun e => h ⟨i, List.mem_range.1 hi, e⟩

/-- The same, slot by slot. -/
def putL (vs : Nat → Value) : Nat → List Nat → Act → Act
  | _, [], a => a
  | i, d :: ds, a => putL vs (i + 1) ds (a.put (some d) (vs i))
theorem putL_snoc (vs : Nat → Value) (d : Nat) : ∀ (l : List Nat) (i : Nat) (a : Act), putL vs i (l ++ [d]) a = (putL vs i l a).put (some d) (vs (i + l.length))
  | [], i, a => rfl
  | x :: l, i, a => by
    show putL vs (i + 1) (l ++ [d]) _ = _
    rw [putL_snoc vs d l (i + 1), List.length_cons, show i + 1 + l.length = i + (l.length + 1) by omega]
    rfl
theorem puts_eq (ops : Array Oper) (vs : Nat → Value) (a : Act) (ds : List Nat) (h : (List.range ops.size).map (dstOf ops) = ds) : puts ops vs ops.size a = putL vs 0 ds a := by
  subst h
  have key : ∀ n, puts ops vs n a = putL vs 0 ((List.range n).map (dstOf ops)) a := by
    intro n
    induction n with
    | zero => rfl
    | succ n ih => rw [puts, ih, List.range_succ, List.map_append, List.map_singleton, putL_snoc, List.length_map, List.length_range, Nat.zero_add]
  exact key ops.size

theorem getD_tt' {l : Array Bool} {i : Nat} (hi : i < l.size) (h : l.getD i true = true) : l.getD i false = true := by
  rw [Array.getD_eq_getD_getElem?] at h ⊢
  rw [Array.getElem?_eq_getElem hi] at h ⊢
  exact h
theorem getD_set {l : Array Bool} {i j : Nat} (hne : j ≠ i) (h : (l.setIfInBounds i true).getD j false = true) : l.getD j false = true := by
  rw [Array.getD_eq_getD_getElem?, Array.getElem?_setIfInBounds, if_neg (fun e => hne e.symm)] at h
  rwa [Array.getD_eq_getD_getElem?]

theorem wp_region_flowA {P : Program} {ops : Array Oper} {Q : Exit → Act → World → Prop} {id : Nat} {a0 : Act} {W : World} (R : Nat → Value → World → Prop) (hm : P.follows .mixedOrders = true)
    (hchk : flowOk ops a0.tmps.size = true) (hst : ∀ i v w w', R i v w → Below w.heap.size w w' → R i v w')
    (hstep : ∀ i o, ops[i]? = some o → ∀ a w, FlowS ops R a0 W i a w → wpOp P ops Q i (fun a' w' => ∃ v, a' = a.put o.dst v ∧ Below w.heap.size w w' ∧ R i v w') a w)
    (hdone : ∀ (a : Act) w, a.tmps.size = a0.tmps.size → a.defers = a0.defers → (∀ t, notDst ops t = true → a.tmps[t]? = a0.tmps[t]?) → Below W.heap.size W w → (∀ i, i < ops.size → R i (a.tmps.getD (dstOf ops i) undef) w) → Q .normal a w) : (Code.region id ops true).wp P Q a0 W := by
  refine wp_region_from hm (fun a0 W l a w => FlowI ops R a0 W l a w) ?_ ?_ ?_
  · exact ⟨by simp, rfl, rfl, (Below.refl _ _).drew, fun _ _ => rfl, fun i hi h => by simp [hi] at h⟩
  · intro l a w hI hr
    have hno := ready_no hr
    have hall : ∀ i, i < ops.size → l.getD i false = true := by
      intro i
      induction i using Nat.strongRecOn with
      | ind i ih =>
        intro hi
        refine getD_tt' (by rw [hI.sz]; exact hi) ?_
        cases hq : l.getD i true with
        | true => rfl
        | false =>
          obtain ⟨o, ho⟩ : ∃ o, ops[i]? = some o := ⟨_, Array.getElem?_eq_getElem hi⟩
          refine absurd (mem_ready.2 ⟨hq, o, ho, fun e he hb => ?_⟩) (hno i)
          have := (flowOk_at hchk ho).2.2.2 e he
          exact ih e.on this (by omega)
    exact hdone a w hI.tsz hI.dfs hI.same hI.low fun i hi => hI.got i hi (hall i hi)
  · intro l a w i hI hi
    obtain ⟨hi0, o, ho, hdep⟩ := mem_ready.1 hi
    obtain ⟨h1, h2, h3, h4⟩ := flowOk_at hchk ho
    have hisz : i < ops.size := (Array.getElem?_eq_some_iff.1 ho).1
    refine wpOp_mono ?_ (hstep i o ho a w ⟨hI.low, hI.same, fun o' ho' e he hb => ?_⟩)
    · rintro a' w' ⟨v, rfl, hb, hR⟩
      rw [h1]
      refine ⟨by rw [Array.size_setIfInBounds]; exact hI.sz, by rw [put_size]; exact hI.tsz, by rw [put_defs]; exact hI.dfs, below_then hI.low hI.low.size hb, fun t ht => ?_, fun j hj hl => ?_⟩
      · rw [put_at _ _ _ (by rw [hI.tsz]; exact h2), if_neg]
        · exact hI.same t ht
        · have := List.all_eq_true.1 ht i (List.mem_range.2 hisz)
          simpa using this
      · rw [Array.getD_eq_getD_getElem?, put_at _ _ _ (by rw [hI.tsz]; exact h2)]
        by_cases hji : j = i
        · subst hji; rw [if_pos rfl]; exact hR
        · have hne : dstOf ops i ≠ dstOf ops j := by
            obtain ⟨o', ho'⟩ : ∃ o, ops[j]? = some o := ⟨_, Array.getElem?_eq_getElem hj⟩
            rcases Nat.lt_or_ge j i with h5 | h5
            · exact fun e => h3 j h5 e.symm
            · exact (flowOk_at hchk ho').2.2.1 i (by omega)
          rw [if_neg hne, ← Array.getD_eq_getD_getElem?]
          exact hst _ _ _ _ (hI.got j hj (getD_set hji hl)) hb
    · rw [ho] at ho'; cases ho'
      have h5 := h4 e he
      exact hI.got e.on (by omega) (hdep e he hb)

theorem wp_region_flow {P : Program} {ops : Array Oper} {Q : Exit → Act → World → Prop} {id : Nat} {a0 : Act} {W : World} (R : Nat → Value → World → Prop) (hm : P.follows .mixedOrders = true)
    (hchk : flowOk ops a0.tmps.size = true) (hst : ∀ i v w w', R i v w → Below w.heap.size w w' → R i v w')
    (hstep : ∀ i o, ops[i]? = some o → ∀ a w, FlowS ops R a0 W i a w → wpOp P ops Q i (fun a' w' => ∃ v, a' = a.put o.dst v ∧ Below w.heap.size w w' ∧ R i v w') a w)
    (hdone : ∀ (vs : Nat → Value) w, Below W.heap.size W w → (∀ i, i < ops.size → R i (vs i) w) → Q .normal (puts ops vs ops.size a0) w) : (Code.region id ops true).wp P Q a0 W := by
  refine wp_region_flowA R hm hchk hst hstep fun a w ht hd hs hl hg => ?_
  rw [flow_frame hchk ht hd hs]
  exact hdone _ w hl hg

/-! ### one operation -/
section
variable {P : Program} {ops : Array Oper} {o : Oper} {a : Act} {w : World} {K : Act → World → Prop} {Q : Exit → Act → World → Prop} {i : Nat}
theorem flow_plain (ho : ops[i]? = some o) (hg : o.guard = none) (h : o.wp P a w K Q) : wpOp P ops Q i K a w := by
  unfold wpOp
  rw [ho]
  simp only
  rw [if_pos (by simp [Region.wanted, hg])]
  exact .inl h
theorem flow_yes (ho : ops[i]? = some o) {g : Nat} {b : Bool} (hg : o.guard = some (g, b)) (d : Nat) (hd : (ops[g]?).bind (·.dst) = some d) (hy : a.tmps.getD d undef = .bool b) (h : o.wp P a w K Q) : wpOp P ops Q i K a w := by
  unfold wpOp
  rw [ho]
  simp only
  rw [if_pos ?_]
  · exact .inl h
  · simp only [Region.wanted, hg, yielded, hd, Option.bind_some]
    rw [Array.getD_eq_getD_getElem?] at hy
    cases hq : a.tmps[d]? with
    | none => rw [hq] at hy; cases hy
    | some v => rw [hq] at hy; simp only [Option.getD_some] at hy; subst hy; simp
theorem flow_no (ho : ops[i]? = some o) {g : Nat} {b : Bool} (hg : o.guard = some (g, b)) (d : Nat) (hd : (ops[g]?).bind (·.dst) = some d) (hy : a.tmps.getD d undef = .bool (!b)) (h : K (a.put o.dst undef) w) : wpOp P ops Q i K a w := by
  unfold wpOp
  rw [ho]
  simp only
  rw [if_neg ?_]
  · exact h
  · simp only [Region.wanted, hg, yielded, hd, Option.bind_some]
    rw [Array.getD_eq_getD_getElem?] at hy
    cases hq : a.tmps[d]? with
    | none => rw [hq] at hy; cases hy
    | some v => rw [hq] at hy; simp only [Option.getD_some] at hy; subst hy; cases b <;> simp
theorem op_assign (x : Operand) (h : o.op = .assign x) (hk : K (a.put o.dst (a.eval x)) w) : o.wp P a w K Q := by
  unfold Oper.wp execOp
  simp only [h, Sem.run_pure]
  exact hk
theorem op_conv (s d : TypeId) (x : Operand) (h : o.op = .convert s d x) (v : Value) (hr : (convert s d (a.eval x)).run P w = .ok v w) (hk : K (a.put o.dst v) w) : o.wp P a w K Q := by
  unfold Oper.wp execOp
  simp only [h, Sem.run_bind, hr, Result.andThen_ok, Sem.run_pure]
  exact hk
theorem op_pure (v : Value) (h : (execOp a.eval o).run P w = .ok (.value v) w) (hk : K (a.put o.dst v) w) : o.wp P a w K Q := by
  unfold Oper.wp
  rw [h]
  exact hk
theorem eval_out {ops : Array Oper} {R : Nat → Value → World → Prop} {a0 : Act} {W : World} (F : FlowS ops R a0 W i a w) (t : Nat) (ht : notDst ops t = true) (v : Value) (hv : a0.tmps[t]? = some v) : a.tmps.getD t undef = v := by
  rw [Array.getD_eq_getD_getElem?, F.same t ht, hv]; rfl
end
end Go.Proofs.YtoigmepkhiknbaaDoor
