/-
  A region that draws its order, where each operation's outcome stands while the world goes on by M; one last operation may write what it likes. No condition.
-/
import Derived.Test.YtoigmepkhiknbaaDoorFlow
namespace Go.Proofs.YtoigmepkhiknbaaDoor
open Go.RowKit
set_option linter.unusedVariables false
set_option linter.unusedSimpArgs false

/-- The first n have a slot of their own each, and wait for earlier ones only. -/
def flowOkN (ops : Array Oper) (n z : Nat) : Bool :=
  decide (n ≤ ops.size) && (List.range n).all fun i => match ops[i]? with
    | none => false
    | some o => (match o.dst with | none => false | some d => decide (d < z) && (List.range i).all fun j => dstOf ops j != d) && o.after.all fun e => decide (e.on < i)
/-- The last one waits for all. -/
def lastOk (ops : Array Oper) (n : Nat) : Bool := decide (n + 1 = ops.size) && ((List.range n).all fun i => depOk ops n i) && match ops[n]? with | none => false | some o => o.after.all fun e => decide (e.on < n)
def notDstN (ops : Array Oper) (n t : Nat) : Bool := (List.range n).all fun i => dstOf ops i != t
theorem flowOkN_at {ops : Array Oper} {n z : Nat} (h : flowOkN ops n z = true) {i : Nat} {o : Oper} (hi : i < n) (ho : ops[i]? = some o) :
    o.dst = some (dstOf ops i) ∧ dstOf ops i < z ∧ (∀ j, j < i → dstOf ops j ≠ dstOf ops i) ∧ ∀ e ∈ o.after, e.on < i := by
  simp only [flowOkN, Bool.and_eq_true] at h
  have h1 := List.all_eq_true.1 h.2 i (List.mem_range.2 hi)
  rw [ho] at h1
  simp only [Bool.and_eq_true] at h1
  obtain ⟨h2, h3⟩ := h1
  cases hd : o.dst with
  | none => rw [hd] at h2; cases h2
  | some d =>
    rw [hd] at h2
    simp only [Bool.and_eq_true, decide_eq_true_eq] at h2
    have he : dstOf ops i = d := by unfold dstOf; rw [ho]; simp [hd]
    rw [he]
    refine ⟨rfl, h2.1, fun j hj => ?_, fun e he => ?_⟩
    · have := List.all_eq_true.1 h2.2 j (List.mem_range.2 hj)
      simpa using this
    · have := (Array.all_eq_true_iff_forall_mem.1 h3) e he
      simpa using this

structure FlowSM (M : World → World → Prop) (ops : Array Oper) (n : Nat) (R : Nat → Value → World → Prop) (a0 : Act) (W : World) (i : Nat) (a : Act) (w : World) : Prop where
  low : M W w
  same : ∀ t, notDstN ops n t = true → a.tmps[t]? = a0.tmps[t]?
  dep : ∀ o, ops[i]? = some o → ∀ e ∈ o.after, Region.binds .any e = true → R e.on (a.tmps.getD (dstOf ops e.on) undef) w
theorem FlowSM.of {M : World → World → Prop} {ops : Array Oper} {n : Nat} {R : Nat → Value → World → Prop} {a0 : Act} {W : World} {i : Nat} {a : Act} {w : World} (F : FlowSM M ops n R a0 W i a w) (j : Nat) (h : depOk ops i j = true) : R j (a.tmps.getD (dstOf ops j) undef) w := by
  unfold depOk at h
  cases ho : ops[i]? with
  | none => rw [ho] at h; cases h
  | some o =>
    rw [ho] at h
    obtain ⟨k, hk, he⟩ := Array.any_iff_exists.1 h
    simp only [Bool.and_eq_true, beq_iff_eq] at he
    obtain ⟨he0, he1, he2⟩ := he
    have := F.dep o ho _ (Array.getElem_mem hk) he2.2
    rwa [he2.1] at this
theorem FlowSM.out {M : World → World → Prop} {ops : Array Oper} {n : Nat} {R : Nat → Value → World → Prop} {a0 : Act} {W : World} {i : Nat} {a : Act} {w : World} (F : FlowSM M ops n R a0 W i a w) (t : Nat) (ht : notDstN ops n t = true) (v : Value) (hv : a0.tmps[t]? = some v) : a.tmps.getD t undef = v := by
  rw [Array.getD_eq_getD_getElem?, F.same t ht, hv]; rfl
structure FlowIM (M : World → World → Prop) (ops : Array Oper) (n : Nat) (R : Nat → Value → World → Prop) (a0 : Act) (W : World) (l : Array Bool) (a : Act) (w : World) : Prop where
  tsz : a.tmps.size = a0.tmps.size
  dfs : a.defers = a0.defers
  low : M W w
  same : ∀ t, notDstN ops n t = true → a.tmps[t]? = a0.tmps[t]?
  got : ∀ i, i < n → l.getD i false = true → R i (a.tmps.getD (dstOf ops i) undef) w

theorem wp_region_flowM {P : Program} {ops : Array Oper} {Q : Exit → Act → World → Prop} {id : Nat} {a0 : Act} {W : World} (M : World → World → Prop) (n : Nat) (R : Nat → Value → World → Prop) (hm : P.follows .mixedOrders = true)
    (hchk : flowOkN ops n a0.tmps.size = true) (hM0 : M W W.drew) (hMt : ∀ a b c, M a b → M b c → M a c) (hst : ∀ i v w w', R i v w → M w w' → R i v w')
    (hstep : ∀ i o, i < n → ops[i]? = some o → ∀ a w, FlowSM M ops n R a0 W i a w → wpOp P ops Q i (fun a' w' => ∃ v, a' = a.put o.dst v ∧ M w w' ∧ R i v w') a w)
    (hn : n = ops.size ∨ lastOk ops n = true)
    (hdone : ∀ (a : Act) w, a.tmps.size = a0.tmps.size → a.defers = a0.defers → (∀ t, notDstN ops n t = true → a.tmps[t]? = a0.tmps[t]?) → M W w → (∀ i, i < n → R i (a.tmps.getD (dstOf ops i) undef) w) →
      (n = ops.size → Q .normal a w) ∧ (n < ops.size → wpOp P ops Q n (fun a' w' => Q .normal a' w') a w)) : (Code.region id ops true).wp P Q a0 W := by
  have hle : n ≤ ops.size := by
    simp only [flowOkN, Bool.and_eq_true, decide_eq_true_eq] at hchk; exact hchk.1
  refine wp_region_from hm (fun a0 W l a w => l.size = ops.size ∧ ((l.getD n false = false ∧ FlowIM M ops n R a0 W l a w) ∨ ((∀ i, i < ops.size → l.getD i true = true) ∧ Q .normal a w))) ?_ ?_ ?_
  · refine ⟨by simp, .inl ⟨?_, rfl, rfl, hM0, fun _ _ => rfl, fun i hi h => ?_⟩⟩
    · rw [Array.getD_eq_getD_getElem?, Array.getElem?_replicate]; split <;> rfl
    · rw [Array.getD_eq_getD_getElem?, Array.getElem?_replicate] at h
      split at h <;> cases h
  · rintro l a w ⟨hsz, hI | hI⟩ hr
    · obtain ⟨hln, hI⟩ := hI
      have hno := ready_no hr
      have hall : ∀ i, i < n → l.getD i false = true := by
        intro i
        induction i using Nat.strongRecOn with
        | ind i ih =>
          intro hi
          refine getD_tt' (by omega) ?_
          cases hq : l.getD i true with
          | true => rfl
          | false =>
            obtain ⟨o, ho⟩ : ∃ o, ops[i]? = some o := ⟨_, Array.getElem?_eq_getElem (by omega)⟩
            refine absurd (mem_ready.2 ⟨hq, o, ho, fun e he hb => ?_⟩) (hno i)
            have := (flowOkN_at hchk hi ho).2.2.2 e he
            exact ih e.on this (by omega)
      obtain ⟨h1, h2⟩ := hdone a w hI.tsz hI.dfs hI.same hI.low fun i hi => hI.got i hi (hall i hi)
      rcases Nat.lt_or_ge n ops.size with hlt | hge
      · exfalso
        obtain ⟨o, ho⟩ : ∃ o, ops[n]? = some o := ⟨_, Array.getElem?_eq_getElem hlt⟩
        have hl := hn.resolve_left (by omega)
        simp only [lastOk, Bool.and_eq_true, decide_eq_true_eq] at hl
        refine hno n (mem_ready.2 ⟨?_, o, ho, fun e he hb => ?_⟩)
        · rw [Array.getD_eq_getD_getElem?, Array.getElem?_eq_getElem (by omega)] at hln ⊢
          exact hln
        · rcases Nat.lt_or_ge e.on n with h3 | h3
          · exact hall e.on h3
          · have h5 := hl.2
            rw [ho] at h5
            have := (Array.all_eq_true_iff_forall_mem.1 h5) e he
            simp at this
            omega
      · exact h1 (by omega)
    · exact hI.2
  · rintro l a w i ⟨hsz, hI | hI⟩ hi
    · obtain ⟨hln, hI⟩ := hI
      obtain ⟨hi0, o, ho, hdep⟩ := mem_ready.1 hi
      have hisz : i < ops.size := (Array.getElem?_eq_some_iff.1 ho).1
      rcases Nat.lt_or_ge i n with hin | hin
      · obtain ⟨h1, h2, h3, h4⟩ := flowOkN_at hchk hin ho
        refine wpOp_mono ?_ (hstep i o hin ho a w ⟨hI.low, hI.same, fun o' ho' e he hb => ?_⟩)
        · rintro a' w' ⟨v, rfl, hb, hR⟩
          rw [h1]
          refine ⟨by rw [Array.size_setIfInBounds]; exact hsz, .inl ⟨?_, by rw [put_size]; exact hI.tsz, by rw [put_defs]; exact hI.dfs, hMt _ _ _ hI.low hb, fun t ht => ?_, fun j hj hl => ?_⟩⟩
          · rw [Array.getD_eq_getD_getElem?, Array.getElem?_setIfInBounds, if_neg (by omega), ← Array.getD_eq_getD_getElem?]; exact hln
          · rw [put_at _ _ _ (by rw [hI.tsz]; exact h2), if_neg]
            · exact hI.same t ht
            · have := List.all_eq_true.1 ht i (List.mem_range.2 hin)
              simpa using this
          · rw [Array.getD_eq_getD_getElem?, put_at _ _ _ (by rw [hI.tsz]; exact h2)]
            by_cases hji : j = i
            · subst hji; rw [if_pos rfl]; exact hR
            · have hne : dstOf ops i ≠ dstOf ops j := by
                obtain ⟨o', ho'⟩ : ∃ o, ops[j]? = some o := ⟨_, Array.getElem?_eq_getElem (by omega)⟩
                rcases Nat.lt_or_ge j i with h5 | h5
                · exact fun e => h3 j h5 e.symm
                · exact (flowOkN_at hchk hj ho').2.2.1 i (by omega)
              rw [if_neg hne, ← Array.getD_eq_getD_getElem?]
              exact hst _ _ _ _ (hI.got j hj (getD_set hji hl)) hb
        · rw [ho] at ho'; cases ho'
          have h5 := h4 e he
          exact hI.got e.on (by omega) (hdep e he hb)
      · have hl := hn.resolve_left (by omega)
        simp only [lastOk, Bool.and_eq_true, decide_eq_true_eq] at hl
        obtain rfl : i = n := by omega
        have hall : ∀ j, j < i → l.getD j false = true := by
          intro j hj
          have hd := List.all_eq_true.1 hl.1.2 j (List.mem_range.2 hj)
          unfold depOk at hd
          rw [ho] at hd
          obtain ⟨k, hk, he⟩ := Array.any_iff_exists.1 hd
          simp only [Bool.and_eq_true, beq_iff_eq] at he
          obtain ⟨_, he1, he2⟩ := he
          have := hdep _ (Array.getElem_mem hk) he2.2
          rwa [he2.1] at this
        obtain ⟨_, h2⟩ := hdone a w hI.tsz hI.dfs hI.same hI.low fun j hj => hI.got j hj (hall j hj)
        refine wpOp_mono ?_ (h2 (by omega))
        intro a' w' hq
        refine ⟨by rw [Array.size_setIfInBounds]; exact hsz, .inr ⟨fun j hj => ?_, hq⟩⟩
        rw [Array.getD_eq_getD_getElem?, Array.getElem?_setIfInBounds]
        by_cases hji : i = j
        · subst hji; rw [if_pos rfl, if_pos (by omega)]; rfl
        · rw [if_neg hji]
          have := hall j (by omega)
          rw [Array.getD_eq_getD_getElem?] at this
          rw [Array.getElem?_eq_getElem (by omega)] at this ⊢
          exact this
    · exfalso
      obtain ⟨hi0, o, ho, _⟩ := mem_ready.1 hi
      have hisz : i < ops.size := (Array.getElem?_eq_some_iff.1 ho).1
      rw [hI.1 i hisz] at hi0
      cases hi0
/-- The frame behind the first n. -/
theorem flow_frameN {ops : Array Oper} {n : Nat} {a0 a : Act} (hc : flowOkN ops n a0.tmps.size = true) (ht : a.tmps.size = a0.tmps.size) (hd : a.defers = a0.defers) (hs : ∀ t, notDstN ops n t = true → a.tmps[t]? = a0.tmps[t]?) (ds : List Nat) (hds : (List.range n).map (dstOf ops) = ds) :
    a = putL (fun i => a.tmps.getD (dstOf ops i) undef) 0 ds a0 := by
  subst hds
  have hle : n ≤ ops.size := by
    simp only [flowOkN, Bool.and_eq_true, decide_eq_true_eq] at hc; exact hc.1
  have key : ∀ m, m ≤ n → ∀ t, (puts ops (fun i => a.tmps.getD (dstOf ops i) undef) m a0).tmps[t]? = if (∃ i, i < m ∧ dstOf ops i = t) then a.tmps[t]? else a0.tmps[t]? := by
    intro m
    induction m with
    | zero => intro _ t; rw [if_neg (by rintro ⟨i, h, _⟩; omega)]; rfl
    | succ m ih =>
      intro hn t
      obtain ⟨o, ho⟩ : ∃ o, ops[m]? = some o := ⟨_, Array.getElem?_eq_getElem (by omega)⟩
      obtain ⟨h1, h2, h3, h4⟩ := flowOkN_at hc (by omega) ho
      rw [puts, put_at _ _ _ (by rw [puts_size]; exact h2)]
      by_cases h : dstOf ops m = t
      · subst h
        rw [if_pos rfl, if_pos ⟨m, by omega, rfl⟩]
        have hlt : dstOf ops m < a.tmps.size := by rw [ht]; exact h2
        rw [Array.getD_eq_getD_getElem?, Array.getElem?_eq_getElem hlt]; rfl
      · rw [if_neg h, ih (by omega) t]
        by_cases h5 : ∃ i, i < m ∧ dstOf ops i = t
        · obtain ⟨i, h6, h7⟩ := h5
          rw [if_pos ⟨i, h6, h7⟩, if_pos ⟨i, by omega, h7⟩]
        · rw [if_neg h5, if_neg]
          rintro ⟨i, h6, h7⟩
          rcases Nat.lt_or_ge i m with h8 | h8
          · exact h5 ⟨i, h8, h7⟩
          · have : i = m := by omega
            subst this; exact h h7
  have key2 : ∀ vs m, puts ops vs m a0 = putL vs 0 ((List.range m).map (dstOf ops)) a0 := by
    intro vs m
    induction m with
    | zero => rfl
    | succ m ih => rw [puts, ih, List.range_succ, List.map_append, List.map_singleton, putL_snoc, List.length_map, List.length_range, Nat.zero_add]
  rw [← key2]
  refine act_ext (by rw [puts_defs]; exact hd) fun t => ?_
  rw [key n (Nat.le_refl _) t]
  by_cases h : ∃ i, i < n ∧ dstOf ops i = t
  · rw [if_pos h]
  · rw [if_neg h]
    refine hs t (List.all_eq_true.2 fun i hi => ?_)
    simp only [bne_iff_ne, ne_eq]
    exact fun e => h ⟨i, List.mem_range.1 hi, e⟩
/-- The same law, the frame told behind the region. -/
theorem wp_region_flowMB {P : Program} {ops : Array Oper} {Q : Exit → Act → World → Prop} {id : Nat} {a0 : Act} {W : World} (M : World → World → Prop) (n : Nat) (R : Nat → Value → World → Prop) (ds : List Nat) (hds : (List.range n).map (dstOf ops) = ds) (hm : P.follows .mixedOrders = true)
    (hchk : flowOkN ops n a0.tmps.size = true) (hM0 : M W W.drew) (hMt : ∀ a b c, M a b → M b c → M a c) (hst : ∀ i v w w', R i v w → M w w' → R i v w')
    (hstep : ∀ i o, i < n → ops[i]? = some o → ∀ a w, FlowSM M ops n R a0 W i a w → wpOp P ops Q i (fun a' w' => ∃ v, a' = a.put o.dst v ∧ M w w' ∧ R i v w') a w)
    (hn : n = ops.size ∨ lastOk ops n = true)
    (hdone : ∀ (vs : Nat → Value) w, M W w → (∀ i, i < n → R i (vs i) w) →
      (n = ops.size → Q .normal (putL vs 0 ds a0) w) ∧ (n < ops.size → wpOp P ops Q n (fun a' w' => Q .normal a' w') (putL vs 0 ds a0) w)) : (Code.region id ops true).wp P Q a0 W := by
  refine wp_region_flowM M n R hm hchk hM0 hMt hst hstep hn fun a w h1 h2 h3 h4 h5 => ?_
  have h6 := hdone _ w h4 h5
  rw [← flow_frameN hchk h1 h2 h3 ds hds] at h6
  exact h6
theorem op_skip {P : Program} {o : Oper} {a : Act} {w : World} {K : Act → World → Prop} {Q : Exit → Act → World → Prop} (w' : World) (h : (execOp a.eval o).run P w = .ok .skip w') (hk : K (a.put o.dst undef) w') : o.wp P a w K Q := by
  unfold Oper.wp
  rw [h]
  exact hk
theorem op_val {P : Program} {o : Oper} {a : Act} {w : World} {K : Act → World → Prop} {Q : Exit → Act → World → Prop} (v : Value) (w' : World) (h : (execOp a.eval o).run P w = .ok (.value v) w') (hk : K (a.put o.dst v) w') : o.wp P a w K Q := by
  unfold Oper.wp
  rw [h]
  exact hk
end Go.Proofs.YtoigmepkhiknbaaDoor
