/-
  A region that draws its order, in two phases: one operation (an append) writes a row of the call's own; behind it only still operations come up, and one last store. No condition.
-/
import Derived.Test.YtoigmepkhiknbaaDoorFlowM
namespace Go.Proofs.YtoigmepkhiknbaaDoor
open Go.RowKit
set_option linter.unusedVariables false
set_option linter.unusedSimpArgs false

/-- Must i come up ahead of s? -/
def reachF (ops : Array Oper) : Nat → Nat → Nat → Bool
  | 0, _, _ => false
  | f + 1, s, i => depOk ops s i || (List.range ops.size).any fun j => depOk ops s j && reachF ops f j i
/-- What has come up has its grounds. -/
def Closed (ops : Array Oper) (l : Array Bool) : Prop := ∀ i j, l.getD i false = true → depOk ops i j = true → l.getD j false = true
theorem Closed.reach {ops : Array Oper} {l : Array Bool} (h : Closed ops l) : ∀ f s i, l.getD s false = true → reachF ops f s i = true → l.getD i false = true
  | 0, s, i, _, hr => by cases hr
  | f + 1, s, i, hs, hr => by
    simp only [reachF, Bool.or_eq_true] at hr
    rcases hr with hr | hr
    · exact h s i hs hr
    · obtain ⟨j, _, hj⟩ := List.any_eq_true.1 hr
      simp only [Bool.and_eq_true] at hj
      exact Closed.reach h f j i (h s j hs hj.1) hj.2
theorem depOk_of {ops : Array Oper} {i j : Nat} {o : Oper} (ho : ops[i]? = some o) (h : depOk ops i j = true) : ∃ e ∈ o.after, e.on = j ∧ Region.binds .any e = true := by
  unfold depOk at h
  rw [ho] at h
  obtain ⟨k, hk, he⟩ := Array.any_iff_exists.1 h
  simp only [Bool.and_eq_true, beq_iff_eq] at he
  obtain ⟨_, _, he2⟩ := he
  exact ⟨_, Array.getElem_mem hk, he2.1, he2.2⟩
theorem getD_in {l : Array Bool} {i j : Nat} (h : l.getD j false = true) : (l.setIfInBounds i true).getD j false = true := by
  rw [Array.getD_eq_getD_getElem?, Array.getElem?_setIfInBounds]
  rw [Array.getD_eq_getD_getElem?] at h
  split
  · split <;> simp_all
  · exact h
theorem getD_lt {l : Array Bool} {j : Nat} (h : l.getD j false = true) : j < l.size := by
  rcases Nat.lt_or_ge j l.size with h1 | h1
  · exact h1
  · rw [Array.getD_eq_getD_getElem?, Array.getElem?_eq_none h1] at h; cases h
theorem Closed.set {ops : Array Oper} {l : Array Bool} (h : Closed ops l) {i : Nat} {o : Oper} (ho : ops[i]? = some o) (hd : ∀ e ∈ o.after, Region.binds .any e = true → l.getD e.on false = true) : Closed ops (l.setIfInBounds i true) := by
  intro a b ha hab
  by_cases hai : a = i
  · subst hai
    obtain ⟨e, he, rfl, hb⟩ := depOk_of ho hab
    exact getD_in (hd e he hb)
  · exact getD_in (h a b (getD_set hai ha) hab)

/-- The last operation comes up behind all others, directly or not. -/
def lastOkR (ops : Array Oper) (n : Nat) : Bool := decide (n + 1 = ops.size) && ((List.range n).all fun i => reachF ops ops.size n i) && match ops[n]? with | none => false | some o => o.after.all fun e => decide (e.on < n)
theorem reach_dep {ops : Array Oper} {l : Array Bool} (h : Closed ops l) {n : Nat} {o : Oper} (ho : ops[n]? = some o) (hdep : ∀ e ∈ o.after, Region.binds .any e = true → l.getD e.on false = true) : ∀ f i, reachF ops f n i = true → l.getD i false = true
  | 0, i, hr => by cases hr
  | f + 1, i, hr => by
    simp only [reachF, Bool.or_eq_true] at hr
    rcases hr with hr | hr
    · obtain ⟨e, he, rfl, hb⟩ := depOk_of ho hr
      exact hdep e he hb
    · obtain ⟨j, _, hj⟩ := List.any_eq_true.1 hr
      simp only [Bool.and_eq_true] at hj
      obtain ⟨e, he, rfl, hb⟩ := depOk_of ho hj.1
      exact h.reach f _ _ (hdep e he hb) hj.2
/-- What stands when an operation comes up in the second phase. -/
structure FlowSP (ops : Array Oper) (n s : Nat) (pureR : Nat → Value → Prop) (a0 : Act) (i : Nat) (a : Act) : Prop where
  same : ∀ t, notDstN ops n t = true → a.tmps[t]? = a0.tmps[t]?
  dep : ∀ j, depOk ops i j = true → j ≠ s → pureR j (a.tmps.getD (dstOf ops j) undef)
theorem FlowSP.out {ops : Array Oper} {n s : Nat} {pureR : Nat → Value → Prop} {a0 : Act} {i : Nat} {a : Act} (F : FlowSP ops n s pureR a0 i a) (t : Nat) (ht : notDstN ops n t = true) (v : Value) (hv : a0.tmps[t]? = some v) : a.tmps.getD t undef = v := by
  rw [Array.getD_eq_getD_getElem?, F.same t ht, hv]; rfl
structure FlowI1 (Mt : World → World → Prop) (ops : Array Oper) (n s : Nat) (pureR : Nat → Value → Prop) (Rs : Value → World → Prop) (a0 : Act) (W : World) (l : Array Bool) (a : Act) (w : World) : Prop where
  tsz : a.tmps.size = a0.tmps.size
  dfs : a.defers = a0.defers
  low : Mt W w
  same : ∀ t, notDstN ops n t = true → a.tmps[t]? = a0.tmps[t]?
  got : ∀ i, i < n → i ≠ s → l.getD i false = true → pureR i (a.tmps.getD (dstOf ops i) undef)
  sw : Rs (a.tmps.getD (dstOf ops s) undef) w

theorem wp_region_flowP {P : Program} {ops : Array Oper} {Q : Exit → Act → World → Prop} {id : Nat} {a0 : Act} {W : World} (M0 Mt : World → World → Prop) (n s : Nat) (R : Nat → Value → World → Prop) (pureR : Nat → Value → Prop) (Rs : Value → World → Prop) (hm : P.follows .mixedOrders = true)
    (hchk : flowOkN ops n a0.tmps.size = true) (hs : s < n) (hM0 : M0 W W.drew) (hMt0 : ∀ a b c, M0 a b → M0 b c → M0 a c) (hst : ∀ i v w w', R i v w → M0 w w' → R i v w') (hpure : ∀ i v w, R i v w → pureR i v)
    (hst1 : ∀ v w w', Rs v w → Below w.heap.size w w' → Rs v w') (hMt1 : ∀ w w', Mt W w → Below w.heap.size w w' → Mt W w')
    (hstep : ∀ i o, i < n → i ≠ s → ops[i]? = some o → ∀ a w, FlowSM M0 ops n R a0 W i a w → wpOp P ops Q i (fun a' w' => ∃ v, a' = a.put o.dst v ∧ M0 w w' ∧ R i v w') a w)
    (hswitch : ∀ o, ops[s]? = some o → ∀ a w, FlowSM M0 ops n R a0 W s a w → wpOp P ops Q s (fun a' w' => ∃ v, a' = a.put o.dst v ∧ Mt W w' ∧ Rs v w') a w)
    (hstep1 : ∀ i o, i < n → i ≠ s → reachF ops ops.size s i = false → ops[i]? = some o → ∀ a w, FlowSP ops n s pureR a0 i a → wpOp P ops Q i (fun a' w' => ∃ v, a' = a.put o.dst v ∧ Below w.heap.size w w' ∧ pureR i v) a w)
    (hn : n = ops.size ∨ lastOkR ops n = true)
    (hdone : ∀ (a : Act) w, a.tmps.size = a0.tmps.size → a.defers = a0.defers → (∀ t, notDstN ops n t = true → a.tmps[t]? = a0.tmps[t]?) → Mt W w → (∀ i, i < n → i ≠ s → pureR i (a.tmps.getD (dstOf ops i) undef)) → Rs (a.tmps.getD (dstOf ops s) undef) w →
      (n = ops.size → Q .normal a w) ∧ (n < ops.size → wpOp P ops Q n (fun a' w' => Q .normal a' w') a w)) : (Code.region id ops true).wp P Q a0 W := by
  have hle : n ≤ ops.size := by
    simp only [flowOkN, Bool.and_eq_true, decide_eq_true_eq] at hchk; exact hchk.1
  refine wp_region_from hm (fun a0 W l a w => l.size = ops.size ∧ Closed ops l ∧ ((l.getD n false = false ∧ l.getD s false = false ∧ FlowIM M0 ops n R a0 W l a w) ∨ (l.getD n false = false ∧ l.getD s false = true ∧ FlowI1 Mt ops n s pureR Rs a0 W l a w) ∨ ((∀ i, i < ops.size → l.getD i true = true) ∧ Q .normal a w))) ?_ ?_ ?_
  · have hrep : ∀ j, (Array.replicate ops.size false).getD j false = false := fun j => by
      rw [Array.getD_eq_getD_getElem?, Array.getElem?_replicate]; split <;> rfl
    have hcl0 : Closed ops (Array.replicate ops.size false) := fun i j h => by rw [hrep] at h; cases h
    refine ⟨by simp, hcl0, .inl ⟨hrep _, hrep _, rfl, rfl, hM0, fun _ _ => rfl, fun i hi h => by rw [hrep] at h; cases h⟩⟩
  · rintro l a w ⟨hsz, hcl, hI⟩ hr
    have hno := ready_no hr
    have hall : ∀ i, i < n → l.getD i false = true := by
      intro i
      induction i using Nat.strongRecOn with
      | ind i ih =>
        intro hi
        refine getD_tt' (by omega) ?_
        cases hq : l.getD i true with
        | true => rfl
        | false =>
          obtain ⟨o, ho⟩ : ∃ o, ops[i]? = some o := ⟨_, Array.getElem?_eq_getElem (by omega)⟩
          refine absurd (mem_ready.2 ⟨hq, o, ho, fun e he hb => ?_⟩) (hno i)
          have := (flowOkN_at hchk hi ho).2.2.2 e he
          exact ih e.on this (by omega)
    rcases hI with ⟨_, h1, _⟩ | ⟨hln, _, hI⟩ | ⟨_, hQ⟩
    · rw [hall s hs] at h1; cases h1
    · obtain ⟨h1, h2⟩ := hdone a w hI.tsz hI.dfs hI.same hI.low (fun i hi hne => hI.got i hi hne (hall i hi)) hI.sw
      rcases Nat.lt_or_ge n ops.size with hlt | hge
      · exfalso
        obtain ⟨o, ho⟩ : ∃ o, ops[n]? = some o := ⟨_, Array.getElem?_eq_getElem hlt⟩
        have hl := hn.resolve_left (by omega)
        simp only [lastOkR, Bool.and_eq_true, decide_eq_true_eq] at hl
        refine hno n (mem_ready.2 ⟨?_, o, ho, fun e he hb => ?_⟩)
        · rw [Array.getD_eq_getD_getElem?, Array.getElem?_eq_getElem (by omega)] at hln ⊢
          exact hln
        · have h5 := hl.2
          rw [ho] at h5
          have := (Array.all_eq_true_iff_forall_mem.1 h5) e he
          simp at this
          exact hall e.on this
      · exact h1 (by omega)
    · exact hQ
  · rintro l a w i ⟨hsz, hcl, hI⟩ hi
    obtain ⟨hi0, o, ho, hdep⟩ := mem_ready.1 hi
    have hisz : i < ops.size := (Array.getElem?_eq_some_iff.1 ho).1
    have hcl' := hcl.set ho hdep
    have hsz' : (l.setIfInBounds i true).size = ops.size := by rw [Array.size_setIfInBounds]; exact hsz
    have hif : l.getD i false = false := by
      rw [Array.getD_eq_getD_getElem?, Array.getElem?_eq_getElem (by omega)] at hi0 ⊢
      exact hi0
    have hset : ∀ j, j ≠ i → (l.setIfInBounds i true).getD j false = l.getD j false := fun j hj => by
      rw [Array.getD_eq_getD_getElem?, Array.getElem?_setIfInBounds, if_neg (fun h => hj h.symm), ← Array.getD_eq_getD_getElem?]
    have hself : (l.setIfInBounds i true).getD i false = true := by
      rw [Array.getD_eq_getD_getElem?, Array.getElem?_setIfInBounds, if_pos rfl, if_pos (by omega)]; rfl
    rcases hI with ⟨hln, hls, hI⟩ | ⟨hln, hls, hI⟩ | ⟨hA, _⟩
    · have hin : i < n := by
        rcases Nat.lt_or_ge i n with h | h
        · exact h
        · exfalso
          have hl := hn.resolve_left (by omega)
          simp only [lastOkR, Bool.and_eq_true, decide_eq_true_eq] at hl
          obtain rfl : i = n := by omega
          have hd := List.all_eq_true.1 hl.1.2 s (List.mem_range.2 hs)
          rw [reach_dep hcl ho hdep _ _ hd] at hls; cases hls
      obtain ⟨h1, h2, h3, h4⟩ := flowOkN_at hchk hin ho
      have hF : FlowSM M0 ops n R a0 W i a w := ⟨hI.low, hI.same, fun o' ho' e he hb => by
        rw [ho] at ho'; cases ho'
        have h5 := h4 e he
        exact hI.got e.on (by omega) (hdep e he hb)⟩
      have hother : ∀ (v : Value) j, j < n → j ≠ i → dstOf ops i ≠ dstOf ops j := fun v j hj hji => by
        obtain ⟨o', ho'⟩ : ∃ o, ops[j]? = some o := ⟨_, Array.getElem?_eq_getElem (by omega)⟩
        rcases Nat.lt_or_ge j i with h5 | h5
        · exact fun e => h3 j h5 e.symm
        · exact (flowOkN_at hchk hj ho').2.2.1 i (by omega)
      have hsame : ∀ v t, notDstN ops n t = true → (a.put (some (dstOf ops i)) v).tmps[t]? = a0.tmps[t]? := fun v t ht => by
        rw [put_at _ _ _ (by rw [hI.tsz]; exact h2), if_neg]
        · exact hI.same t ht
        · have := List.all_eq_true.1 ht i (List.mem_range.2 hin)
          simpa using this
      by_cases his : i = s
      · subst his
        refine wpOp_mono ?_ (hswitch o ho a w hF)
        rintro a' w' ⟨v, rfl, hb, hR⟩
        rw [h1]
        refine ⟨hsz', hcl', .inr (.inl ⟨by rw [hset n (by omega)]; exact hln, hself, by rw [put_size]; exact hI.tsz, by rw [put_defs]; exact hI.dfs, hb, hsame v, fun j hj hji hl => ?_, ?_⟩)⟩
        · rw [Array.getD_eq_getD_getElem?, put_at _ _ _ (by rw [hI.tsz]; exact h2), if_neg (hother v j hj hji), ← Array.getD_eq_getD_getElem?]
          exact hpure _ _ _ (hI.got j hj (by rw [← hset j hji]; exact hl))
        · rw [Array.getD_eq_getD_getElem?, put_at _ _ _ (by rw [hI.tsz]; exact h2), if_pos rfl]; exact hR
      · refine wpOp_mono ?_ (hstep i o hin his ho a w hF)
        rintro a' w' ⟨v, rfl, hb, hR⟩
        rw [h1]
        refine ⟨hsz', hcl', .inl ⟨by rw [hset n (by omega)]; exact hln, by rw [hset s (fun h => his h.symm)]; exact hls, by rw [put_size]; exact hI.tsz, by rw [put_defs]; exact hI.dfs, hMt0 _ _ _ hI.low hb, hsame v, fun j hj hl => ?_⟩⟩
        rw [Array.getD_eq_getD_getElem?, put_at _ _ _ (by rw [hI.tsz]; exact h2)]
        by_cases hji : j = i
        · subst hji; rw [if_pos rfl]; exact hR
        · rw [if_neg (hother v j hj hji), ← Array.getD_eq_getD_getElem?]
          exact hst _ _ _ _ (hI.got j hj (by rw [← hset j hji]; exact hl)) hb
    · rcases Nat.lt_or_ge i n with hin | hin
      · obtain ⟨h1, h2, h3, h4⟩ := flowOkN_at hchk hin ho
        have his : i ≠ s := fun h => by subst h; rw [hls] at hif; cases hif
        have hnr : reachF ops ops.size s i = false := by
          cases hq : reachF ops ops.size s i with
          | false => rfl
          | true => rw [hcl.reach _ _ _ hls hq] at hif; cases hif
        have hother : ∀ j, j < n → j ≠ i → dstOf ops i ≠ dstOf ops j := fun j hj hji => by
          obtain ⟨o', ho'⟩ : ∃ o, ops[j]? = some o := ⟨_, Array.getElem?_eq_getElem (by omega)⟩
          rcases Nat.lt_or_ge j i with h5 | h5
          · exact fun e => h3 j h5 e.symm
          · exact (flowOkN_at hchk hj ho').2.2.1 i (by omega)
        refine wpOp_mono ?_ (hstep1 i o hin his hnr ho a w ⟨hI.same, fun j hj hne => ?_⟩)
        · rintro a' w' ⟨v, rfl, hb, hR⟩
          rw [h1]
          refine ⟨hsz', hcl', .inr (.inl ⟨by rw [hset n (by omega)]; exact hln, getD_in hls, by rw [put_size]; exact hI.tsz, by rw [put_defs]; exact hI.dfs, hMt1 _ _ hI.low hb, fun t ht => ?_, fun j hj hjs hl => ?_, ?_⟩)⟩
          · rw [put_at _ _ _ (by rw [hI.tsz]; exact h2), if_neg]
            · exact hI.same t ht
            · have := List.all_eq_true.1 ht i (List.mem_range.2 hin)
              simpa using this
          · rw [Array.getD_eq_getD_getElem?, put_at _ _ _ (by rw [hI.tsz]; exact h2)]
            by_cases hji : j = i
            · subst hji; rw [if_pos rfl]; exact hR
            · rw [if_neg (hother j hj hji), ← Array.getD_eq_getD_getElem?]
              exact hI.got j hj hjs (by rw [← hset j hji]; exact hl)
          · rw [Array.getD_eq_getD_getElem?, put_at _ _ _ (by rw [hI.tsz]; exact h2), if_neg (hother s hs (fun h => his h.symm)), ← Array.getD_eq_getD_getElem?]
            exact hst1 _ _ _ hI.sw hb
        · obtain ⟨e, he, rfl, hb⟩ := depOk_of ho hj
          exact hI.got e.on (by have := h4 e he; omega) hne (hdep e he hb)
      · have hl := hn.resolve_left (by omega)
        simp only [lastOkR, Bool.and_eq_true, decide_eq_true_eq] at hl
        obtain rfl : i = n := by omega
        have hall : ∀ j, j < i → l.getD j false = true := by
          intro j hj
          have hd := List.all_eq_true.1 hl.1.2 j (List.mem_range.2 hj)
          exact reach_dep hcl ho hdep _ _ hd
        obtain ⟨_, h2⟩ := hdone a w hI.tsz hI.dfs hI.same hI.low (fun j hj hjs => hI.got j hj hjs (hall j hj)) hI.sw
        refine wpOp_mono ?_ (h2 (by omega))
        intro a' w' hq
        refine ⟨hsz', hcl', .inr (.inr ⟨fun j hj => ?_, hq⟩)⟩
        rw [Array.getD_eq_getD_getElem?, Array.getElem?_setIfInBounds]
        by_cases hji : i = j
        · subst hji; rw [if_pos rfl, if_pos (by omega)]; rfl
        · rw [if_neg hji]
          have := hall j (by omega)
          rw [Array.getD_eq_getD_getElem?] at this
          rw [Array.getElem?_eq_getElem (by omega)] at this ⊢
          exact this
    · exfalso
      rw [hA i hisz] at hi0
      cases hi0

/-- The same law, the frame told behind the region. -/
theorem wp_region_flowPB {P : Program} {ops : Array Oper} {Q : Exit → Act → World → Prop} {id : Nat} {a0 : Act} {W : World} (M0 Mt : World → World → Prop) (n s : Nat) (R : Nat → Value → World → Prop) (pureR : Nat → Value → Prop) (Rs : Value → World → Prop) (ds : List Nat) (hds : (List.range n).map (dstOf ops) = ds) (hm : P.follows .mixedOrders = true)
    (hchk : flowOkN ops n a0.tmps.size = true) (hs : s < n) (hM0 : M0 W W.drew) (hMt0 : ∀ a b c, M0 a b → M0 b c → M0 a c) (hst : ∀ i v w w', R i v w → M0 w w' → R i v w') (hpure : ∀ i v w, R i v w → pureR i v)
    (hst1 : ∀ v w w', Rs v w → Below w.heap.size w w' → Rs v w') (hMt1 : ∀ w w', Mt W w → Below w.heap.size w w' → Mt W w')
    (hstep : ∀ i o, i < n → i ≠ s → ops[i]? = some o → ∀ a w, FlowSM M0 ops n R a0 W i a w → wpOp P ops Q i (fun a' w' => ∃ v, a' = a.put o.dst v ∧ M0 w w' ∧ R i v w') a w)
    (hswitch : ∀ o, ops[s]? = some o → ∀ a w, FlowSM M0 ops n R a0 W s a w → wpOp P ops Q s (fun a' w' => ∃ v, a' = a.put o.dst v ∧ Mt W w' ∧ Rs v w') a w)
    (hstep1 : ∀ i o, i < n → i ≠ s → reachF ops ops.size s i = false → ops[i]? = some o → ∀ a w, FlowSP ops n s pureR a0 i a → wpOp P ops Q i (fun a' w' => ∃ v, a' = a.put o.dst v ∧ Below w.heap.size w w' ∧ pureR i v) a w)
    (hn : n = ops.size ∨ lastOkR ops n = true)
    (hdone : ∀ (vs : Nat → Value) w, Mt W w → (∀ i, i < n → i ≠ s → pureR i (vs i)) → Rs (vs s) w →
      (n = ops.size → Q .normal (putL vs 0 ds a0) w) ∧ (n < ops.size → wpOp P ops Q n (fun a' w' => Q .normal a' w') (putL vs 0 ds a0) w)) : (Code.region id ops true).wp P Q a0 W := by
  refine wp_region_flowP M0 Mt n s R pureR Rs hm hchk hs hM0 hMt0 hst hpure hst1 hMt1 hstep hswitch hstep1 hn fun a w h1 h2 h3 h4 h5 h6 => ?_
  have h7 := hdone (fun i => a.tmps.getD (dstOf ops i) undef) w h4 h5 h6
  rw [← flow_frameN hchk h1 h2 h3 ds hds] at h7
  exact h7
/-- What an append to a row of the call's own keeps. -/
theorem grown_of_below {w w' : World} (row : Option Nat) (hb : Below w.heap.size w w') : w.grownBy w' row := ⟨hb.os, hb.tape, hb.output, hb.size, fun k hk _ => hb.block k hk⟩
end Go.Proofs.YtoigmepkhiknbaaDoor
