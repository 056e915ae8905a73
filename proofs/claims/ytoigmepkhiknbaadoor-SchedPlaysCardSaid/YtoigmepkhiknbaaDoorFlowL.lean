/-
  A region that draws its order, in which operations may write what is the call's own: what each slot holds may hang on what has come up. No condition.
-/
import Derived.Test.YtoigmepkhiknbaaDoorFlowP
import Derived.Test.YtoigmepkhiknbaaDoorAppRows
namespace Go.Proofs.YtoigmepkhiknbaaDoor
open Go.RowKit Go.Joins
set_option linter.unusedVariables false
set_option linter.unusedSimpArgs false

/-- What stands when an operation comes up. -/
structure FlowSL (I : Array Bool → World → Prop) (ops : Array Oper) (n : Nat) (R : Nat → Array Bool → Value → World → Prop) (a0 : Act) (W : World) (l : Array Bool) (i : Nat) (a : Act) (w : World) : Prop where
  low : I l w
  same : ∀ t, notDstN ops n t = true → a.tmps[t]? = a0.tmps[t]?
  dep : ∀ o, ops[i]? = some o → ∀ e ∈ o.after, Region.binds .any e = true → R e.on l (a.tmps.getD (dstOf ops e.on) undef) w
  due : l.getD i false = false
  sz : l.size = ops.size
  cl : Closed ops l
  up : ∃ o, ops[i]? = some o ∧ ∀ e ∈ o.after, Region.binds .any e = true → l.getD e.on false = true
  got : ∀ j, j < n → l.getD j false = true → R j l (a.tmps.getD (dstOf ops j) undef) w
theorem FlowSL.of {I : Array Bool → World → Prop} {ops : Array Oper} {n : Nat} {R : Nat → Array Bool → Value → World → Prop} {a0 : Act} {W : World} {l : Array Bool} {i : Nat} {a : Act} {w : World} (F : FlowSL I ops n R a0 W l i a w) (j : Nat) (h : depOk ops i j = true) : R j l (a.tmps.getD (dstOf ops j) undef) w := by
  unfold depOk at h
  cases ho : ops[i]? with
  | none => rw [ho] at h; cases h
  | some o =>
    rw [ho] at h
    obtain ⟨k, hk, he⟩ := Array.any_iff_exists.1 h
    simp only [Bool.and_eq_true, beq_iff_eq] at he
    obtain ⟨he0, he1, he2⟩ := he
    have := F.dep o ho _ (Array.getElem_mem hk) he2.2
    rwa [he2.1] at this
theorem FlowSL.out {I : Array Bool → World → Prop} {ops : Array Oper} {n : Nat} {R : Nat → Array Bool → Value → World → Prop} {a0 : Act} {W : World} {l : Array Bool} {i : Nat} {a : Act} {w : World} (F : FlowSL I ops n R a0 W l i a w) (t : Nat) (ht : notDstN ops n t = true) (v : Value) (hv : a0.tmps[t]? = some v) : a.tmps.getD t undef = v := by
  rw [Array.getD_eq_getD_getElem?, F.same t ht, hv]; rfl
theorem FlowSL.did {I : Array Bool → World → Prop} {ops : Array Oper} {n : Nat} {R : Nat → Array Bool → Value → World → Prop} {a0 : Act} {W : World} {l : Array Bool} {i : Nat} {a : Act} {w : World} (F : FlowSL I ops n R a0 W l i a w) (j : Nat) (h : reachF ops ops.size i j = true) : l.getD j false = true := by
  obtain ⟨o, ho, hd⟩ := F.up
  exact reach_dep F.cl ho hd _ _ h
structure FlowIL (I : Array Bool → World → Prop) (ops : Array Oper) (n : Nat) (R : Nat → Array Bool → Value → World → Prop) (a0 : Act) (W : World) (l : Array Bool) (a : Act) (w : World) : Prop where
  tsz : a.tmps.size = a0.tmps.size
  dfs : a.defers = a0.defers
  low : I l w
  same : ∀ t, notDstN ops n t = true → a.tmps[t]? = a0.tmps[t]?
  got : ∀ i, i < n → l.getD i false = true → R i l (a.tmps.getD (dstOf ops i) undef) w

theorem wp_region_flowL {P : Program} {ops : Array Oper} {Q : Exit → Act → World → Prop} {id : Nat} {a0 : Act} {W : World} (I : Array Bool → World → Prop) (n : Nat) (S : Nat → Bool) (R : Nat → Array Bool → Value → World → Prop) (ds : List Nat) (hds : (List.range n).map (dstOf ops) = ds) (hm : P.follows .mixedOrders = true)
    (hchk : flowOkN ops n a0.tmps.size = true) (hM0 : I (Array.replicate ops.size false) W.drew) (hMt1 : ∀ i l w w', S i = false → I l w → Below w.heap.size w w' → I (l.setIfInBounds i true) w')
    (hst : ∀ j i l v w w', S i = false → R j l v w → Below w.heap.size w w' → R j (l.setIfInBounds i true) v w')
    (hstep : ∀ i o, i < n → S i = false → ops[i]? = some o → ∀ l a w, FlowSL I ops n R a0 W l i a w → wpOp P ops Q i (fun a' w' => ∃ v, a' = a.put o.dst v ∧ Below w.heap.size w w' ∧ R i (l.setIfInBounds i true) v w') a w)
    (hwrite : ∀ i o, i < n → S i = true → ops[i]? = some o → ∀ l a w, FlowSL I ops n R a0 W l i a w → wpOp P ops Q i (fun a' w' => ∃ v, a' = a.put o.dst v ∧ I (l.setIfInBounds i true) w' ∧ R i (l.setIfInBounds i true) v w' ∧ ∀ j, j < n → j ≠ i → l.getD j false = true → R j l (a.tmps.getD (dstOf ops j) undef) w → R j (l.setIfInBounds i true) (a.tmps.getD (dstOf ops j) undef) w') a w)
    (hn : n = ops.size ∨ lastOkR ops n = true)
    (hdone : ∀ (vs : Nat → Value) l w, (∀ i, i < n → l.getD i false = true) → I l w → (∀ i, i < n → R i l (vs i) w) →
      (n = ops.size → Q .normal (putL vs 0 ds a0) w) ∧ (n < ops.size → wpOp P ops Q n (fun a' w' => Q .normal a' w') (putL vs 0 ds a0) w)) : (Code.region id ops true).wp P Q a0 W := by
  have hle : n ≤ ops.size := by
    simp only [flowOkN, Bool.and_eq_true, decide_eq_true_eq] at hchk; exact hchk.1
  have hdone' : ∀ (a : Act) l w, a.tmps.size = a0.tmps.size → a.defers = a0.defers → (∀ t, notDstN ops n t = true → a.tmps[t]? = a0.tmps[t]?) → (∀ i, i < n → l.getD i false = true) → I l w → (∀ i, i < n → R i l (a.tmps.getD (dstOf ops i) undef) w) →
      (n = ops.size → Q .normal a w) ∧ (n < ops.size → wpOp P ops Q n (fun a' w' => Q .normal a' w') a w) := by
    intro a l w h1 h2 h3 hl h4 h5
    have h6 := hdone _ l w hl h4 h5
    rw [← flow_frameN hchk h1 h2 h3 ds hds] at h6
    exact h6
  refine wp_region_from hm (fun a0 W l a w => l.size = ops.size ∧ Closed ops l ∧ ((l.getD n false = false ∧ FlowIL I ops n R a0 W l a w) ∨ ((∀ i, i < ops.size → l.getD i true = true) ∧ Q .normal a w))) ?_ ?_ ?_
  · have hrep : ∀ j, (Array.replicate ops.size false).getD j false = false := fun j => by
      rw [Array.getD_eq_getD_getElem?, Array.getElem?_replicate]; split <;> rfl
    exact ⟨by simp, fun i j h => by (rw [hrep] at h; cases h), .inl ⟨hrep _, rfl, rfl, hM0, fun _ _ => rfl, fun i hi h => by rw [hrep] at h; cases h⟩⟩
  · rintro l a w ⟨hsz, hcl, ⟨hln, hI⟩ | hI⟩ hr
    · have hno := ready_no hr
      have hall : ∀ i, i < n → l.getD i false = true := by
        intro i
        induction i using Nat.strongRecOn with
        | ind i ih =>
          intro hi
          refine getD_tt' (by omega) ?_
          cases hq : l.getD i true with
          | true => rfl
          | false =>
            obtain ⟨o, ho⟩ : ∃ o, ops[i]? = some o := ⟨_, Array.getElem?_eq_getElem (by omega)⟩
            refine absurd (mem_ready.2 ⟨hq, o, ho, fun e he hb => ?_⟩) (hno i)
            have := (flowOkN_at hchk hi ho).2.2.2 e he
            exact ih e.on this (by omega)
      obtain ⟨h1, h2⟩ := hdone' a l w hI.tsz hI.dfs hI.same hall hI.low fun i hi => hI.got i hi (hall i hi)
      rcases Nat.lt_or_ge n ops.size with hlt | hge
      · exfalso
        obtain ⟨o, ho⟩ : ∃ o, ops[n]? = some o := ⟨_, Array.getElem?_eq_getElem hlt⟩
        have hl := hn.resolve_left (by omega)
        simp only [lastOkR, Bool.and_eq_true, decide_eq_true_eq] at hl
        refine hno n (mem_ready.2 ⟨?_, o, ho, fun e he hb => ?_⟩)
        · rw [Array.getD_eq_getD_getElem?, Array.getElem?_eq_getElem (by omega)] at hln ⊢
          exact hln
        · have h5 := hl.2
          rw [ho] at h5
          have := (Array.all_eq_true_iff_forall_mem.1 h5) e he
          simp at this
          exact hall e.on this
      · exact h1 (by omega)
    · exact hI.2
  · rintro l a w i ⟨hsz, hcl, ⟨hln, hI⟩ | hI⟩ hi
    · obtain ⟨hi0, o, ho, hdep⟩ := mem_ready.1 hi
      have hisz : i < ops.size := (Array.getElem?_eq_some_iff.1 ho).1
      have hcl' := hcl.set ho hdep
      have hsz' : (l.setIfInBounds i true).size = ops.size := by rw [Array.size_setIfInBounds]; exact hsz
      have hif : l.getD i false = false := by
        rw [Array.getD_eq_getD_getElem?, Array.getElem?_eq_getElem (by omega)] at hi0 ⊢
        exact hi0
      have hset : ∀ j, j ≠ i → (l.setIfInBounds i true).getD j false = l.getD j false := fun j hj => by
        rw [Array.getD_eq_getD_getElem?, Array.getElem?_setIfInBounds, if_neg (fun h => hj h.symm), ← Array.getD_eq_getD_getElem?]
      rcases Nat.lt_or_ge i n with hin | hin
      · obtain ⟨h1, h2, h3, h4⟩ := flowOkN_at hchk hin ho
        have hF : FlowSL I ops n R a0 W l i a w := ⟨hI.low, hI.same, fun o' ho' e he hb => by
          rw [ho] at ho'; cases ho'
          have h5 := h4 e he
          exact hI.got e.on (by omega) (hdep e he hb), hif, hsz, hcl, ⟨o, ho, hdep⟩, hI.got⟩
        have hother : ∀ j, j < n → j ≠ i → dstOf ops i ≠ dstOf ops j := fun j hj hji => by
          obtain ⟨o', ho'⟩ : ∃ o, ops[j]? = some o := ⟨_, Array.getElem?_eq_getElem (by omega)⟩
          rcases Nat.lt_or_ge j i with h5 | h5
          · exact fun e => h3 j h5 e.symm
          · exact (flowOkN_at hchk hj ho').2.2.1 i (by omega)
        have hsame : ∀ v t, notDstN ops n t = true → (a.put (some (dstOf ops i)) v).tmps[t]? = a0.tmps[t]? := fun v t ht => by
          rw [put_at _ _ _ (by rw [hI.tsz]; exact h2), if_neg]
          · exact hI.same t ht
          · have := List.all_eq_true.1 ht i (List.mem_range.2 hin)
            simpa using this
        have hval : ∀ v j, j < n → j ≠ i → (a.put (some (dstOf ops i)) v).tmps.getD (dstOf ops j) undef = a.tmps.getD (dstOf ops j) undef := fun v j hj hji => by
          rw [Array.getD_eq_getD_getElem?, put_at _ _ _ (by rw [hI.tsz]; exact h2), if_neg (hother j hj hji), ← Array.getD_eq_getD_getElem?]
        have hvi : ∀ v, (a.put (some (dstOf ops i)) v).tmps.getD (dstOf ops i) undef = v := fun v => by
          rw [Array.getD_eq_getD_getElem?, put_at _ _ _ (by rw [hI.tsz]; exact h2), if_pos rfl]; rfl
        cases hS : S i with
        | false =>
          refine wpOp_mono ?_ (hstep i o hin hS ho l a w hF)
          rintro a' w' ⟨v, rfl, hb, hR⟩
          rw [h1]
          refine ⟨hsz', hcl', .inl ⟨by rw [hset n (by omega)]; exact hln, by rw [put_size]; exact hI.tsz, by rw [put_defs]; exact hI.dfs, hMt1 _ _ _ _ hS hI.low hb, hsame v, fun j hj hl => ?_⟩⟩
          by_cases hji : j = i
          · subst hji; rw [hvi]; exact hR
          · rw [hval v j hj hji]
            exact hst j i l _ _ _ hS (hI.got j hj (by rw [← hset j hji]; exact hl)) hb
        | true =>
          refine wpOp_mono ?_ (hwrite i o hin hS ho l a w hF)
          rintro a' w' ⟨v, rfl, hb, hR, hk⟩
          rw [h1]
          refine ⟨hsz', hcl', .inl ⟨by rw [hset n (by omega)]; exact hln, by rw [put_size]; exact hI.tsz, by rw [put_defs]; exact hI.dfs, hb, hsame v, fun j hj hl => ?_⟩⟩
          by_cases hji : j = i
          · subst hji; rw [hvi]; exact hR
          · rw [hval v j hj hji]
            have hlj : l.getD j false = true := by rw [← hset j hji]; exact hl
            exact hk j hj hji hlj (hI.got j hj hlj)
      · have hl := hn.resolve_left (by omega)
        simp only [lastOkR, Bool.and_eq_true, decide_eq_true_eq] at hl
        obtain rfl : i = n := by omega
        have hall : ∀ j, j < i → l.getD j false = true := by
          intro j hj
          have hd := List.all_eq_true.1 hl.1.2 j (List.mem_range.2 hj)
          exact reach_dep hcl ho hdep _ _ hd
        obtain ⟨_, h2⟩ := hdone' a l w hI.tsz hI.dfs hI.same hall hI.low (fun j hj => hI.got j hj (hall j hj))
        refine wpOp_mono ?_ (h2 (by omega))
        intro a' w' hq
        refine ⟨hsz', hcl', .inr ⟨fun j hj => ?_, hq⟩⟩
        rw [Array.getD_eq_getD_getElem?, Array.getElem?_setIfInBounds]
        by_cases hji : i = j
        · subst hji; rw [if_pos rfl, if_pos (by omega)]; rfl
        · rw [if_neg hji]
          have := hall j (by omega)
          rw [Array.getD_eq_getD_getElem?] at this
          rw [Array.getElem?_eq_getElem (by omega)] at this ⊢
          exact this
    · exfalso
      obtain ⟨hi0, o, ho, _⟩ := mem_ready.1 hi
      have hisz : i < ops.size := (Array.getElem?_eq_some_iff.1 ho).1
      rw [hI.1 i hisz] at hi0
      cases hi0
/-- Used up, or it stands. -/
theorem due_not {l : Array Bool} {c : Nat} {p : Prop} (h : l.getD c false = true ∨ p) (hd : l.getD c false = false) : p := by
  rcases h with h | h
  · rw [hd] at h; cases h
  · exact h
theorem getD_mono {l : Array Bool} {c i : Nat} (h : l.getD c false = true) : (l.setIfInBounds i true).getD c false = true := getD_in h
theorem getD_self {l : Array Bool} {i : Nat} (h : i < l.size) : (l.setIfInBounds i true).getD i false = true := by
  rw [Array.getD_eq_getD_getElem?, Array.getElem?_setIfInBounds, if_pos rfl, if_pos h]; rfl
/-- append(v, x...) of elements of one cell each, as one operation. -/
theorem op_append_row {P : Program} {o : Oper} {a : Act} {K : Act → World → Prop} {Q : Exit → Act → World → Prop} {w : World} {α : Type} (enc : α → Value) (henc : ∀ x, (enc x).oneCell' = true) (s x : Operand) (t : TypeId)
    (ho : o.op = .call { callee := .builtin .append, args := #[s, x], argTypes := #[t, t] })
    (base e e0 b0 : Nat) (z : Value) (bytes : Nat) (ht : P.underlying t = some (.slice e)) (hinfo : (P.info? e).map (fun i => (i.zero, i.size, i.bytes)) = some (some z, 1, bytes)) (hzs : z.cells.size = 1) (hb0 : 0 < bytes)
    (v : Value) (xs ys : List α) (u : Value) (hs : a.eval s = v) (hx : a.eval x = u) (hown : w.ownsRow base e 1 v xs.length (xs.map enc)) (hu : Sl enc e0 w b0 u ys)
    (hbytes : (xs.length + ys.length) * bytes ≤ 140737488355328) (hbase : base ≤ w.heap.size)
    (h : ∀ v' w', w'.ownsRow base e 1 v' (xs ++ ys).length ((xs ++ ys).map enc) → w.grownBy w' v.ownBlock → K (a.put o.dst v') w') : Oper.wp P o a w K Q := by
  obtain ⟨i, hi, hz0, hz1, hz2⟩ := info_parts hinfo
  obtain ⟨A, c, rfl, hc, hm, hR⟩ := hu
  have hlen : xs.length + ys.length ≤ 140737488355328 := Nat.le_trans (Nat.le_mul_of_pos_right _ hb0) hbytes
  rcases A with _ | ad
  · have h0 : ys = [] := by
      cases ys with
      | nil => rfl
      | cons y ys => obtain ⟨ad, h1, _⟩ := hR.cell 0 _ rfl; cases h1
    subst h0
    unfold Oper.wp
    have hv : ∃ A n c, v = .slice A n c ∧ n ≤ c := by
      rcases hown.2 with ⟨rfl, _⟩ | ⟨g, cap, cur, rfl, _, _, h1, _⟩
      · exact ⟨none, 0, 0, rfl, Nat.le_refl _⟩
      · exact ⟨_, _, _, rfl, h1⟩
    obtain ⟨A, n, cv, rfl, hnc⟩ := hv
    have hrun : (Builtin.append_ #[t, t] o.type #[.slice A n cv, .slice none 0 c]).run P w = .ok (.slice A n cv) w := by
      rcases A with _ | A <;> simp [Builtin.append_, run_underlying ht, sizeOf, typeInfo, hi, Builtin.lenOf, Builtin.firstCells, hnc, storeCells]
    unfold execOp
    simp only [ho, resolve, invoke, builtin, Sem.run_bind, Sem.run_pure, Result.andThen_ok, List.map_toArray, List.map_cons, List.map_nil, hs, hx, List.length_nil, hrun]
    exact h _ w (by simpa using hown) (World.grownBy.refl w _)
  · refine wp_append_own (P := P) w s x t ho base e i z 1 bytes ht hi hz0 hz1 hz2 hzs (by omega) v xs.length (xs.map enc) hs hown ad ys.length c (ys.map enc) hx (by simp) ?_ ?_ (by simp only [maxLen]; omega) hbytes hbase ?_
    · intro j u hj
      obtain ⟨ad', h1, h2⟩ := hR.cell j u hj
      cases h1; exact h2
    · intro u hu
      obtain ⟨y, _, rfl⟩ := List.mem_map.1 hu
      exact henc y
    · intro v' w' h1 h2 h3
      exact h v' w' (by simpa using h1) h2
/-- A block of one cell is not one without cells. -/
theorem lit_keep {w w' : World} {g g' e : Nat} {x : Value} {f f' : Nat × Nat} (h : w.heap[g']? = some (.cells #[x] e f)) (h0 : w.heap[g]? = some (.cells #[] e f')) (hg : w.grownBy w' (some g)) : w'.heap[g']? = some (.cells #[x] e f) := by
  refine (hg.block g' (blk_lt h) (fun he => ?_)).trans h
  cases he
  rw [h] at h0
  injection h0 with h0
  injection h0 with h0
  have := congrArg Array.size h0
  simp at this
/-- A part from k on. -/
theorem Sl.low {α : Type} {enc : α → Value} {e : Nat} {w : World} {b n c : Nat} {A : Option Addr} {xs : List α} (h : Sl enc e w b (.slice A n c) xs) (k : Nat) (hk : k ≤ xs.length) : Sl enc e w b (.slice (if c = k then A else A.map fun x => x.add k) (n - k) (c - k)) (xs.drop k) := by
  obtain ⟨A', c', he, h1, h2, h3⟩ := h
  cases he
  refine ⟨_, c - k, by rw [List.length_drop], by rw [List.length_drop]; omega, by rw [List.length_drop]; omega, ?_⟩
  by_cases hc : c = k
  · rw [if_pos hc, List.drop_eq_nil_of_le (by omega)]
    exact RdT.nil _ _ _ _
  · rw [if_neg hc]
    cases A with
    | none =>
      have : xs = [] := by
        cases xs with
        | nil => rfl
        | cons y ys => obtain ⟨ad, h4, _⟩ := h3.cell 0 _ rfl; cases h4
      subst this
      simp only [List.drop_nil, List.map_nil]
      exact RdT.nil _ _ _ _
    | some ad =>
      have := h3.cut k (xs.length - k)
      rw [List.take_of_length_le (by simp), ← List.map_drop] at this
      exact this
theorem Sl.upto {α : Type} {enc : α → Value} {e : Nat} {w : World} {b n c : Nat} {A : Option Addr} {xs : List α} (h : Sl enc e w b (.slice A n c) xs) (k : Nat) (hk : k ≤ xs.length) : Sl enc e w b (.slice A k c) (xs.take k) := by
  obtain ⟨A', c', he, h1, h2, h3⟩ := h
  cases he
  have hl : (xs.take k).length = k := by rw [List.length_take]; omega
  refine ⟨_, _, by rw [hl], by omega, by omega, ?_⟩
  rw [List.map_take]
  refine ⟨fun j u hj => ?_, fun ad hA hne => h3.home ad hA (by rintro h0; rw [h0] at hne; simp at hne)⟩
  rw [List.getElem?_take] at hj
  split at hj
  · exact h3.cell j u hj
  · cases hj
theorem op_skip0 {P : Program} {o : Oper} {a : Act} {w : World} {K : Act → World → Prop} {Q : Exit → Act → World → Prop} (w' : World) (h : (execOp a.eval o).run P w = .ok .skip w') (hd : o.dst = none) (hk : K a w') : o.wp P a w K Q := by
  refine op_skip w' h ?_
  rw [hd]; exact hk
theorem grw_set (w : World) (g o : Nat) (v : Value) : w.grownBy (w.setCell ⟨g, o, none⟩ v) (some g) := ⟨rfl, rfl, rfl, by simp, fun k hk hne => Below.heap_setCell w ⟨g, o, none⟩ v k (fun e => hne (by rw [e]))⟩
theorem grw_then {a b c : World} {row : Option Nat} (h : a.grownBy b row) (k : b.grownBy c row) : a.grownBy c row :=
  ⟨k.os.trans h.os, k.tape.trans h.tape, k.output.trans h.output, Nat.le_trans h.size k.size, fun i hi hr => (k.block i (Nat.lt_of_lt_of_le hi h.size) hr).trans (h.block i hi hr)⟩
/-- A row behind a box, the box written. -/
theorem own_box {w w1 : World} {r e size n : Nat} {v : Value} {cs : List Value} (h : w.ownsRow (r + 1) e size v n cs) (hg : w.grownBy w1 (some r)) : w1.ownsRow (r + 1) e size v n cs := by
  refine h.kept hg (.inr ?_)
  intro he
  have := (own_row h r he).1
  omega
theorem box_put {w : World} {r e : Nat} {cur : Array Value} (h : w.heap[r]? = some (.cells cur e (0, 0))) (i : Nat) (v : Value) : (w.setCell ⟨r, i, none⟩ v).heap[r]? = some (.cells (cur.setIfInBounds i v) e (0, 0)) := by
  rw [block_setCell h]
end Go.Proofs.YtoigmepkhiknbaaDoor
