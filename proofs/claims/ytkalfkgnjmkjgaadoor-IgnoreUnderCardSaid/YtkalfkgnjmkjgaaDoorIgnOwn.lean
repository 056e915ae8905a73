/-
  What the rules themselves say of a path. No condition but lengths.
-/
import Derived.RangeFuncBound
import Derived.RangeFuncCalls
import Derived.Test.YtkalfkgnjmkjgaaDoorIgnBack
import Derived.Test.YtkalfkgnjmkjgaaDoorIgnMatch
import Derived.Test.YtkalfkgnjmkjgaaDoorPathFns2
namespace Go.Proofs.YtkalfkgnjmkjgaaDoor
open Go.RowKit Go.Shelf
set_option linter.unusedVariables false
set_option linter.unusedSimpArgs false
attribute [local go_sem] Oper.semAt_some

/-- A rule speaks of a path. -/
def hitR (p : List UInt8) (dir : Bool) (r : Rl) : Bool := (!r.dirs || dir) && matchL r.pat (if r.whole = true then p else nameL p)
def ownL (R : List Rl) (p : List UInt8) (dir : Bool) : Bool := R.foldl (fun yes r => if hitR p dir r = true then !r.not else yes) false
theorem fold_none {p : List UInt8} {dir : Bool} : ∀ (R : List Rl) (y : Bool), (∀ r ∈ R, hitR p dir r = false) → R.foldl (fun yes r => if hitR p dir r = true then !r.not else yes) y = y
  | [], y, _ => rfl
  | r :: R, y, h => by
    rw [List.foldl_cons, h r (by simp)]
    exact fold_none R y fun r' hr => h r' (by simp [hr])
theorem bk_mem {R : List Rl} {k : Nat} {x : Nat × Rl} (h : x ∈ bk R k) : ∃ j, j < k ∧ x = (R.length - 1 - j, rk R (R.length - 1 - j)) := by
  unfold bk at h
  obtain ⟨j, hj, rfl⟩ := List.mem_map.1 h
  exact ⟨j, List.mem_range.1 hj, rfl⟩
theorem mem_bk (R : List Rl) {k j : Nat} (h : j < k) : (R.length - 1 - j, rk R (R.length - 1 - j)) ∈ bk R k := List.mem_map.2 ⟨j, List.mem_range.2 h, rfl⟩
theorem rk_get (R : List Rl) {i : Nat} (h : i < R.length) : rk R i = R[i]'h := by unfold rk; rw [List.getD_eq_getElem?_getD, List.getElem?_eq_getElem h]; rfl
theorem own_none {R : List Rl} {p : List UInt8} {dir : Bool} (h : ∀ q ∈ bk R R.length, hitR p dir q.2 = false) : ownL R p dir = false := by
  refine fold_none R false fun r hr => ?_
  obtain ⟨i, hi, rfl⟩ := List.getElem_of_mem hr
  have h1 := h _ (mem_bk R (show R.length - 1 - i < R.length by omega))
  simp only [show R.length - 1 - (R.length - 1 - i) = i by omega] at h1
  rw [rk_get R hi] at h1
  exact h1
theorem own_some {R : List Rl} {p : List UInt8} {dir : Bool} {k : Nat} (hk : k < R.length) (h : ∀ q ∈ bk R k, hitR p dir q.2 = false) (hh : hitR p dir (rk R (R.length - 1 - k)) = true) : ownL R p dir = !(rk R (R.length - 1 - k)).not := by
  have hi : R.length - 1 - k < R.length := by omega
  obtain ⟨i, hie⟩ : ∃ i, i = R.length - 1 - k := ⟨_, rfl⟩
  rw [← hie] at hi hh ⊢
  have hs : R = R.take i ++ R[i] :: R.drop (i + 1) := by rw [← List.drop_eq_getElem_cons hi, List.take_append_drop]
  have h2 : ∀ r ∈ R.drop (i + 1), hitR p dir r = false := by
    intro r hr
    obtain ⟨j, hj, rfl⟩ := List.getElem_of_mem hr
    rw [List.length_drop] at hj
    have h1 := h _ (mem_bk R (show R.length - 1 - (i + 1 + j) < k by omega))
    simp only [show R.length - 1 - (R.length - 1 - (i + 1 + j)) = i + 1 + j by omega] at h1
    rw [rk_get R (by omega)] at h1
    rw [List.getElem_drop]
    exact h1
  rw [rk_get R hi] at hh ⊢
  unfold ownL
  have h3 : R.foldl (fun yes r => if hitR p dir r = true then !r.not else yes) false = (R.take i ++ R[i] :: R.drop (i + 1)).foldl (fun yes r => if hitR p dir r = true then !r.not else yes) false := by rw [← hs]
  rw [h3, List.foldl_append, List.foldl_cons, fold_none _ _ h2, if_pos hh]

theorem match_any (p s : ByteArray) (w : World) : Calls Tryd.prog 9 #[.string p, .string s] w fun e w' => e = .returned (.bool (matchL p.data.toList s.data.toList)) ∧ Below w.heap.size w w' := by
  by_cases h : 200 < p.size ∨ 200 < s.size
  · exact match_big p s w h
  · exact match_calls p s w (by omega) (by omega)
theorem keepsFrom_of_below {W W' : World} (B : Nat) (h : Below W.heap.size W W') : KeepsFrom B W W' := ⟨h.size, fun k o _ hk _ => below_heap h hk⟩
theorem boxed_below {W W' : World} {B : Nat} {t : TypeId} {v : Value} (h : Boxed W B t v) (hb : Below W.heap.size W W') : Boxed W' B t v := below_heap hb h

set_option maxRecDepth 100000 in
set_option maxHeartbeats 8000000 in
theorem own_calls {g base : Nat} {L : List (List UInt8)} {R : List Rl} (p : ByteArray) (dir : Bool) (w : World) (h : IsR w g base L R) (hp : p.size ≤ 1000000000) (hR : R.length ≤ 1000000000) :
    Calls Tryd.prog 31 #[.pointer (some ⟨g, 0, none⟩), .string p, .bool dir] w fun e w' => e = .returned (.bool (ownL R p.data.toList dir)) ∧ Below w.heap.size w w' := by
  obtain ⟨vl, vr, hg, hbx, _, hvr, ⟨A2, n2, c2, rfl⟩, _⟩ := h
  have hS : SlC rlC 59 w w.heap.size (.slice A2 n2 c2) R := (SlC.of_own (k := 4) (cells := rlC) hvr w.heap.size)
  have hAb : ∀ ad, A2 = some ad → ad.block < w.heap.size := fun ad he => by
    subst he
    rcases hvr.2 with ⟨h', _⟩ | ⟨g', cap, cur, h', _, hg', _⟩
    · cases h'
    · cases h'; exact blk_lt hg'
  obtain rfl : n2 = R.length := by
    obtain ⟨_, _, he, _⟩ := hS
    cases he; rfl
  obtain ⟨e0, e1⟩ := blk hbx
  have e0' := e0 1
  simp at e0'
  clear e0 e1
  have hgl := blk_lt hbx
  have hb0 : Below w.heap.size w (((w.alloc (.cells #[.string p] 9)).alloc (.cells #[.bool dir] 4)).alloc (.cells #[.bool false] 4)) := (((Below.refl _ w).alloc (Nat.le_refl _) _).alloc (by simp) _).alloc (by simp; omega) _
  have d1 := cell_keep hb0 e0'
  have bP := ((Boxed.new w 9 (.string p)).alloc (.cells #[.bool dir] 4)).alloc (.cells #[.bool false] 4)
  have bD := (Boxed.new (w.alloc (.cells #[.string p] 9)) 4 (.bool dir)).alloc (.cells #[.bool false] 4)
  have bF := Boxed.new ((w.alloc (.cells #[.string p] 9)).alloc (.cells #[.bool dir] 4)) 4 (.bool false)
  simp only [World.size_alloc] at bD bF
  clear e0'
  refine (callsIn_wide (n := 3)).1 ?_
  refine callsIn_of_wp_marks Tryd.func31 rfl trivial ?_ rfl
  simp only [Tryd.ntmps31, List.size_toArray, List.length_cons, List.length_nil, Nat.reduceAdd, Nat.reduceSub, Array.replicate_succ, Array.replicate_zero, List.push_toArray, List.append_toArray, List.nil_append, List.cons_append]
  gi_wp2_with (refine ⟨trivial, ?_⟩; gi_at_call 41; refine (back_in _ _ trivial rfl _ _ _ _).mono ?_; rintro e w' ⟨rfl, rfl⟩)
  have hb1 := hb0.alloc hb0.size (.cells #[.slice A2 R.length c2] 55)
  have bS := Boxed.new (((w.alloc (.cells #[.string p] 9)).alloc (.cells #[.bool dir] 4)).alloc (.cells #[.bool false] 4)) 55 (.slice A2 R.length c2)
  simp only [World.size_alloc] at bS
  replace bP := bP.alloc (.cells #[.slice A2 R.length c2] 55)
  replace bD := bD.alloc (.cells #[.slice A2 R.length c2] 55)
  replace bF := bF.alloc (.cells #[.slice A2 R.length c2] 55)
  have hsz : ((((w.alloc (.cells #[.string p] 9)).alloc (.cells #[.bool dir] 4)).alloc (.cells #[.bool false] 4)).alloc (.cells #[.slice A2 R.length c2] 55)).heap.size = w.heap.size + 4 := by simp
  obtain ⟨W0, hW0⟩ : ∃ W0, (((w.alloc (.cells #[.string p] 9)).alloc (.cells #[.bool dir] 4)).alloc (.cells #[.bool false] 4)).alloc (.cells #[.slice A2 R.length c2] 55) = W0 := ⟨_, rfl⟩
  rw [hW0] at hb1 bP bD bF bS hsz ⊢
  clear hW0 d1 hb0
  refine wpIn_rangeFunc_ownH rfl (by decide) (gf := 51) (lb := #[.pointer (some ⟨w.heap.size + 1 + 1 + 1, 0, none⟩)]) rfl trivial (enters_of Tryd.func51 (by kernel_rfl) rfl)
    (back_stops Fence.wide (3 - 1) trivial rfl (by decide) (w.heap.size + 1 + 1 + 1) (w.heap.size + 4) A2 c2 R hR W0 (by omega) (by omega) bS.cell ((hS.below hb1).mono (by omega)) (fun ad he => by have := hAb ad he; omega)) belowK_t (belowK_b (by omega)) (Below.refl _ _) (fun _ => rfl)
    (fun pre W => ((∀ q ∈ pre, hitR p.data.toList dir q.2 = false) ∧ (Boxed W w.heap.size 9 (.string p) ∧ (Boxed W (w.heap.size + 1) 4 (.bool dir) ∧ (Boxed W (w.heap.size + 1 + 1) 4 (.bool false) ∧ Boxed W (w.heap.size + 1 + 1 + 1) 55 (.slice A2 R.length c2))))) ∧ Below w.heap.size w W)
    (fun c pre W => (c = .ret ∧ ∃ ini last, pre = ini ++ [last] ∧ (∀ q ∈ ini, hitR p.data.toList dir q.2 = false) ∧ hitR p.data.toList dir last.2 = true ∧ W.cell? ⟨w.heap.size + 1 + 1, 0, none⟩ = some (.bool (!last.2.not))) ∧ Below w.heap.size w W)
    (OwnFrom.and (OwnFrom.and (ownFrom_pure _ _) (OwnFrom.and (Own.from (boxed_own _ _ _) _) (OwnFrom.and (Own.from (boxed_own _ _ _) _) (OwnFrom.and (Own.from (boxed_own _ _ _) _) (Own.from (boxed_own _ _ _) _))))) (ownFrom_below (Nat.le_refl _) (by omega)))
    (fun c => OwnFrom.and (Own.from (fun s A B row hs hg hr => by obtain ⟨hc, ini, last, e1, e2, e3, e4⟩ := hs; exact ⟨hc, ini, last, e1, e2, e3, cell_kept e4 hg hr⟩) _) (ownFrom_below (Nat.le_refl _) (by omega)))
    ⟨⟨by simp, bP, bD, bF, bS⟩, hb1⟩
    (fun x a' W => ∃ Bx, w.heap.size + 1 + 1 < Bx ∧ (W.heap[Bx]? = some (.cells #[.string (str x.2.pat), .bool x.2.not, .bool x.2.dirs, .bool x.2.whole] 59 (0, 0))) ∧ a' = { tmps := #[.pointer (some ⟨g, 0, none⟩), .string p, .bool dir, undef, .pointer (some ⟨w.heap.size, 0, none⟩), .pointer (some ⟨w.heap.size + 1, 0, none⟩), .pointer (some ⟨w.heap.size + 1 + 1, 0, none⟩), undef, .pointer (some ⟨Bx, 0, none⟩), undef, .pointer (some ⟨g, 0, none⟩), .pointer (some ⟨g, 0, none⟩), .pointer (some ⟨g, 1, none⟩), .slice A2 R.length c2, .func (.func 51) #[] #[.pointer (some ⟨w.heap.size + 1 + 1 + 1, 0, none⟩)], .int .i64 (x.1 : Int), .agg #[.string (str x.2.pat), .bool x.2.not, .bool x.2.dirs, .bool x.2.whole], undef, undef, undef, undef, undef, undef, undef, undef, undef, undef, undef, undef, undef, undef, undef, undef, undef, undef, undef, undef, undef], defers := [] })
    (fun x a' _ X Y row hs hg hr => by
      obtain ⟨Bx, h1, h2, h3⟩ := hs
      refine ⟨Bx, h1, (hg.block Bx (Array.getElem?_eq_some_iff.1 h2).1 (fun e => ?_)).trans h2, h3⟩
      obtain ⟨o, ho, hc⟩ := (hr Bx e.symm).2
      rw [h2] at ho; cases ho; cases hc)
    ?assign ?body ?done ?stop
  case assign =>
    rintro l pre x W K ⟨⟨hp1, bP1, bD1, bF1, bS1⟩, hB1⟩ hK
    dsimp only [enR]
    gi_wp2
    exact hK _ _ ((KeepsOthers.alloc _ _).from _) ((Below.refl _ W).alloc (by have := bS1.lt; omega) _) ⟨⟨hp1, bP1.alloc _, bD1.alloc _, bF1.alloc _, bS1.alloc _⟩, hB1.alloc hB1.size _⟩ ⟨W.heap.size, bF1.lt, heap_new rfl, rfl⟩
  case body =>
    rintro l pre x a' W hl ⟨r, hr⟩ ⟨⟨hp1, bP1, bD1, bF1, bS1⟩, hB1⟩ ⟨Bx, hBx, bX, rfl⟩ hlt
    obtain ⟨i, ⟨pat, nt, ds, wh⟩⟩ := x
    have hb := (blk bX).1
    have x0 := hb 0
    have x1 := hb 1
    have x2 := hb 2
    have x3 := hb 3
    simp only [List.getElem?_toArray, List.getElem?_cons_zero, List.getElem?_cons_succ] at x0 x1 x2 x3
    have hXl := blk_lt bX
    have HN : Aside0 (∀ W, Calls Tryd.prog 42 #[.string p] W fun e w' => e = .returned (.string (str (nameL p.data.toList))) ∧ Below W.heap.size W w') := ⟨fun W => name_calls p W hp⟩
    have HM : Aside0 (∀ s W, Calls Tryd.prog 9 #[.string (str pat), .string s] W fun e w' => e = .returned (.bool (matchL pat s.data.toList)) ∧ Below W.heap.size W w') := ⟨fun s W => match_any (str pat) s W⟩
    have HGO : Aside0 (∀ W', Below W.heap.size W W' → hitR p.data.toList dir ⟨pat, nt, ds, wh⟩ = false → KeepsFrom W0.heap.size W W' ∧ Below (w.heap.size + 4) W W' ∧ (((∀ q ∈ pre ++ [(i, (⟨pat, nt, ds, wh⟩ : Rl))], hitR p.data.toList dir q.2 = false) ∧ (Boxed W' w.heap.size 9 (.string p) ∧ (Boxed W' (w.heap.size + 1) 4 (.bool dir) ∧ (Boxed W' (w.heap.size + 1 + 1) 4 (.bool false) ∧ Boxed W' (w.heap.size + 1 + 1 + 1) 55 (.slice A2 R.length c2))))) ∧ Below w.heap.size w W')) := ⟨fun W' hb hh => by
      refine ⟨keepsFrom_of_below _ hb, hb.mono (by have := bS1.lt; omega), ⟨⟨fun q hq => ?_, boxed_below bP1 hb, boxed_below bD1 hb, boxed_below bF1 hb, boxed_below bS1 hb⟩, below_step hB1 hb⟩⟩
      rcases List.mem_append.1 hq with hq | hq
      · exact hp1 q hq
      · rw [List.mem_singleton.1 hq]; exact hh⟩
    have HBF : Aside0 (∀ W', Below W.heap.size W W' → Boxed W' (w.heap.size + 1 + 1) 4 (.bool false)) := ⟨fun W' hb => boxed_below bF1 hb⟩
    have HRET : Aside0 (∀ W', Below W.heap.size W W' → hitR p.data.toList dir ⟨pat, nt, ds, wh⟩ = true → KeepsFrom W0.heap.size W (W'.setCell ⟨w.heap.size + 1 + 1, 0, none⟩ (.bool (!nt))) ∧ ((Code.ret = .ret ∧ ∃ ini last, pre ++ [(i, (⟨pat, nt, ds, wh⟩ : Rl))] = ini ++ [last] ∧ (∀ q ∈ ini, hitR p.data.toList dir q.2 = false) ∧ hitR p.data.toList dir last.2 = true ∧ (W'.setCell ⟨w.heap.size + 1 + 1, 0, none⟩ (.bool (!nt))).cell? ⟨w.heap.size + 1 + 1, 0, none⟩ = some (.bool (!last.2.not))) ∧ Below w.heap.size w (W'.setCell ⟨w.heap.size + 1 + 1, 0, none⟩ (.bool (!nt))))) := ⟨fun W' hb hh => by
      refine ⟨(keepsFrom_of_below _ hb).trans ((KeepsOthers.setCell _ _ _).from _), ⟨rfl, pre, _, rfl, hp1, hh, ((boxed_below bF1 hb).set _).cell⟩, (below_step hB1 hb).setCell (p := ⟨w.heap.size + 1 + 1, 0, none⟩) (by simp; omega) _⟩⟩
    have cP := bP1.cell
    have cD := bD1.cell
    have cF := bF1.cell
    have hdd : (ds = true ∧ dir = false) ∨ (ds = true ∧ dir = true) ∨ ds = false := by cases ds <;> cases dir <;> simp
    clear bP1 bD1 bF1 bS1 hB1 hp1 hb hr bX
    rcases hdd with ⟨rfl, rfl⟩ | hdd
    · cases wh with
      | true =>
        gi_wp2_with (refine ⟨trivial, ?_⟩; gi_at_call 42; refine (CallsIn.inRound l (callsIn_wide.2 (HN.out _))).mono ?_; rintro e w1 ⟨rfl, hb1⟩; have HB2 := Aside0.mk hb1; have y0 := cell_keep hb1 x0; have y1 := cell_keep hb1 x1; have y2 := cell_keep hb1 x2; have y3 := cell_keep hb1 x3; have yP := cell_keep hb1 cP; have yD := cell_keep hb1 cD; clear hb1)
        refine ⟨trivial, ?_⟩
        gi_wp2
        exact HGO.out _ HB2.out rfl
      | false =>
        gi_wp2_with (refine ⟨trivial, ?_⟩; gi_at_call 42; refine (CallsIn.inRound l (callsIn_wide.2 (HN.out _))).mono ?_; rintro e w1 ⟨rfl, hb1⟩; have HB2 := Aside0.mk hb1; have y0 := cell_keep hb1 x0; have y1 := cell_keep hb1 x1; have y2 := cell_keep hb1 x2; have y3 := cell_keep hb1 x3; have yP := cell_keep hb1 cP; have yD := cell_keep hb1 cD; clear hb1)
        refine ⟨trivial, ?_⟩
        gi_wp2
        exact HGO.out _ HB2.out rfl
    · have hh : hitR p.data.toList dir ⟨pat, nt, ds, wh⟩ = matchL pat (if wh = true then p.data.toList else nameL p.data.toList) := by
        unfold hitR
        rcases hdd with ⟨rfl, rfl⟩ | rfl <;> rfl
      have HH := Aside0.mk hh
      clear hh
      cases wh with
      | true =>
        obtain ⟨o, ho⟩ : ∃ o, matchL pat p.data.toList = o := ⟨_, rfl⟩
        have EM := Aside0.mk ho
        have HH2 : Aside0 (hitR p.data.toList dir ⟨pat, nt, ds, true⟩ = o) := ⟨HH.out.trans ho⟩
        clear ho HH
        rcases hdd with ⟨rfl, rfl⟩ | rfl <;> cases o with
        | true =>
          gi_wp2_with (first | (refine ⟨trivial, ?_⟩; gi_at_call 42; refine (CallsIn.inRound l (callsIn_wide.2 (HN.out _))).mono ?_; rintro e w1 ⟨rfl, hb1⟩; have HB2 := Aside0.mk hb1; have y0 := cell_keep hb1 x0; have y1 := cell_keep hb1 x1; have y2 := cell_keep hb1 x2; have y3 := cell_keep hb1 x3; have yP := cell_keep hb1 cP; have yD := cell_keep hb1 cD; clear hb1) | (refine ⟨trivial, ?_⟩; gi_at_call 9; refine (CallsIn.inRound l (callsIn_wide.2 (HM.out _ _))).mono ?_; rintro e w2 ⟨rfl, hb2⟩; rw [EM.out]; have HB3 := Aside0.mk (below_step HB2.out hb2); have z1 := cell_keep hb2 y1; have zF := cell_keep hb2 (cell_keep HB2.out cF); have hz3 := HB3.out.size; have zf : w2.frozen? ⟨w.heap.size + 1 + 1, 0, none⟩ = false := (HBF.out w2 HB3.out).frozen; clear hb2))
          obtain ⟨a1, ⟨_, a2⟩, a3⟩ := HRET.out _ HB3.out HH2.out
          exact ⟨a1, ⟨rfl, a2⟩, a3⟩
        | false =>
          gi_wp2_with (first | (refine ⟨trivial, ?_⟩; gi_at_call 42; refine (CallsIn.inRound l (callsIn_wide.2 (HN.out _))).mono ?_; rintro e w1 ⟨rfl, hb1⟩; have HB2 := Aside0.mk hb1; have y0 := cell_keep hb1 x0; have y1 := cell_keep hb1 x1; have y2 := cell_keep hb1 x2; have y3 := cell_keep hb1 x3; have yP := cell_keep hb1 cP; have yD := cell_keep hb1 cD; clear hb1) | (refine ⟨trivial, ?_⟩; gi_at_call 9; refine (CallsIn.inRound l (callsIn_wide.2 (HM.out _ _))).mono ?_; rintro e w2 ⟨rfl, hb2⟩; rw [EM.out]; have HB3 := Aside0.mk (below_step HB2.out hb2); have z1 := cell_keep hb2 y1; have zF := cell_keep hb2 (cell_keep HB2.out cF); have hz3 := HB3.out.size; have zf : w2.frozen? ⟨w.heap.size + 1 + 1, 0, none⟩ = false := (HBF.out w2 HB3.out).frozen; clear hb2))
          exact HGO.out _ HB3.out HH2.out
      | false =>
        obtain ⟨o, ho⟩ : ∃ o, matchL pat (nameL p.data.toList) = o := ⟨_, rfl⟩
        have EM : Aside0 (matchL pat (str (nameL p.data.toList)).data.toList = o) := ⟨by rw [str_data]; exact ho⟩
        have HH2 : Aside0 (hitR p.data.toList dir ⟨pat, nt, ds, false⟩ = o) := ⟨HH.out.trans ho⟩
        clear ho HH
        rcases hdd with ⟨rfl, rfl⟩ | rfl <;> cases o with
        | true =>
          gi_wp2_with (first | (refine ⟨trivial, ?_⟩; gi_at_call 42; refine (CallsIn.inRound l (callsIn_wide.2 (HN.out _))).mono ?_; rintro e w1 ⟨rfl, hb1⟩; have HB2 := Aside0.mk hb1; have y0 := cell_keep hb1 x0; have y1 := cell_keep hb1 x1; have y2 := cell_keep hb1 x2; have y3 := cell_keep hb1 x3; have yP := cell_keep hb1 cP; have yD := cell_keep hb1 cD; clear hb1) | (refine ⟨trivial, ?_⟩; gi_at_call 9; refine (CallsIn.inRound l (callsIn_wide.2 (HM.out _ _))).mono ?_; rintro e w2 ⟨rfl, hb2⟩; rw [EM.out]; have HB3 := Aside0.mk (below_step HB2.out hb2); have z1 := cell_keep hb2 y1; have zF := cell_keep hb2 (cell_keep HB2.out cF); have hz3 := HB3.out.size; have zf : w2.frozen? ⟨w.heap.size + 1 + 1, 0, none⟩ = false := (HBF.out w2 HB3.out).frozen; clear hb2))
          obtain ⟨a1, ⟨_, a2⟩, a3⟩ := HRET.out _ HB3.out HH2.out
          exact ⟨a1, ⟨rfl, a2⟩, a3⟩
        | false =>
          gi_wp2_with (first | (refine ⟨trivial, ?_⟩; gi_at_call 42; refine (CallsIn.inRound l (callsIn_wide.2 (HN.out _))).mono ?_; rintro e w1 ⟨rfl, hb1⟩; have HB2 := Aside0.mk hb1; have y0 := cell_keep hb1 x0; have y1 := cell_keep hb1 x1; have y2 := cell_keep hb1 x2; have y3 := cell_keep hb1 x3; have yP := cell_keep hb1 cP; have yD := cell_keep hb1 cD; clear hb1) | (refine ⟨trivial, ?_⟩; gi_at_call 9; refine (CallsIn.inRound l (callsIn_wide.2 (HM.out _ _))).mono ?_; rintro e w2 ⟨rfl, hb2⟩; rw [EM.out]; have HB3 := Aside0.mk (below_step HB2.out hb2); have z1 := cell_keep hb2 y1; have zF := cell_keep hb2 (cell_keep HB2.out cF); have hz3 := HB3.out.size; have zf : w2.frozen? ⟨w.heap.size + 1 + 1, 0, none⟩ = false := (HBF.out w2 HB3.out).frozen; clear hb2))
          exact HGO.out _ HB3.out HH2.out
  case done =>
    rintro D ys W hD rfl ⟨⟨hne, bP1, bD1, bF1, bS1⟩, hB⟩ hK
    have cF := bF1.cell
    have fF := bF1.frozen
    gi_wp2
    have hK' := (KeepsOthers.setCell W ⟨w.heap.size + 1 + 1, 0, none⟩ (.bool false)).same D _ hK rfl
    refine ⟨by simp, .inl ⟨_, _, rfl, run_takeDeferred hK', ?_⟩⟩
    have hc5 := cell_kept (bF1.set (.bool false)).cell (grownBy_putObj' _ D (.deferred none)) (fun r e => by cases e; exact ⟨_, hK', rfl⟩)
    refine ⟨.bool false, ?_, by rw [own_none hne], (hB.setCell (p := ⟨w.heap.size + 1 + 1, 0, none⟩) (by simp; omega) _).trans (belowK_b (w := w) (Nat.le_refl _) _ D _ _ (by omega) hK' rfl rfl)⟩
    simp [results, Tryd.f31, go_sem, hc5]
  case stop =>
    rintro D c pre W hD ⟨k, hk, rfl⟩ ⟨⟨rfl, ini, last, e1, e2, e3, hcr⟩, hB⟩ hK
    gi_wp2
    refine ⟨by simp, .inl ⟨_, _, rfl, run_takeDeferred hK, ?_⟩⟩
    have hc5 := cell_kept hcr (grownBy_putObj' _ D (.deferred none)) (fun r e => by cases e; exact ⟨_, hK, rfl⟩)
    obtain ⟨k', rfl⟩ : ∃ k', k = k' + 1 := by
      cases k with
      | zero => simp [bk] at e1
      | succ k' => exact ⟨k', rfl⟩
    rw [bk_succ] at e1
    obtain ⟨rfl, e5⟩ := List.append_inj' e1 rfl
    obtain rfl : (R.length - 1 - k', rk R (R.length - 1 - k')) = last := by simpa using e5
    refine ⟨.bool (!(rk R (R.length - 1 - k')).not), ?_, by rw [own_some (by omega) e2 e3], hB.trans (belowK_b (w := w) (Nat.le_refl _) W D _ _ (by omega) hK rfl rfl)⟩
    simp [results, Tryd.f31, go_sem, hc5]
end Go.Proofs.YtkalfkgnjmkjgaaDoor
