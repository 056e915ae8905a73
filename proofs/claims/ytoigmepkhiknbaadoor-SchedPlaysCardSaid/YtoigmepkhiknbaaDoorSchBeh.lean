/-
  Does a visit stand behind the one that was told last? No condition but lengths.
-/
import Derived.Test.YtoigmepkhiknbaaDoorSchFns2
import Derived.Test.YtoigmepkhiknbaaDoorFlowM
namespace Go.Proofs.YtoigmepkhiknbaaDoor
open Go.RowKit Go.Maps
set_option linter.unusedVariables false
set_option linter.unusedSimpArgs false

section
set_option maxRecDepth 100000
/-- What each slot of the region holds. -/
def BhR (g B : Nat) (p q : ByteArray) (c : Int) : Nat → Value → World → Prop
  | 0, v, w => v = .pointer (some ⟨B, 0, none⟩)
  | 1, v, w => v = .string p
  | 2, v, w => v = .pointer (some ⟨g, 0, none⟩)
  | 3, v, w => v = .pointer (some ⟨g, 0, none⟩)
  | 4, v, w => v = .pointer (some ⟨g, 1, none⟩)
  | 5, v, w => v = .pointer (some ⟨g, 1, none⟩)
  | 6, v, w => v = .string q
  | 7, v, w => v = .int .i64 c
  | 8, v, w => v = .int .i64 c
  | _, _, _ => True
theorem BhR_st (g B : Nat) (p q : ByteArray) (c : Int) : ∀ i v w w', BhR g B p q c i v w → Below w.heap.size w w' → BhR g B p q c i v w'
  | 0, v, w, w', h, hb => h
  | 1, v, w, w', h, hb => h
  | 2, v, w, w', h, hb => h
  | 3, v, w, w', h, hb => h
  | 4, v, w, w', h, hb => h
  | 5, v, w, w', h, hb => h
  | 6, v, w, w', h, hb => h
  | 7, v, w, w', h, hb => h
  | 8, v, w, w', h, hb => h
  | _ + 9, _, _, _, _, _ => trivial
end
set_option maxRecDepth 10000 in
set_option maxHeartbeats 4000000 in
theorem beh_calls {base g mb : Nat} {S : SS} (p : ByteArray) (k : Nat) (w : World) (h : IsS w base g mb S) (hp : p.size ≤ 1000000000) (hk : k ≤ 1000000) :
    Calls Tryd.prog 36 #[.pointer (some ⟨g, 0, none⟩), .agg #[.string p, .int .i64 (k : Int)]] w fun e w' => e = .returned (.bool (behB S p.data.toList k)) ∧ Below w.heap.size w w' := by
  have hgl := blk_lt h.box
  have hlbv := h.lbv
  obtain ⟨q, hq⟩ : ∃ q, q = str S.lp := ⟨_, rfl⟩
  have hqs : q.size ≤ 1000000000 := by rw [hq, ← len_data, str_data]; have := h.lpv; omega
  have hbd := cmpL_bd p.data.toList S.lp
  obtain ⟨c, hc⟩ : ∃ c, c = cmpL p.data.toList S.lp := ⟨_, rfl⟩
  have HCMP : Aside0 (∀ W, Calls Tryd.prog 32 #[.string p, .string q] W fun e w' => e = .returned (.int .i64 c) ∧ Below W.heap.size W w') := ⟨fun W => by
    have h1 := compare_calls p q W hp hqs
    rw [show q.data.toList = S.lp by rw [hq, str_data], ← hc] at h1
    exact h1⟩
  have HB : Aside0 (behB S p.data.toList k = (!S.told || (decide (0 < c) || (decide (c = 0) && decide (S.lb < k))))) := ⟨by unfold behB; rw [hc]⟩
  have hb1 := (Below.refl w.heap.size w).alloc (Nat.le_refl _) (.cells #[.string p, .int .i64 (k : Int)] 36 (0, 0))
  have HBX : Aside0 ((w.alloc (.cells #[.string p, .int .i64 (k : Int)] 36 (0, 0))).heap[w.heap.size]? = some (.cells #[.string p, .int .i64 (k : Int)] 36 (0, 0))) := ⟨heap_new rfl⟩
  have HB1 := Aside0.mk hb1
  have hbox := below_heap hb1 h.box
  rw [← hq] at hbox
  have HBG := Aside0.mk hbox
  rw [← hc] at hbd
  obtain ⟨hbd1, hbd2⟩ := hbd
  obtain ⟨td, htd⟩ : ∃ td, S.told = td := ⟨_, rfl⟩
  obtain ⟨lb, hlb⟩ : ∃ lb, S.lb = lb := ⟨_, rfl⟩
  rw [htd, hlb] at HB HBG
  rw [hlb] at hlbv
  obtain ⟨B, hB⟩ : ∃ B, B = w.heap.size := ⟨_, rfl⟩
  obtain ⟨W, hW⟩ : ∃ W, W = w.alloc (.cells #[.string p, .int .i64 (k : Int)] 36 (0, 0)) := ⟨_, rfl⟩
  rw [← hW] at HBX HBG HB1
  rw [← hB] at HBX
  rw [HB.out]
  clear hb1 hbox h hq hc htd hlb hqs
  go_enter Tryd.func36, Tryd.ntmps36
  go_upto_region 1 with fail
  rw [← hW, ← hB]
  clear hW hB
  refine wp_region_flowMB (fun a b => Below a.heap.size a b) 9 (BhR g B p q c) [6, 7, 8, 9, 10, 11, 12, 13, 5] (by kernel_rfl) (by kernel_rfl) (by kernel_rfl) ((Below.refl _ _).drew) (fun _ _ _ h k => below_step h k) (BhR_st _ _ _ _ _) ?_ (.inl (by kernel_rfl)) ?_
  · intro i o hi ho aa w' F
    have hlow := F.low
    match i, ho with
    | 0, ho =>
      obtain rfl := Option.some.inj ho
      refine flow_plain rfl rfl ?_
      have f3 : aa.tmps.getD 3 undef = .pointer (some ⟨B, 0, none⟩) := F.out 3 (by kernel_rfl) _ rfl
      refine op_pure (.pointer (some ⟨B, 0, none⟩)) ?_ ⟨_, rfl, Below.refl _ _, rfl⟩
      simp [execOp, Act.eval, go_sem, f3]
    | 1, ho =>
      obtain rfl := Option.some.inj ho
      refine flow_plain rfl rfl ?_
      have f6 : (aa.tmps.getD 6 undef) = .pointer (some ⟨B, 0, none⟩) := F.of 0 (by kernel_rfl)
      have hc := (blk (below_heap hlow HBX.out)).1
      refine op_pure (.string p) ?_ ⟨_, rfl, Below.refl _ _, rfl⟩
      simp [execOp, Act.eval, go_sem, f6, hc]
    | 2, ho =>
      obtain rfl := Option.some.inj ho
      refine flow_plain rfl rfl ?_
      have f0 : aa.tmps.getD 0 undef = .pointer (some ⟨g, 0, none⟩) := F.out 0 (by kernel_rfl) _ rfl
      exact op_move (.tmp 0) rfl ⟨_, rfl, Below.refl _ _, f0⟩
    | 3, ho =>
      obtain rfl := Option.some.inj ho
      refine flow_plain rfl rfl ?_
      have f8 : (aa.tmps.getD 8 undef) = .pointer (some ⟨g, 0, none⟩) := F.of 2 (by kernel_rfl)
      refine op_pure (.pointer (some ⟨g, 0, none⟩)) ?_ ⟨_, rfl, Below.refl _ _, rfl⟩
      simp [execOp, Act.eval, go_sem, f8]
    | 4, ho =>
      obtain rfl := Option.some.inj ho
      refine flow_plain rfl rfl ?_
      have f9 : (aa.tmps.getD 9 undef) = .pointer (some ⟨g, 0, none⟩) := F.of 3 (by kernel_rfl)
      refine op_pure (.pointer (some ⟨g, 1, none⟩)) ?_ ⟨_, rfl, Below.refl _ _, rfl⟩
      simp [execOp, Act.eval, go_sem, f9]
    | 5, ho =>
      obtain rfl := Option.some.inj ho
      refine flow_plain rfl rfl ?_
      have f10 : (aa.tmps.getD 10 undef) = .pointer (some ⟨g, 1, none⟩) := F.of 4 (by kernel_rfl)
      refine op_pure (.pointer (some ⟨g, 1, none⟩)) ?_ ⟨_, rfl, Below.refl _ _, rfl⟩
      simp [execOp, Act.eval, go_sem, f10]
    | 6, ho =>
      obtain rfl := Option.some.inj ho
      refine flow_plain rfl rfl ?_
      have f11 : (aa.tmps.getD 11 undef) = .pointer (some ⟨g, 1, none⟩) := F.of 5 (by kernel_rfl)
      have hc := (blk (below_heap hlow HBG.out)).1
      refine op_pure (.string q) ?_ ⟨_, rfl, Below.refl _ _, rfl⟩
      simp [execOp, Act.eval, go_sem, f11, hc]
    | 7, ho =>
      obtain rfl := Option.some.inj ho
      refine flow_plain rfl rfl ?_
      have f7 : (aa.tmps.getD 7 undef) = .string p := F.of 1 (by kernel_rfl)
      have f12 : (aa.tmps.getD 12 undef) = .string q := F.of 6 (by kernel_rfl)
      refine op_call 32 #[.tmp 7, .tmp 12] #[9, 9] rfl _ rfl rfl rfl #[.string p, .string q] (by simp [Act.eval, f7, f12]) ?_
      refine (HCMP.out _).mono ?_
      rintro e w2 ⟨rfl, hb2⟩
      exact ⟨_, rfl, _, rfl, hb2, rfl⟩
    | 8, ho =>
      obtain rfl := Option.some.inj ho
      refine flow_plain rfl rfl ?_
      have f13 : (aa.tmps.getD 13 undef) = .int .i64 c := F.of 7 (by kernel_rfl)
      exact op_assign (.tmp 13) rfl ⟨_, rfl, Below.refl _ _, f13⟩
    | j + 9, ho => omega
  · intro vs w' hlow hvs
    refine ⟨fun hx => ?_, fun h => absurd h (by decide)⟩
    clear hx
    have h8 : vs 8 = .int .i64 c := hvs 8 (by decide)
    have HW := Aside0.mk hlow
    simp only [putL, Act.put, List.setIfInBounds_toArray, List.set_cons_zero, List.set_cons_succ, Nat.reduceAdd]
    rw [h8]
    clear hvs hlow h8
    obtain ⟨c1, f1⟩ := blk (below_heap HW.out HBG.out)
    have g0 := c1 1
    have g1 := c1 2
    have g2 := c1 3
    have k1 := (blk (below_heap HW.out HBX.out)).1 1
    simp only [List.getElem?_toArray, List.getElem?_cons_zero, List.getElem?_cons_succ] at g0 g1 g2 k1
    clear c1 f1
    have HFIN := Aside0.mk (below_step HB1.out HW.out)
    have hbelow : Below w.heap.size w w' := HFIN.out
    cases td with
    | false =>
      go_wp2_with fail
      go_quiet (fail)
      go_wp2_with fail
      go_ret
      exact ⟨rfl, by first | exact HFIN.out.drew | exact below_drewN HFIN.out _⟩
    | true =>
      have hc3 : c = -1 ∨ c = 0 ∨ c = 1 := by omega
      rcases hc3 with rfl | rfl | rfl
      · go_wp2_with fail
        go_quiet (fail)
        go_wp2_with fail
        go_ret
        exact ⟨rfl, by first | exact HFIN.out.drew | exact below_drewN HFIN.out _⟩
      · by_cases hlt : lb < k
        · have d1 : decide ((lb : Int) < (k : Int)) = true := decide_eq_true (by omega)
          have d2 : decide (lb < k) = true := decide_eq_true hlt
          have z1 : (lb : Int) < (k : Int) := by omega
          go_wp2_with fail
          go_quiet (fail)
          go_wp2_with fail
          go_ret
          exact ⟨by first | rfl | (rw [d2]; rfl), by first | exact HFIN.out.drew | exact below_drewN HFIN.out _⟩
        · have d1 : decide ((lb : Int) < (k : Int)) = false := decide_eq_false (by omega)
          have d2 : decide (lb < k) = false := decide_eq_false hlt
          go_wp2_with fail
          go_quiet (fail)
          go_wp2_with fail
          go_ret
          exact ⟨by first | rfl | (rw [d2]; rfl), by first | exact HFIN.out.drew | exact below_drewN HFIN.out _⟩
      · go_wp2_with fail
        go_quiet (fail)
        go_wp2_with fail
        go_ret
        exact ⟨rfl, by first | exact HFIN.out.drew | exact below_drewN HFIN.out _⟩
end Go.Proofs.YtoigmepkhiknbaaDoor
