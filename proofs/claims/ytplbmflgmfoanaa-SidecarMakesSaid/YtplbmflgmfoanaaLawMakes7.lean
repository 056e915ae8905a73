/-
  The sidecar that is made is what the document says. No condition.
-/
import Derived.Test.YtplbmflgmfoanaaLaw7
import Derived.Test.YtplbmflgmfoanaaIntsEq
namespace Go.Proofs.Ytplbmflgmfoanaa
open Go.RowKit
set_option linter.unusedVariables false
set_option linter.unusedSimpArgs false

section
set_option maxRecDepth 100000
/-- What each slot of the region holds. -/
def MkG (vr vl vp vr2 vl2 vp2 : Value) (size block k code : Int) (G7 G9 : Nat) : Nat → Value → World → Prop
  | 0, v, w => v = .agg #[.int .i64 size, .int .i64 block, .int .i64 k, vr, vl, vp]
  | 1, v, w => v = .agg #[.int .i64 size, .int .i64 block, .int .i64 k, vr, vl, vp]
  | 2, v, w => v = .agg #[.int .i64 size, .int .i64 block, .int .i64 k, vr2, vl2, vp2]
  | 3, v, w => v = .bool true
  | 4, v, w => v = .bool true
  | 5, v, w => v = .int .i64 0
  | 6, v, w => v = .int .i64 0
  | 7, v, w => v = .bool true
  | 8, v, w => v = .bool true
  | 9, v, w => v = .bool true
  | 10, v, w => v = .int .i64 0
  | 11, v, w => v = .bool false
  | 12, v, w => v = .bool false
  | 13, v, w => v = .agg #[.int .i64 size, .int .i64 block, .int .i64 k, vr, vl, vp]
  | 14, v, w => v = .bool true
  | 15, v, w => v = .bool true
  | 16, v, w => v = .bool true
  | 17, v, w => v = .bool true
  | 18, v, w => v = .bool true
  | 19, v, w => v = .bool true
  | 20, v, w => v = .bool true
  | _, _, _ => True
theorem MkG_st (vr vl vp vr2 vl2 vp2 : Value) (size block k code : Int) (G7 G9 : Nat) : ∀ i v w w', MkG vr vl vp vr2 vl2 vp2 size block k code G7 G9 i v w → Below w.heap.size w w' → MkG vr vl vp vr2 vl2 vp2 size block k code G7 G9 i v w'
  | 0, v, w, w', h, hb => h
  | 1, v, w, w', h, hb => h
  | 2, v, w, w', h, hb => h
  | 3, v, w, w', h, hb => h
  | 4, v, w, w', h, hb => h
  | 5, v, w, w', h, hb => h
  | 6, v, w, w', h, hb => h
  | 7, v, w, w', h, hb => h
  | 8, v, w, w', h, hb => h
  | 9, v, w, w', h, hb => h
  | 10, v, w, w', h, hb => h
  | 11, v, w, w', h, hb => h
  | 12, v, w, w', h, hb => h
  | 13, v, w, w', h, hb => h
  | 14, v, w, w', h, hb => h
  | 15, v, w, w', h, hb => h
  | 16, v, w, w', h, hb => h
  | 17, v, w, w', h, hb => h
  | 18, v, w, w', h, hb => h
  | 19, v, w, w', h, hb => h
  | 20, v, w, w', h, hb => h
  | _ + 21, _, _, _, _, _ => trivial
/-- What each slot of the region holds. -/
def MkB (vr vl vp vr2 vl2 vp2 : Value) (size block k code : Int) (G7 G9 : Nat) : Nat → Value → World → Prop
  | 0, v, w => v = .agg #[.int .i64 size, .int .i64 block, .int .i64 k, vr, vl, vp]
  | 1, v, w => v = .agg #[.int .i64 size, .int .i64 block, .int .i64 k, vr, vl, vp]
  | 2, v, w => v = .agg #[.int .i64 size, .int .i64 block, .int .i64 k, vr2, vl2, vp2]
  | 3, v, w => v = .bool true
  | 4, v, w => v = .bool true
  | 5, v, w => v = .int .i64 1
  | 6, v, w => v = .int .i64 1
  | 7, v, w => v = .bool true
  | 8, v, w => v = .bool true
  | 9, v, w => v = .bool true
  | 10, v, w => v = .int .i64 1
  | 11, v, w => v = .bool true
  | 12, v, w => v = .bool true
  | 13, v, w => True
  | 14, v, w => True
  | 15, v, w => v = .bool true
  | 16, v, w => v = .bool true
  | 17, v, w => v = .bool true
  | 18, v, w => v = .bool true
  | 19, v, w => v = .bool true
  | 20, v, w => v = .bool true
  | _, _, _ => True
theorem MkB_st (vr vl vp vr2 vl2 vp2 : Value) (size block k code : Int) (G7 G9 : Nat) : ∀ i v w w', MkB vr vl vp vr2 vl2 vp2 size block k code G7 G9 i v w → Below w.heap.size w w' → MkB vr vl vp vr2 vl2 vp2 size block k code G7 G9 i v w'
  | 0, v, w, w', h, hb => h
  | 1, v, w, w', h, hb => h
  | 2, v, w, w', h, hb => h
  | 3, v, w, w', h, hb => h
  | 4, v, w, w', h, hb => h
  | 5, v, w, w', h, hb => h
  | 6, v, w, w', h, hb => h
  | 7, v, w, w', h, hb => h
  | 8, v, w, w', h, hb => h
  | 9, v, w, w', h, hb => h
  | 10, v, w, w', h, hb => h
  | 11, v, w, w', h, hb => h
  | 12, v, w, w', h, hb => h
  | 13, v, w, w', h, hb => trivial
  | 14, v, w, w', h, hb => trivial
  | 15, v, w, w', h, hb => h
  | 16, v, w, w', h, hb => h
  | 17, v, w, w', h, hb => h
  | 18, v, w, w', h, hb => h
  | 19, v, w, w', h, hb => h
  | 20, v, w, w', h, hb => h
  | _ + 21, _, _, _, _, _ => trivial
end

theorem makes7_early {b0 : Nat} {v : Value} {data : List UInt8} (block k : Int) (w : World) (hv : Sl bv 5 w b0 v data)
    (hcase : 2000 < data.length ∨ (data.length ≤ 2000 ∧ 1 ≤ block ∧ 130 < (data.length : Int) / block)) :
    Calls Try.prog 3 #[v, .int .i64 block, .int .i64 k] w fun e w' => e = .returned (.bool true) ∧ Below w.heap.size w w' := by
  obtain ⟨A, c, rfl, hc, hl, _⟩ := hv
  rcases hcase with h1 | ⟨h1, h2, h3⟩
  · have d1 : decide (2000 < data.length) = true := decide_eq_true h1
    go_enter Try.func3, Try.ntmps3
    go_wp2_with (go_at_call 5; refine (awake7_calls _).mono ?_; rintro e w1 ⟨rfl, hb1⟩; have HB := Aside0.mk hb1; clear hb1)
    go_ret
    exact ⟨rfl, HB.out⟩
  · have hd0 : 0 ≤ (data.length : Int) / block := Int.ediv_nonneg (by omega) (by omega)
    have hd9 : (data.length : Int) / block ≤ 2000 := Int.le_trans (Int.ediv_le_self _ (by omega)) (by omega)
    have d1 : decide (2000 < data.length) = false := decide_eq_false (by omega)
    have d3 : decide (130 < (data.length : Int) / block) = true := decide_eq_true h3
    go_enter Try.func3, Try.ntmps3
    go_wp2_with (go_at_call 5; refine (awake7_calls _).mono ?_; rintro e w1 ⟨rfl, hb1⟩; have HB := Aside0.mk hb1; clear hb1)
    go_ret
    exact ⟨rfl, HB.out⟩

set_option maxHeartbeats 8000000 in
set_option maxRecDepth 100000 in
theorem makes7_main {b0 : Nat} {v : Value} {data : List UInt8} (block k : Int) (w : World) (hv : Sl bv 5 w b0 v data)
    (hcase : (data.length ≤ 2000 ∧ 1 ≤ block ∧ ¬ 130 < (data.length : Int) / block) ∨ (data.length ≤ 2000 ∧ ¬ 1 ≤ block)) :
    Calls Try.prog 3 #[v, .int .i64 block, .int .i64 k] w fun e w' => e = .returned (.bool true) ∧ Below w.heap.size w w' := by
  have HV := Aside0.mk hv
  have HB := Aside0.mk (Below.refl w.heap.size w)
  obtain ⟨A, c, rfl, hc, hl, _⟩ := hv
  rcases hm : mayS data.length block k with _ | _
  · have HM := Aside0.mk hm
    rcases hcase with ⟨h1, h2, h3⟩ | ⟨h1, h2⟩
    · have hd0 : 0 ≤ (data.length : Int) / block := Int.ediv_nonneg (by omega) (by omega)
      have hd9 : (data.length : Int) / block ≤ 2000 := Int.le_trans (Int.ediv_le_self _ (by omega)) (by omega)
      have d1 : decide (2000 < data.length) = false := decide_eq_false (by omega)
      have d3 : decide (130 < (data.length : Int) / block) = false := decide_eq_false h3
      clear hm
      go_enter Try.func3, Try.ntmps3
      go_wp2_with fail
      refine (make_bad block k _ HV.out HM.out).mono ?_
      rintro e w1 ⟨rfl, hb1⟩
      have HB1 := Aside0.mk hb1
      clear hb1
      go_wp2_with fail
      have HB2 : Aside0 (Below w1.heap.size w1 (w1.alloc (.cells #[.int .i64 0, .int .i64 0, .int .i64 0, .slice none 0 0, .slice none 0 0, .slice none 0 0] 26))) := ⟨(Below.refl _ _).alloc (Nat.le_refl _) _⟩
      refine (rmake_bad block k _ (HV.out.below (below_step HB1.out HB2.out)) HM.out).mono ?_
      rintro e w2 ⟨rfl, hb2⟩
      have HG7 := Aside0.mk (below_heap hb2 (heap_new rfl))
      have HB3 := Aside0.mk (below_step HB1.out (below_step HB2.out hb2))
      clear hb2
      go_wp2_with fail
      have HB4 : Aside0 (Below w2.heap.size w2 (w2.alloc (.cells #[.int .i64 0, .int .i64 0, .int .i64 0, .slice none 0 0, .slice none 0 0, .slice none 0 0] 30))) := ⟨(Below.refl _ _).alloc (Nat.le_refl _) _⟩
      obtain ⟨G7, hG7⟩ : ∃ G, G = w1.heap.size := ⟨_, rfl⟩
      obtain ⟨G9, hG9⟩ : ∃ G, G = w2.heap.size := ⟨_, rfl⟩
      obtain ⟨W, hW⟩ : ∃ W, W = w2.alloc (.cells #[.int .i64 0, .int .i64 0, .int .i64 0, .slice none 0 0, .slice none 0 0, .slice none 0 0] 30) := ⟨_, rfl⟩
      have HG9 := Aside0.mk (show W.heap[G9]? = some (.cells #[.int .i64 0, .int .i64 0, .int .i64 0, .slice none 0 0, .slice none 0 0, .slice none 0 0] 30) by rw [hW, hG9]; exact heap_new rfl)
      have HG7 := Aside0.mk (show W.heap[G7]? = some (.cells #[.int .i64 0, .int .i64 0, .int .i64 0, .slice none 0 0, .slice none 0 0, .slice none 0 0] 26) by rw [hW, hG7]; exact heap_old HG7.out)
      rw [← hW] at HB4 ⊢
      rw [← hG7, ← hG9]
      have HR0 : SideR W (.slice none 0 0) (.slice none 0 0) (.slice none 0 0) [] [] [] := ⟨⟨0, Sl.nil _ _ _ _⟩, ⟨0, SlL.nil _ _⟩, ⟨0, SlL.nil _ _⟩⟩
      have HR7 := Aside0.mk HR0
      have HR9 := Aside0.mk HR0
      have HB1 := Aside0.mk (below_step HB3.out HB4.out)
      clear hW hG7 hG9 HR0
      obtain ⟨size, hsize⟩ : ∃ s : Int, s = 0 := ⟨_, rfl⟩
      obtain ⟨vn, hvn⟩ : ∃ v, v = Value.slice none 0 0 := ⟨_, rfl⟩
      rw [← hvn] at HG7 HG9 HR7 HR9
      rw [← hsize] at HG7 HG9
      have HS1 : Aside0 (∃ A n c, vn = .slice A n c) := ⟨⟨_, _, _, hvn⟩⟩
      have HS2 := HS1
      have HS3 := HS1
      clear hsize hvn
      refine wp_region_flowA (MkB vn vn vn vn vn vn size size size size G7 G9) (by kernel_rfl) (by kernel_rfl) (MkB_st _ _ _ _ _ _ _ _ _ _ _ _) ?_ ?_
      · intro i o ho aa w' F
        have hlow := F.low
        match i, ho with
        | 0, ho =>
          obtain rfl := Option.some.inj ho
          refine flow_plain rfl rfl ?_
          have f7 : aa.tmps.getD 7 undef = .pointer (some ⟨G7, 0, none⟩) := eval_out F 7 (by kernel_rfl) _ rfl
          have hc := (blk (below_heap hlow HG7.out)).1
          refine op_pure (.agg #[.int .i64 size, .int .i64 size, .int .i64 size, vn, vn, vn]) ?_ ⟨_, rfl, Below.refl _ _, rfl⟩
          simp [execOp, Act.eval, go_sem, f7, hc]
        | 1, ho =>
          obtain rfl := Option.some.inj ho
          refine flow_plain rfl rfl ?_
          have f40 : (aa.tmps.getD 40 undef) = .agg #[.int .i64 size, .int .i64 size, .int .i64 size, vn, vn, vn] := F.of 0 (by kernel_rfl)
          refine op_call 9 #[.tmp 40] #[26] rfl _ rfl rfl rfl #[.agg #[.int .i64 size, .int .i64 size, .int .i64 size, vn, vn, vn]] (by simp [Act.eval, f40]) ?_
          refine (flat_calls _ _ _ _ HS1.out HS2.out HS3.out).mono ?_
          rintro e w7 ⟨rfl, hb7⟩
          exact ⟨_, rfl, _, rfl, hb7, rfl⟩
        | 2, ho =>
          obtain rfl := Option.some.inj ho
          refine flow_plain rfl rfl ?_
          have f9 : aa.tmps.getD 9 undef = .pointer (some ⟨G9, 0, none⟩) := eval_out F 9 (by kernel_rfl) _ rfl
          have hc := (blk (below_heap hlow HG9.out)).1
          refine op_pure (.agg #[.int .i64 size, .int .i64 size, .int .i64 size, vn, vn, vn]) ?_ ⟨_, rfl, Below.refl _ _, rfl⟩
          simp [execOp, Act.eval, go_sem, f9, hc]
        | 3, ho =>
          obtain rfl := Option.some.inj ho
          refine flow_plain rfl rfl ?_
          have f41 : (aa.tmps.getD 41 undef) = .agg #[.int .i64 size, .int .i64 size, .int .i64 size, vn, vn, vn] := F.of 1 (by kernel_rfl)
          have f42 : (aa.tmps.getD 42 undef) = .agg #[.int .i64 size, .int .i64 size, .int .i64 size, vn, vn, vn] := F.of 2 (by kernel_rfl)
          refine op_call 8 #[.tmp 41, .tmp 42] #[30, 30] rfl _ rfl rfl rfl #[.agg #[.int .i64 size, .int .i64 size, .int .i64 size, vn, vn, vn], .agg #[.int .i64 size, .int .i64 size, .int .i64 size, vn, vn, vn]] (by simp [Act.eval, f41, f42]) ?_
          refine (sameside_true _ _ _ _ (HR7.out.below hlow) (HR9.out.below hlow)).mono ?_
          rintro e w7 ⟨rfl, hb7⟩
          exact ⟨_, rfl, _, rfl, hb7, rfl⟩
        | 4, ho =>
          obtain rfl := Option.some.inj ho
          refine flow_plain rfl rfl ?_
          have f43 : (aa.tmps.getD 43 undef) = .bool true := F.of 3 (by kernel_rfl)
          exact op_move (.tmp 43) rfl ⟨_, rfl, Below.refl _ _, f43⟩
        | 5, ho =>
          obtain rfl := Option.some.inj ho
          have hg : aa.tmps.getD 44 undef = .bool true := F.of 4 (by kernel_rfl)
          refine flow_yes rfl rfl 44 rfl hg ?_
          have f8 : aa.tmps.getD 8 undef = .int .i64 1 := eval_out F 8 (by kernel_rfl) _ rfl
          exact op_move (.tmp 8) rfl ⟨_, rfl, Below.refl _ _, f8⟩
        | 6, ho =>
          obtain rfl := Option.some.inj ho
          have hg : aa.tmps.getD 44 undef = .bool true := F.of 4 (by kernel_rfl)
          refine flow_yes rfl rfl 44 rfl hg ?_
          have f10 : aa.tmps.getD 10 undef = .int .i64 1 := eval_out F 10 (by kernel_rfl) _ rfl
          exact op_move (.tmp 10) rfl ⟨_, rfl, Below.refl _ _, f10⟩
        | 7, ho =>
          obtain rfl := Option.some.inj ho
          have hg : aa.tmps.getD 44 undef = .bool true := F.of 4 (by kernel_rfl)
          refine flow_yes rfl rfl 44 rfl hg ?_
          have f45 : (aa.tmps.getD 45 undef) = .int .i64 1 := F.of 5 (by kernel_rfl)
          have f46 : (aa.tmps.getD 46 undef) = .int .i64 1 := F.of 6 (by kernel_rfl)
          refine op_pure (.bool true) ?_ ⟨_, rfl, Below.refl _ _, rfl⟩
          simp [execOp, Act.eval, go_sem, f45, f46]
        | 8, ho =>
          obtain rfl := Option.some.inj ho
          refine flow_plain rfl rfl ?_
          have f44 : (aa.tmps.getD 44 undef) = .bool true := F.of 4 (by kernel_rfl)
          have f47 : (aa.tmps.getD 47 undef) = .bool true := F.of 7 (by kernel_rfl)
          refine op_pure (.bool true) ?_ ⟨_, rfl, Below.refl _ _, rfl⟩
          simp [execOp, Act.eval, go_sem, f44, f47]
        | 9, ho =>
          obtain rfl := Option.some.inj ho
          refine flow_plain rfl rfl ?_
          have f48 : (aa.tmps.getD 48 undef) = .bool true := F.of 8 (by kernel_rfl)
          exact op_move (.tmp 48) rfl ⟨_, rfl, Below.refl _ _, f48⟩
        | 10, ho =>
          obtain rfl := Option.some.inj ho
          have hg : aa.tmps.getD 49 undef = .bool true := F.of 9 (by kernel_rfl)
          refine flow_yes rfl rfl 49 rfl hg ?_
          have f10 : aa.tmps.getD 10 undef = .int .i64 1 := eval_out F 10 (by kernel_rfl) _ rfl
          exact op_move (.tmp 10) rfl ⟨_, rfl, Below.refl _ _, f10⟩
        | 11, ho =>
          obtain rfl := Option.some.inj ho
          have hg : aa.tmps.getD 49 undef = .bool true := F.of 9 (by kernel_rfl)
          refine flow_yes rfl rfl 49 rfl hg ?_
          have f50 : (aa.tmps.getD 50 undef) = .int .i64 1 := F.of 10 (by kernel_rfl)
          refine op_pure (.bool true) ?_ ⟨_, rfl, Below.refl _ _, rfl⟩
          simp [execOp, Act.eval, go_sem, f50]
        | 12, ho =>
          obtain rfl := Option.some.inj ho
          have hg : aa.tmps.getD 49 undef = .bool true := F.of 9 (by kernel_rfl)
          refine flow_yes rfl rfl 49 rfl hg ?_
          have f51 : (aa.tmps.getD 51 undef) = .bool true := F.of 11 (by kernel_rfl)
          exact op_move (.tmp 51) rfl ⟨_, rfl, Below.refl _ _, f51⟩
        | 13, ho =>
          obtain rfl := Option.some.inj ho
          have hg : aa.tmps.getD 52 undef = .bool true := F.of 12 (by kernel_rfl)
          exact flow_no rfl rfl 52 rfl hg ⟨_, rfl, Below.refl _ _, trivial⟩
        | 14, ho =>
          obtain rfl := Option.some.inj ho
          have hg : aa.tmps.getD 52 undef = .bool true := F.of 12 (by kernel_rfl)
          exact flow_no rfl rfl 52 rfl hg ⟨_, rfl, Below.refl _ _, trivial⟩
        | 15, ho =>
          obtain rfl := Option.some.inj ho
          have hg : aa.tmps.getD 49 undef = .bool true := F.of 9 (by kernel_rfl)
          refine flow_yes rfl rfl 49 rfl hg ?_
          have f52 : (aa.tmps.getD 52 undef) = .bool true := F.of 12 (by kernel_rfl)
          have f54 : True := F.of 14 (by kernel_rfl)
          refine op_pure (.bool true) ?_ ⟨_, rfl, Below.refl _ _, rfl⟩
          simp [execOp, Act.eval, go_sem, f52]
        | 16, ho =>
          obtain rfl := Option.some.inj ho
          refine flow_plain rfl rfl ?_
          have f49 : (aa.tmps.getD 49 undef) = .bool true := F.of 9 (by kernel_rfl)
          have f55 : (aa.tmps.getD 55 undef) = .bool true := F.of 15 (by kernel_rfl)
          refine op_pure (.bool true) ?_ ⟨_, rfl, Below.refl _ _, rfl⟩
          simp [execOp, Act.eval, go_sem, f49, f55]
        | 17, ho =>
          obtain rfl := Option.some.inj ho
          refine flow_plain rfl rfl ?_
          have f56 : (aa.tmps.getD 56 undef) = .bool true := F.of 16 (by kernel_rfl)
          exact op_move (.tmp 56) rfl ⟨_, rfl, Below.refl _ _, f56⟩
        | 18, ho =>
          obtain rfl := Option.some.inj ho
          have hg : aa.tmps.getD 57 undef = .bool true := F.of 17 (by kernel_rfl)
          refine flow_yes rfl rfl 57 rfl hg ?_
          refine op_call 5 #[] #[] rfl _ rfl rfl rfl #[] (by simp [Act.eval]) ?_
          refine (awake7_calls _).mono ?_
          rintro e w7 ⟨rfl, hb7⟩
          exact ⟨_, rfl, _, rfl, hb7, rfl⟩
        | 19, ho =>
          obtain rfl := Option.some.inj ho
          refine flow_plain rfl rfl ?_
          have f57 : (aa.tmps.getD 57 undef) = .bool true := F.of 17 (by kernel_rfl)
          have f58 : (aa.tmps.getD 58 undef) = .bool true := F.of 18 (by kernel_rfl)
          refine op_pure (.bool true) ?_ ⟨_, rfl, Below.refl _ _, rfl⟩
          simp [execOp, Act.eval, go_sem, f57, f58]
        | 20, ho =>
          obtain rfl := Option.some.inj ho
          refine flow_plain rfl rfl ?_
          have f59 : (aa.tmps.getD 59 undef) = .bool true := F.of 19 (by kernel_rfl)
          exact op_assign (.tmp 59) rfl ⟨_, rfl, Below.refl _ _, f59⟩
        | j + 21, ho => exact absurd (Array.getElem?_eq_some_iff.1 ho).1 (by simp)
      · intro a' w' htsz hdfs hsame hlow hgot
        have h6 : a'.tmps.getD 6 undef = .bool true := hgot 20 (by simp)
        have hB := Aside0.mk (below_step HB1.out hlow)
        clear hgot hlow hsame
        go_wp2_with fail
        exact bodyPost_ret (results_tmp rfl _ _ _) hdfs ⟨by rw [h6], hB.out⟩
    · have d1 : decide (2000 < data.length) = false := decide_eq_false (by omega)
      clear hm
      go_enter Try.func3, Try.ntmps3
      go_wp2_with fail
      refine (make_bad block k _ HV.out HM.out).mono ?_
      rintro e w1 ⟨rfl, hb1⟩
      have HB1 := Aside0.mk hb1
      clear hb1
      go_wp2_with fail
      have HB2 : Aside0 (Below w1.heap.size w1 (w1.alloc (.cells #[.int .i64 0, .int .i64 0, .int .i64 0, .slice none 0 0, .slice none 0 0, .slice none 0 0] 26))) := ⟨(Below.refl _ _).alloc (Nat.le_refl _) _⟩
      refine (rmake_bad block k _ (HV.out.below (below_step HB1.out HB2.out)) HM.out).mono ?_
      rintro e w2 ⟨rfl, hb2⟩
      have HG7 := Aside0.mk (below_heap hb2 (heap_new rfl))
      have HB3 := Aside0.mk (below_step HB1.out (below_step HB2.out hb2))
      clear hb2
      go_wp2_with fail
      have HB4 : Aside0 (Below w2.heap.size w2 (w2.alloc (.cells #[.int .i64 0, .int .i64 0, .int .i64 0, .slice none 0 0, .slice none 0 0, .slice none 0 0] 30))) := ⟨(Below.refl _ _).alloc (Nat.le_refl _) _⟩
      obtain ⟨G7, hG7⟩ : ∃ G, G = w1.heap.size := ⟨_, rfl⟩
      obtain ⟨G9, hG9⟩ : ∃ G, G = w2.heap.size := ⟨_, rfl⟩
      obtain ⟨W, hW⟩ : ∃ W, W = w2.alloc (.cells #[.int .i64 0, .int .i64 0, .int .i64 0, .slice none 0 0, .slice none 0 0, .slice none 0 0] 30) := ⟨_, rfl⟩
      have HG9 := Aside0.mk (show W.heap[G9]? = some (.cells #[.int .i64 0, .int .i64 0, .int .i64 0, .slice none 0 0, .slice none 0 0, .slice none 0 0] 30) by rw [hW, hG9]; exact heap_new rfl)
      have HG7 := Aside0.mk (show W.heap[G7]? = some (.cells #[.int .i64 0, .int .i64 0, .int .i64 0, .slice none 0 0, .slice none 0 0, .slice none 0 0] 26) by rw [hW, hG7]; exact heap_old HG7.out)
      rw [← hW] at HB4 ⊢
      rw [← hG7, ← hG9]
      have HR0 : SideR W (.slice none 0 0) (.slice none 0 0) (.slice none 0 0) [] [] [] := ⟨⟨0, Sl.nil _ _ _ _⟩, ⟨0, SlL.nil _ _⟩, ⟨0, SlL.nil _ _⟩⟩
      have HR7 := Aside0.mk HR0
      have HR9 := Aside0.mk HR0
      have HB1 := Aside0.mk (below_step HB3.out HB4.out)
      clear hW hG7 hG9 HR0
      obtain ⟨size, hsize⟩ : ∃ s : Int, s = 0 := ⟨_, rfl⟩
      obtain ⟨vn, hvn⟩ : ∃ v, v = Value.slice none 0 0 := ⟨_, rfl⟩
      rw [← hvn] at HG7 HG9 HR7 HR9
      rw [← hsize] at HG7 HG9
      have HS1 : Aside0 (∃ A n c, vn = .slice A n c) := ⟨⟨_, _, _, hvn⟩⟩
      have HS2 := HS1
      have HS3 := HS1
      clear hsize hvn
      refine wp_region_flowA (MkB vn vn vn vn vn vn size size size size G7 G9) (by kernel_rfl) (by kernel_rfl) (MkB_st _ _ _ _ _ _ _ _ _ _ _ _) ?_ ?_
      · intro i o ho aa w' F
        have hlow := F.low
        match i, ho with
        | 0, ho =>
          obtain rfl := Option.some.inj ho
          refine flow_plain rfl rfl ?_
          have f7 : aa.tmps.getD 7 undef = .pointer (some ⟨G7, 0, none⟩) := eval_out F 7 (by kernel_rfl) _ rfl
          have hc := (blk (below_heap hlow HG7.out)).1
          refine op_pure (.agg #[.int .i64 size, .int .i64 size, .int .i64 size, vn, vn, vn]) ?_ ⟨_, rfl, Below.refl _ _, rfl⟩
          simp [execOp, Act.eval, go_sem, f7, hc]
        | 1, ho =>
          obtain rfl := Option.some.inj ho
          refine flow_plain rfl rfl ?_
          have f40 : (aa.tmps.getD 40 undef) = .agg #[.int .i64 size, .int .i64 size, .int .i64 size, vn, vn, vn] := F.of 0 (by kernel_rfl)
          refine op_call 9 #[.tmp 40] #[26] rfl _ rfl rfl rfl #[.agg #[.int .i64 size, .int .i64 size, .int .i64 size, vn, vn, vn]] (by simp [Act.eval, f40]) ?_
          refine (flat_calls _ _ _ _ HS1.out HS2.out HS3.out).mono ?_
          rintro e w7 ⟨rfl, hb7⟩
          exact ⟨_, rfl, _, rfl, hb7, rfl⟩
        | 2, ho =>
          obtain rfl := Option.some.inj ho
          refine flow_plain rfl rfl ?_
          have f9 : aa.tmps.getD 9 undef = .pointer (some ⟨G9, 0, none⟩) := eval_out F 9 (by kernel_rfl) _ rfl
          have hc := (blk (below_heap hlow HG9.out)).1
          refine op_pure (.agg #[.int .i64 size, .int .i64 size, .int .i64 size, vn, vn, vn]) ?_ ⟨_, rfl, Below.refl _ _, rfl⟩
          simp [execOp, Act.eval, go_sem, f9, hc]
        | 3, ho =>
          obtain rfl := Option.some.inj ho
          refine flow_plain rfl rfl ?_
          have f41 : (aa.tmps.getD 41 undef) = .agg #[.int .i64 size, .int .i64 size, .int .i64 size, vn, vn, vn] := F.of 1 (by kernel_rfl)
          have f42 : (aa.tmps.getD 42 undef) = .agg #[.int .i64 size, .int .i64 size, .int .i64 size, vn, vn, vn] := F.of 2 (by kernel_rfl)
          refine op_call 8 #[.tmp 41, .tmp 42] #[30, 30] rfl _ rfl rfl rfl #[.agg #[.int .i64 size, .int .i64 size, .int .i64 size, vn, vn, vn], .agg #[.int .i64 size, .int .i64 size, .int .i64 size, vn, vn, vn]] (by simp [Act.eval, f41, f42]) ?_
          refine (sameside_true _ _ _ _ (HR7.out.below hlow) (HR9.out.below hlow)).mono ?_
          rintro e w7 ⟨rfl, hb7⟩
          exact ⟨_, rfl, _, rfl, hb7, rfl⟩
        | 4, ho =>
          obtain rfl := Option.some.inj ho
          refine flow_plain rfl rfl ?_
          have f43 : (aa.tmps.getD 43 undef) = .bool true := F.of 3 (by kernel_rfl)
          exact op_move (.tmp 43) rfl ⟨_, rfl, Below.refl _ _, f43⟩
        | 5, ho =>
          obtain rfl := Option.some.inj ho
          have hg : aa.tmps.getD 44 undef = .bool true := F.of 4 (by kernel_rfl)
          refine flow_yes rfl rfl 44 rfl hg ?_
          have f8 : aa.tmps.getD 8 undef = .int .i64 1 := eval_out F 8 (by kernel_rfl) _ rfl
          exact op_move (.tmp 8) rfl ⟨_, rfl, Below.refl _ _, f8⟩
        | 6, ho =>
          obtain rfl := Option.some.inj ho
          have hg : aa.tmps.getD 44 undef = .bool true := F.of 4 (by kernel_rfl)
          refine flow_yes rfl rfl 44 rfl hg ?_
          have f10 : aa.tmps.getD 10 undef = .int .i64 1 := eval_out F 10 (by kernel_rfl) _ rfl
          exact op_move (.tmp 10) rfl ⟨_, rfl, Below.refl _ _, f10⟩
        | 7, ho =>
          obtain rfl := Option.some.inj ho
          have hg : aa.tmps.getD 44 undef = .bool true := F.of 4 (by kernel_rfl)
          refine flow_yes rfl rfl 44 rfl hg ?_
          have f45 : (aa.tmps.getD 45 undef) = .int .i64 1 := F.of 5 (by kernel_rfl)
          have f46 : (aa.tmps.getD 46 undef) = .int .i64 1 := F.of 6 (by kernel_rfl)
          refine op_pure (.bool true) ?_ ⟨_, rfl, Below.refl _ _, rfl⟩
          simp [execOp, Act.eval, go_sem, f45, f46]
        | 8, ho =>
          obtain rfl := Option.some.inj ho
          refine flow_plain rfl rfl ?_
          have f44 : (aa.tmps.getD 44 undef) = .bool true := F.of 4 (by kernel_rfl)
          have f47 : (aa.tmps.getD 47 undef) = .bool true := F.of 7 (by kernel_rfl)
          refine op_pure (.bool true) ?_ ⟨_, rfl, Below.refl _ _, rfl⟩
          simp [execOp, Act.eval, go_sem, f44, f47]
        | 9, ho =>
          obtain rfl := Option.some.inj ho
          refine flow_plain rfl rfl ?_
          have f48 : (aa.tmps.getD 48 undef) = .bool true := F.of 8 (by kernel_rfl)
          exact op_move (.tmp 48) rfl ⟨_, rfl, Below.refl _ _, f48⟩
        | 10, ho =>
          obtain rfl := Option.some.inj ho
          have hg : aa.tmps.getD 49 undef = .bool true := F.of 9 (by kernel_rfl)
          refine flow_yes rfl rfl 49 rfl hg ?_
          have f10 : aa.tmps.getD 10 undef = .int .i64 1 := eval_out F 10 (by kernel_rfl) _ rfl
          exact op_move (.tmp 10) rfl ⟨_, rfl, Below.refl _ _, f10⟩
        | 11, ho =>
          obtain rfl := Option.some.inj ho
          have hg : aa.tmps.getD 49 undef = .bool true := F.of 9 (by kernel_rfl)
          refine flow_yes rfl rfl 49 rfl hg ?_
          have f50 : (aa.tmps.getD 50 undef) = .int .i64 1 := F.of 10 (by kernel_rfl)
          refine op_pure (.bool true) ?_ ⟨_, rfl, Below.refl _ _, rfl⟩
          simp [execOp, Act.eval, go_sem, f50]
        | 12, ho =>
          obtain rfl := Option.some.inj ho
          have hg : aa.tmps.getD 49 undef = .bool true := F.of 9 (by kernel_rfl)
          refine flow_yes rfl rfl 49 rfl hg ?_
          have f51 : (aa.tmps.getD 51 undef) = .bool true := F.of 11 (by kernel_rfl)
          exact op_move (.tmp 51) rfl ⟨_, rfl, Below.refl _ _, f51⟩
        | 13, ho =>
          obtain rfl := Option.some.inj ho
          have hg : aa.tmps.getD 52 undef = .bool true := F.of 12 (by kernel_rfl)
          exact flow_no rfl rfl 52 rfl hg ⟨_, rfl, Below.refl _ _, trivial⟩
        | 14, ho =>
          obtain rfl := Option.some.inj ho
          have hg : aa.tmps.getD 52 undef = .bool true := F.of 12 (by kernel_rfl)
          exact flow_no rfl rfl 52 rfl hg ⟨_, rfl, Below.refl _ _, trivial⟩
        | 15, ho =>
          obtain rfl := Option.some.inj ho
          have hg : aa.tmps.getD 49 undef = .bool true := F.of 9 (by kernel_rfl)
          refine flow_yes rfl rfl 49 rfl hg ?_
          have f52 : (aa.tmps.getD 52 undef) = .bool true := F.of 12 (by kernel_rfl)
          have f54 : True := F.of 14 (by kernel_rfl)
          refine op_pure (.bool true) ?_ ⟨_, rfl, Below.refl _ _, rfl⟩
          simp [execOp, Act.eval, go_sem, f52]
        | 16, ho =>
          obtain rfl := Option.some.inj ho
          refine flow_plain rfl rfl ?_
          have f49 : (aa.tmps.getD 49 undef) = .bool true := F.of 9 (by kernel_rfl)
          have f55 : (aa.tmps.getD 55 undef) = .bool true := F.of 15 (by kernel_rfl)
          refine op_pure (.bool true) ?_ ⟨_, rfl, Below.refl _ _, rfl⟩
          simp [execOp, Act.eval, go_sem, f49, f55]
        | 17, ho =>
          obtain rfl := Option.some.inj ho
          refine flow_plain rfl rfl ?_
          have f56 : (aa.tmps.getD 56 undef) = .bool true := F.of 16 (by kernel_rfl)
          exact op_move (.tmp 56) rfl ⟨_, rfl, Below.refl _ _, f56⟩
        | 18, ho =>
          obtain rfl := Option.some.inj ho
          have hg : aa.tmps.getD 57 undef = .bool true := F.of 17 (by kernel_rfl)
          refine flow_yes rfl rfl 57 rfl hg ?_
          refine op_call 5 #[] #[] rfl _ rfl rfl rfl #[] (by simp [Act.eval]) ?_
          refine (awake7_calls _).mono ?_
          rintro e w7 ⟨rfl, hb7⟩
          exact ⟨_, rfl, _, rfl, hb7, rfl⟩
        | 19, ho =>
          obtain rfl := Option.some.inj ho
          refine flow_plain rfl rfl ?_
          have f57 : (aa.tmps.getD 57 undef) = .bool true := F.of 17 (by kernel_rfl)
          have f58 : (aa.tmps.getD 58 undef) = .bool true := F.of 18 (by kernel_rfl)
          refine op_pure (.bool true) ?_ ⟨_, rfl, Below.refl _ _, rfl⟩
          simp [execOp, Act.eval, go_sem, f57, f58]
        | 20, ho =>
          obtain rfl := Option.some.inj ho
          refine flow_plain rfl rfl ?_
          have f59 : (aa.tmps.getD 59 undef) = .bool true := F.of 19 (by kernel_rfl)
          exact op_assign (.tmp 59) rfl ⟨_, rfl, Below.refl _ _, f59⟩
        | j + 21, ho => exact absurd (Array.getElem?_eq_some_iff.1 ho).1 (by simp)
      · intro a' w' htsz hdfs hsame hlow hgot
        have h6 : a'.tmps.getD 6 undef = .bool true := hgot 20 (by simp)
        have hB := Aside0.mk (below_step HB1.out hlow)
        clear hgot hlow hsame
        go_wp2_with fail
        exact bodyPost_ret (results_tmp rfl _ _ _) hdfs ⟨by rw [h6], hB.out⟩
  · have HM := Aside0.mk hm
    obtain ⟨g1, g2, g3, g4, g5, g6⟩ := mayS_iff.1 hm
    rcases hcase with ⟨h1, h2, h3⟩ | ⟨h1, h2⟩
    · have hd0 : 0 ≤ (data.length : Int) / block := Int.ediv_nonneg (by omega) (by omega)
      have hd9 : (data.length : Int) / block ≤ 2000 := Int.le_trans (Int.ediv_le_self _ (by omega)) (by omega)
      have d1 : decide (2000 < data.length) = false := decide_eq_false (by omega)
      have d3 : decide (130 < (data.length : Int) / block) = false := decide_eq_false h3
      have HN := Aside0.mk (And.intro g3 (And.intro g4 h1))
      have HSO := Aside0.mk (made_sound hm)
      have HNL : Aside0 ((leavesL data block).length ≤ 1000000000) := ⟨(leaves_fit data block).1⟩
      obtain ⟨RL, hRL⟩ : ∃ RL, rootL (leavesL data block) = RL := ⟨_, rfl⟩
      obtain ⟨LL, hLL⟩ : ∃ LL, leavesL data block = LL := ⟨_, rfl⟩
      obtain ⟨BL, hBL⟩ : ∃ BL, buildL data block k = BL := ⟨_, rfl⟩
      rw [hLL] at hRL HSO HNL
      rw [hRL, hBL] at HSO
      have HRL := Aside0.mk hRL
      have HLL := Aside0.mk hLL
      have HBL := Aside0.mk hBL
      clear hm g1 g2 g3 g4 g5 g6 hRL hLL hBL
      go_enter Try.func3, Try.ntmps3
      go_wp2_with fail
      refine (make_good block k _ HV.out HM.out).mono ?_
      rintro e w1 ⟨vr, vl, vp, rfl, hsr, hb1⟩
      rw [HLL.out, HRL.out, HBL.out] at hsr
      have HSR := Aside0.mk hsr
      have HB1 := Aside0.mk hb1
      obtain ⟨⟨br, hr⟩, ⟨bl, hl⟩, ⟨bp, hp⟩⟩ := hsr
      obtain ⟨Ar, cr, rfl, _, hmr, _⟩ := hr
      obtain ⟨Al, cl, rfl, _, hml⟩ := hl.shape
      obtain ⟨Ap, cp, rfl, _, hmp⟩ := hp.shape
      clear hl hp hb1
      go_wp2_with fail
      have HB2 : Aside0 (Below w1.heap.size w1 (w1.alloc (.cells #[.int .i64 data.length, .int .i64 block, .int .i64 k, .slice Ar RL.length cr, .slice Al LL.length cl, .slice Ap BL.length cp] 26))) := ⟨(Below.refl _ _).alloc (Nat.le_refl _) _⟩
      refine (rmake_good block k _ (HV.out.below (below_step HB1.out HB2.out)) HM.out).mono ?_
      rintro e w2 ⟨vr2, vl2, vp2, rfl, hsr2, hb2⟩
      rw [HLL.out, HRL.out, HBL.out] at hsr2
      have HSR2 := Aside0.mk (HSR.out.below (below_step HB2.out hb2))
      have HG7 := Aside0.mk (below_heap hb2 (heap_new rfl))
      have HB3 := Aside0.mk (below_step HB1.out (below_step HB2.out hb2))
      have HT2 := Aside0.mk hsr2
      obtain ⟨⟨br2, hr2⟩, ⟨bl2, hl2⟩, ⟨bp2, hp2⟩⟩ := hsr2
      obtain ⟨Ar2, cr2, rfl, _, hmr2, _⟩ := hr2
      obtain ⟨Al2, cl2, rfl, _, hml2⟩ := hl2.shape
      obtain ⟨Ap2, cp2, rfl, _, hmp2⟩ := hp2.shape
      clear hl2 hp2 hb2
      go_wp2_with fail
      have HB4 : Aside0 (Below w2.heap.size w2 (w2.alloc (.cells #[.int .i64 data.length, .int .i64 block, .int .i64 k, .slice Ar2 RL.length cr2, .slice Al2 LL.length cl2, .slice Ap2 BL.length cp2] 30))) := ⟨(Below.refl _ _).alloc (Nat.le_refl _) _⟩
      obtain ⟨G7, hG7⟩ : ∃ G, G = w1.heap.size := ⟨_, rfl⟩
      obtain ⟨G9, hG9⟩ : ∃ G, G = w2.heap.size := ⟨_, rfl⟩
      obtain ⟨W, hW⟩ : ∃ W, W = w2.alloc (.cells #[.int .i64 data.length, .int .i64 block, .int .i64 k, .slice Ar2 RL.length cr2, .slice Al2 LL.length cl2, .slice Ap2 BL.length cp2] 30) := ⟨_, rfl⟩
      have HG9 := Aside0.mk (show W.heap[G9]? = some (.cells #[.int .i64 data.length, .int .i64 block, .int .i64 k, .slice Ar2 RL.length cr2, .slice Al2 LL.length cl2, .slice Ap2 BL.length cp2] 30) by rw [hW, hG9]; exact heap_new rfl)
      have HG7 := Aside0.mk (show W.heap[G7]? = some (.cells #[.int .i64 data.length, .int .i64 block, .int .i64 k, .slice Ar RL.length cr, .slice Al LL.length cl, .slice Ap BL.length cp] 26) by rw [hW, hG7]; exact heap_old HG7.out)
      rw [← hW] at HB4 ⊢
      rw [← hG7, ← hG9]
      have HR7 := Aside0.mk (HSR2.out.below HB4.out)
      have HR9 := Aside0.mk (HT2.out.below HB4.out)
      have HB1 := Aside0.mk (below_step HB3.out HB4.out)
      have HNS : Aside0 (-9223372036854775808 ≤ (data.length : Int) ∧ (data.length : Int) ≤ 9223372036854775807) := ⟨by omega⟩
      have HNB : Aside0 (-9223372036854775808 ≤ block ∧ block ≤ 9223372036854775807) := ⟨by have := HN.out; omega⟩
      clear hW hG7 hG9
      obtain ⟨size, hsize⟩ : ∃ s : Int, s = data.length := ⟨_, rfl⟩
      rw [← hsize] at HG7 HG9 HNS HSO ⊢
      obtain ⟨vr, hvr⟩ : ∃ v, v = Value.slice Ar RL.length cr := ⟨_, rfl⟩
      obtain ⟨vl, hvl⟩ : ∃ v, v = Value.slice Al LL.length cl := ⟨_, rfl⟩
      obtain ⟨vp, hvp⟩ : ∃ v, v = Value.slice Ap BL.length cp := ⟨_, rfl⟩
      obtain ⟨vr2, hvr2⟩ : ∃ v, v = Value.slice Ar2 RL.length cr2 := ⟨_, rfl⟩
      obtain ⟨vl2, hvl2⟩ : ∃ v, v = Value.slice Al2 LL.length cl2 := ⟨_, rfl⟩
      obtain ⟨vp2, hvp2⟩ : ∃ v, v = Value.slice Ap2 BL.length cp2 := ⟨_, rfl⟩
      rw [← hvr, ← hvl, ← hvp] at HG7 HR7
      rw [← hvr2, ← hvl2, ← hvp2] at HG9 HR9
      have HS1 : Aside0 (∃ A n c, vr = .slice A n c) := ⟨⟨_, _, _, hvr⟩⟩
      have HS2 : Aside0 (∃ A n c, vl = .slice A n c) := ⟨⟨_, _, _, hvl⟩⟩
      have HS3 : Aside0 (∃ A n c, vp = .slice A n c) := ⟨⟨_, _, _, hvp⟩⟩
      clear hsize hvr hvl hvp hvr2 hvl2 hvp2
      refine wp_region_flowA (MkG vr vl vp vr2 vl2 vp2 size block k size G7 G9) (by kernel_rfl) (by kernel_rfl) (MkG_st _ _ _ _ _ _ _ _ _ _ _ _) ?_ ?_
      · intro i o ho aa w' F
        have hlow := F.low
        match i, ho with
        | 0, ho =>
          obtain rfl := Option.some.inj ho
          refine flow_plain rfl rfl ?_
          have f7 : aa.tmps.getD 7 undef = .pointer (some ⟨G7, 0, none⟩) := eval_out F 7 (by kernel_rfl) _ rfl
          have hc := (blk (below_heap hlow HG7.out)).1
          refine op_pure (.agg #[.int .i64 size, .int .i64 block, .int .i64 k, vr, vl, vp]) ?_ ⟨_, rfl, Below.refl _ _, rfl⟩
          simp [execOp, Act.eval, go_sem, f7, hc]
        | 1, ho =>
          obtain rfl := Option.some.inj ho
          refine flow_plain rfl rfl ?_
          have f40 : (aa.tmps.getD 40 undef) = .agg #[.int .i64 size, .int .i64 block, .int .i64 k, vr, vl, vp] := F.of 0 (by kernel_rfl)
          refine op_call 9 #[.tmp 40] #[26] rfl _ rfl rfl rfl #[.agg #[.int .i64 size, .int .i64 block, .int .i64 k, vr, vl, vp]] (by simp [Act.eval, f40]) ?_
          refine (flat_calls _ _ _ _ HS1.out HS2.out HS3.out).mono ?_
          rintro e w7 ⟨rfl, hb7⟩
          exact ⟨_, rfl, _, rfl, hb7, rfl⟩
        | 2, ho =>
          obtain rfl := Option.some.inj ho
          refine flow_plain rfl rfl ?_
          have f9 : aa.tmps.getD 9 undef = .pointer (some ⟨G9, 0, none⟩) := eval_out F 9 (by kernel_rfl) _ rfl
          have hc := (blk (below_heap hlow HG9.out)).1
          refine op_pure (.agg #[.int .i64 size, .int .i64 block, .int .i64 k, vr2, vl2, vp2]) ?_ ⟨_, rfl, Below.refl _ _, rfl⟩
          simp [execOp, Act.eval, go_sem, f9, hc]
        | 3, ho =>
          obtain rfl := Option.some.inj ho
          refine flow_plain rfl rfl ?_
          have f41 : (aa.tmps.getD 41 undef) = .agg #[.int .i64 size, .int .i64 block, .int .i64 k, vr, vl, vp] := F.of 1 (by kernel_rfl)
          have f42 : (aa.tmps.getD 42 undef) = .agg #[.int .i64 size, .int .i64 block, .int .i64 k, vr2, vl2, vp2] := F.of 2 (by kernel_rfl)
          refine op_call 8 #[.tmp 41, .tmp 42] #[30, 30] rfl _ rfl rfl rfl #[.agg #[.int .i64 size, .int .i64 block, .int .i64 k, vr, vl, vp], .agg #[.int .i64 size, .int .i64 block, .int .i64 k, vr2, vl2, vp2]] (by simp [Act.eval, f41, f42]) ?_
          refine (sameside_true _ _ _ _ (HR7.out.below hlow) (HR9.out.below hlow)).mono ?_
          rintro e w7 ⟨rfl, hb7⟩
          exact ⟨_, rfl, _, rfl, hb7, rfl⟩
        | 4, ho =>
          obtain rfl := Option.some.inj ho
          refine flow_plain rfl rfl ?_
          have f43 : (aa.tmps.getD 43 undef) = .bool true := F.of 3 (by kernel_rfl)
          exact op_move (.tmp 43) rfl ⟨_, rfl, Below.refl _ _, f43⟩
        | 5, ho =>
          obtain rfl := Option.some.inj ho
          have hg : aa.tmps.getD 44 undef = .bool true := F.of 4 (by kernel_rfl)
          refine flow_yes rfl rfl 44 rfl hg ?_
          have f8 : aa.tmps.getD 8 undef = .int .i64 0 := eval_out F 8 (by kernel_rfl) _ rfl
          exact op_move (.tmp 8) rfl ⟨_, rfl, Below.refl _ _, f8⟩
        | 6, ho =>
          obtain rfl := Option.some.inj ho
          have hg : aa.tmps.getD 44 undef = .bool true := F.of 4 (by kernel_rfl)
          refine flow_yes rfl rfl 44 rfl hg ?_
          have f10 : aa.tmps.getD 10 undef = .int .i64 0 := eval_out F 10 (by kernel_rfl) _ rfl
          exact op_move (.tmp 10) rfl ⟨_, rfl, Below.refl _ _, f10⟩
        | 7, ho =>
          obtain rfl := Option.some.inj ho
          have hg : aa.tmps.getD 44 undef = .bool true := F.of 4 (by kernel_rfl)
          refine flow_yes rfl rfl 44 rfl hg ?_
          have f45 : (aa.tmps.getD 45 undef) = .int .i64 0 := F.of 5 (by kernel_rfl)
          have f46 : (aa.tmps.getD 46 undef) = .int .i64 0 := F.of 6 (by kernel_rfl)
          refine op_pure (.bool true) ?_ ⟨_, rfl, Below.refl _ _, rfl⟩
          simp [execOp, Act.eval, go_sem, f45, f46]
        | 8, ho =>
          obtain rfl := Option.some.inj ho
          refine flow_plain rfl rfl ?_
          have f44 : (aa.tmps.getD 44 undef) = .bool true := F.of 4 (by kernel_rfl)
          have f47 : (aa.tmps.getD 47 undef) = .bool true := F.of 7 (by kernel_rfl)
          refine op_pure (.bool true) ?_ ⟨_, rfl, Below.refl _ _, rfl⟩
          simp [execOp, Act.eval, go_sem, f44, f47]
        | 9, ho =>
          obtain rfl := Option.some.inj ho
          refine flow_plain rfl rfl ?_
          have f48 : (aa.tmps.getD 48 undef) = .bool true := F.of 8 (by kernel_rfl)
          exact op_move (.tmp 48) rfl ⟨_, rfl, Below.refl _ _, f48⟩
        | 10, ho =>
          obtain rfl := Option.some.inj ho
          have hg : aa.tmps.getD 49 undef = .bool true := F.of 9 (by kernel_rfl)
          refine flow_yes rfl rfl 49 rfl hg ?_
          have f10 : aa.tmps.getD 10 undef = .int .i64 0 := eval_out F 10 (by kernel_rfl) _ rfl
          exact op_move (.tmp 10) rfl ⟨_, rfl, Below.refl _ _, f10⟩
        | 11, ho =>
          obtain rfl := Option.some.inj ho
          have hg : aa.tmps.getD 49 undef = .bool true := F.of 9 (by kernel_rfl)
          refine flow_yes rfl rfl 49 rfl hg ?_
          have f50 : (aa.tmps.getD 50 undef) = .int .i64 0 := F.of 10 (by kernel_rfl)
          refine op_pure (.bool false) ?_ ⟨_, rfl, Below.refl _ _, rfl⟩
          simp [execOp, Act.eval, go_sem, f50]
        | 12, ho =>
          obtain rfl := Option.some.inj ho
          have hg : aa.tmps.getD 49 undef = .bool true := F.of 9 (by kernel_rfl)
          refine flow_yes rfl rfl 49 rfl hg ?_
          have f51 : (aa.tmps.getD 51 undef) = .bool false := F.of 11 (by kernel_rfl)
          exact op_move (.tmp 51) rfl ⟨_, rfl, Below.refl _ _, f51⟩
        | 13, ho =>
          obtain rfl := Option.some.inj ho
          have hg : aa.tmps.getD 52 undef = .bool false := F.of 12 (by kernel_rfl)
          refine flow_yes rfl rfl 52 rfl hg ?_
          have f7 : aa.tmps.getD 7 undef = .pointer (some ⟨G7, 0, none⟩) := eval_out F 7 (by kernel_rfl) _ rfl
          have hc := (blk (below_heap hlow HG7.out)).1
          refine op_pure (.agg #[.int .i64 size, .int .i64 block, .int .i64 k, vr, vl, vp]) ?_ ⟨_, rfl, Below.refl _ _, rfl⟩
          simp [execOp, Act.eval, go_sem, f7, hc]
        | 14, ho =>
          obtain rfl := Option.some.inj ho
          have hg : aa.tmps.getD 52 undef = .bool false := F.of 12 (by kernel_rfl)
          refine flow_yes rfl rfl 52 rfl hg ?_
          have f53 : (aa.tmps.getD 53 undef) = .agg #[.int .i64 size, .int .i64 block, .int .i64 k, vr, vl, vp] := F.of 13 (by kernel_rfl)
          refine op_call 10 #[.tmp 53] #[26] rfl _ rfl rfl rfl #[.agg #[.int .i64 size, .int .i64 block, .int .i64 k, vr, vl, vp]] (by simp [Act.eval, f53]) ?_
          refine (sound_calls _ _ _ _ (HR7.out.below hlow) HNS.out HNB.out HNL.out).mono ?_
          rintro e w7 ⟨rfl, hb7⟩
          exact ⟨_, rfl, _, rfl, hb7, by rw [HSO.out]; rfl⟩
        | 15, ho =>
          obtain rfl := Option.some.inj ho
          have hg : aa.tmps.getD 49 undef = .bool true := F.of 9 (by kernel_rfl)
          refine flow_yes rfl rfl 49 rfl hg ?_
          have f52 : (aa.tmps.getD 52 undef) = .bool false := F.of 12 (by kernel_rfl)
          have f54 : (aa.tmps.getD 54 undef) = .bool true := F.of 14 (by kernel_rfl)
          refine op_pure (.bool true) ?_ ⟨_, rfl, Below.refl _ _, rfl⟩
          simp [execOp, Act.eval, go_sem, f52, f54]
        | 16, ho =>
          obtain rfl := Option.some.inj ho
          refine flow_plain rfl rfl ?_
          have f49 : (aa.tmps.getD 49 undef) = .bool true := F.of 9 (by kernel_rfl)
          have f55 : (aa.tmps.getD 55 undef) = .bool true := F.of 15 (by kernel_rfl)
          refine op_pure (.bool true) ?_ ⟨_, rfl, Below.refl _ _, rfl⟩
          simp [execOp, Act.eval, go_sem, f49, f55]
        | 17, ho =>
          obtain rfl := Option.some.inj ho
          refine flow_plain rfl rfl ?_
          have f56 : (aa.tmps.getD 56 undef) = .bool true := F.of 16 (by kernel_rfl)
          exact op_move (.tmp 56) rfl ⟨_, rfl, Below.refl _ _, f56⟩
        | 18, ho =>
          obtain rfl := Option.some.inj ho
          have hg : aa.tmps.getD 57 undef = .bool true := F.of 17 (by kernel_rfl)
          refine flow_yes rfl rfl 57 rfl hg ?_
          refine op_call 5 #[] #[] rfl _ rfl rfl rfl #[] (by simp [Act.eval]) ?_
          refine (awake7_calls _).mono ?_
          rintro e w7 ⟨rfl, hb7⟩
          exact ⟨_, rfl, _, rfl, hb7, rfl⟩
        | 19, ho =>
          obtain rfl := Option.some.inj ho
          refine flow_plain rfl rfl ?_
          have f57 : (aa.tmps.getD 57 undef) = .bool true := F.of 17 (by kernel_rfl)
          have f58 : (aa.tmps.getD 58 undef) = .bool true := F.of 18 (by kernel_rfl)
          refine op_pure (.bool true) ?_ ⟨_, rfl, Below.refl _ _, rfl⟩
          simp [execOp, Act.eval, go_sem, f57, f58]
        | 20, ho =>
          obtain rfl := Option.some.inj ho
          refine flow_plain rfl rfl ?_
          have f59 : (aa.tmps.getD 59 undef) = .bool true := F.of 19 (by kernel_rfl)
          exact op_assign (.tmp 59) rfl ⟨_, rfl, Below.refl _ _, f59⟩
        | j + 21, ho => exact absurd (Array.getElem?_eq_some_iff.1 ho).1 (by simp)
      · intro a' w' htsz hdfs hsame hlow hgot
        have h6 : a'.tmps.getD 6 undef = .bool true := hgot 20 (by simp)
        have hB := Aside0.mk (below_step HB1.out hlow)
        clear hgot hlow hsame
        go_wp2_with fail
        exact bodyPost_ret (results_tmp rfl _ _ _) hdfs ⟨by rw [h6], hB.out⟩
    · omega

theorem makes7 {b0 : Nat} {v : Value} {data : List UInt8} (block k : Int) (w : World) (hv : Sl bv 5 w b0 v data) :
    Calls Try.prog 3 #[v, .int .i64 block, .int .i64 k] w fun e w' => e = .returned (.bool true) ∧ Below w.heap.size w w' := by
  by_cases h1 : 2000 < data.length
  · exact makes7_early block k w hv (.inl h1)
  by_cases h2 : 1 ≤ block
  · by_cases h3 : 130 < (data.length : Int) / block
    · exact makes7_early block k w hv (.inr ⟨by omega, h2, h3⟩)
    · exact makes7_main block k w hv (.inl ⟨by omega, h2, h3⟩)
  · exact makes7_main block k w hv (.inr ⟨by omega, h2⟩)
end Go.Proofs.Ytplbmflgmfoanaa
