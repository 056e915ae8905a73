/-
  The reference's Need. No condition but that both can be read.
-/
import Derived.Test.YtdikconhdbopdaaDelFns
import Derived.Test.YtdikconhdbopdaaFlowP
namespace Go.Proofs.Ytdikconhdbopdaa
open Go.RowKit
set_option linter.unusedVariables false
set_option linter.unusedSimpArgs false

section
set_option maxRecDepth 100000
/-- What each slot of the region holds. -/
def NdN (A A2 : Option Addr) (c c2 la lb n : Nat) (ad ad2 : Addr) (Au Av : Option Addr) (xl yl cu cv : Nat) (x y : List UInt8) : Nat → Value → World → Prop
  | 0, v, w => v = .int .i64 n
  | 1, v, w => v = .slice A la c
  | 2, v, w => v = .int .i64 la
  | 3, v, w => v = .bool true
  | 4, v, w => v = .bool true
  | 5, v, w => True
  | 6, v, w => True
  | 7, v, w => True
  | 8, v, w => True
  | 9, v, w => True
  | 10, v, w => True
  | 11, v, w => True
  | 12, v, w => True
  | 13, v, w => True
  | 14, v, w => True
  | 15, v, w => True
  | 16, v, w => v = .bool true
  | _, _, _ => True
theorem NdN_st (A A2 : Option Addr) (c c2 la lb n : Nat) (ad ad2 : Addr) (Au Av : Option Addr) (xl yl cu cv : Nat) (x y : List UInt8) : ∀ i v w w', NdN A A2 c c2 la lb n ad ad2 Au Av xl yl cu cv x y i v w → Below w.heap.size w w' → NdN A A2 c c2 la lb n ad ad2 Au Av xl yl cu cv x y i v w'
  | 0, v, w, w', h, hb => h
  | 1, v, w, w', h, hb => h
  | 2, v, w, w', h, hb => h
  | 3, v, w, w', h, hb => h
  | 4, v, w, w', h, hb => h
  | 5, v, w, w', h, hb => trivial
  | 6, v, w, w', h, hb => trivial
  | 7, v, w, w', h, hb => trivial
  | 8, v, w, w', h, hb => trivial
  | 9, v, w, w', h, hb => trivial
  | 10, v, w, w', h, hb => trivial
  | 11, v, w, w', h, hb => trivial
  | 12, v, w, w', h, hb => trivial
  | 13, v, w, w', h, hb => trivial
  | 14, v, w, w', h, hb => trivial
  | 15, v, w, w', h, hb => trivial
  | 16, v, w, w', h, hb => h
  | _ + 17, _, _, _, _, _ => trivial
/-- What each slot of the region holds. -/
def NdS (A A2 : Option Addr) (c c2 la lb n : Nat) (ad ad2 : Addr) (Au Av : Option Addr) (xl yl cu cv : Nat) (x y : List UInt8) : Nat → Value → World → Prop
  | 0, v, w => v = .int .i64 n
  | 1, v, w => v = .slice (some ad) la c
  | 2, v, w => v = .int .i64 la
  | 3, v, w => v = .bool false
  | 4, v, w => v = .bool false
  | 5, v, w => v = .slice (some ad) la c
  | 6, v, w => v = .int .i64 n
  | 7, v, w => v = .pointer (some (ad.add n))
  | 8, v, w => v = .slice Au xl cu
  | 9, v, w => v = .string (str x)
  | 10, v, w => v = .slice (some ad2) lb c2
  | 11, v, w => v = .int .i64 n
  | 12, v, w => v = .pointer (some (ad2.add n))
  | 13, v, w => v = .slice Av yl cv
  | 14, v, w => v = .string (str y)
  | 15, v, w => v = .bool (x != y)
  | 16, v, w => v = .bool (x != y)
  | _, _, _ => True
theorem NdS_st (A A2 : Option Addr) (c c2 la lb n : Nat) (ad ad2 : Addr) (Au Av : Option Addr) (xl yl cu cv : Nat) (x y : List UInt8) : ∀ i v w w', NdS A A2 c c2 la lb n ad ad2 Au Av xl yl cu cv x y i v w → Below w.heap.size w w' → NdS A A2 c c2 la lb n ad ad2 Au Av xl yl cu cv x y i v w'
  | 0, v, w, w', h, hb => h
  | 1, v, w, w', h, hb => h
  | 2, v, w, w', h, hb => h
  | 3, v, w, w', h, hb => h
  | 4, v, w, w', h, hb => h
  | 5, v, w, w', h, hb => h
  | 6, v, w, w', h, hb => h
  | 7, v, w, w', h, hb => h
  | 8, v, w, w', h, hb => h
  | 9, v, w, w', h, hb => h
  | 10, v, w, w', h, hb => h
  | 11, v, w, w', h, hb => h
  | 12, v, w, w', h, hb => h
  | 13, v, w, w', h, hb => h
  | 14, v, w, w', h, hb => h
  | 15, v, w, w', h, hb => h
  | 16, v, w, w', h, hb => h
  | _ + 17, _, _, _, _, _ => trivial
end
set_option maxHeartbeats 4000000 in
set_option maxRecDepth 100000 in
theorem rneed_calls {b1 b2 : Nat} {va vb : Value} {a b : List (List UInt8)} (w : World) (ha : SlL w b1 va a) (hb : SlL w b2 vb b) (hlb : b.length ≤ 1000000000) :
    Calls Try.prog 16 #[va, vb] w fun e w' => ∃ v', e = .returned v' ∧ OwnI w' w.heap.size v' (needN a b b.length) ∧ Below w.heap.size w w' := by
  have HA := Aside0.mk ha
  have HB := Aside0.mk hb
  obtain ⟨A, c, rfl, hc, hm⟩ := ha.shape
  obtain ⟨A2, c2, rfl, hc', hm'⟩ := hb.shape
  clear ha hb
  go_enter Try.func16, Try.ntmps16
  go_wp2_with fail
  go_loopw [5, 6] (fun v i wr => ∃ n : Nat, n ≤ b.length ∧ i = .int .i64 n ∧ Aside0 (OwnI wr w.heap.size v (needN a b n) ∧ Below w.heap.size w wr)) (fun v i wr => b.length - (intOf i).toNat)
  case atStart => exact ⟨0, by omega, rfl, ⟨World.ownsRow_nil _ _ _ _, Below.refl _ _⟩⟩
  case round =>
    obtain ⟨n, hn, rfl, hs⟩ := hrel
    have HL := Aside0.mk (needN_length a b n)
    by_cases hlt : n < b.length
    · by_cases h1 : a.length ≤ n
      · have d1 : decide (a.length ≤ n) = true := decide_eq_true h1
        have HD : Aside0 (needN a b (n + 1) = needN a b n ++ [(n : Int)]) := ⟨by rw [needN, show needB a b n = true by unfold needB; rw [d1]; rfl, if_pos rfl]⟩
        go_wp2_with fail
        refine wp_region_flowMB (fun a b => Below a.heap.size a b) 17 (NdN A A2 c c2 a.length b.length n ⟨0, 0, none⟩ ⟨0, 0, none⟩ none none 0 0 0 0 [] []) [13, 14, 15, 16, 17, 18, 19, 20, 21, 22, 23, 24, 25, 26, 27, 28, 29] (by kernel_rfl) (by kernel_rfl) (by kernel_rfl) ((Below.refl _ _).drew) (fun _ _ _ h k => below_step h k) (NdN_st _ _ _ _ _ _ _ _ _ _ _ _ _ _ _ _ _) ?_ (.inl (by kernel_rfl)) ?_
        · intro i o hi ho aa w' F
          have hlow := F.low
          match i, ho with
          | 0, ho =>
            obtain rfl := Option.some.inj ho
            refine flow_plain rfl rfl ?_
            have f6 : aa.tmps.getD 6 undef = .int .i64 n := F.out 6 (by kernel_rfl) _ rfl
            exact op_move (.tmp 6) rfl ⟨_, rfl, Below.refl _ _, f6⟩
          | 1, ho =>
            obtain rfl := Option.some.inj ho
            refine flow_plain rfl rfl ?_
            have f0 : aa.tmps.getD 0 undef = .slice A a.length c := F.out 0 (by kernel_rfl) _ rfl
            exact op_move (.tmp 0) rfl ⟨_, rfl, Below.refl _ _, f0⟩
          | 2, ho =>
            obtain rfl := Option.some.inj ho
            refine flow_plain rfl rfl ?_
            have f14 : (aa.tmps.getD 14 undef) = .slice A a.length c := F.of 1 (by kernel_rfl)
            refine op_pure (.int .i64 a.length) ?_ ⟨_, rfl, Below.refl _ _, rfl⟩
            simp [execOp, Act.eval, go_sem, f14]
          | 3, ho =>
            obtain rfl := Option.some.inj ho
            refine flow_plain rfl rfl ?_
            have f13 : (aa.tmps.getD 13 undef) = .int .i64 n := F.of 0 (by kernel_rfl)
            have f15 : (aa.tmps.getD 15 undef) = .int .i64 a.length := F.of 2 (by kernel_rfl)
            refine op_pure (.bool true) ?_ ⟨_, rfl, Below.refl _ _, rfl⟩
            simp [execOp, Act.eval, go_sem, f13, f15, h1]
          | 4, ho =>
            obtain rfl := Option.some.inj ho
            refine flow_plain rfl rfl ?_
            have f16 : (aa.tmps.getD 16 undef) = .bool true := F.of 3 (by kernel_rfl)
            exact op_move (.tmp 16) rfl ⟨_, rfl, Below.refl _ _, f16⟩
          | 5, ho =>
            obtain rfl := Option.some.inj ho
            have hg : aa.tmps.getD 17 undef = .bool true := F.of 4 (by kernel_rfl)
            exact flow_no rfl rfl 17 rfl hg ⟨_, rfl, Below.refl _ _, trivial⟩
          | 6, ho =>
            obtain rfl := Option.some.inj ho
            have hg : aa.tmps.getD 17 undef = .bool true := F.of 4 (by kernel_rfl)
            exact flow_no rfl rfl 17 rfl hg ⟨_, rfl, Below.refl _ _, trivial⟩
          | 7, ho =>
            obtain rfl := Option.some.inj ho
            have hg : aa.tmps.getD 17 undef = .bool true := F.of 4 (by kernel_rfl)
            exact flow_no rfl rfl 17 rfl hg ⟨_, rfl, Below.refl _ _, trivial⟩
          | 8, ho =>
            obtain rfl := Option.some.inj ho
            have hg : aa.tmps.getD 17 undef = .bool true := F.of 4 (by kernel_rfl)
            exact flow_no rfl rfl 17 rfl hg ⟨_, rfl, Below.refl _ _, trivial⟩
          | 9, ho =>
            obtain rfl := Option.some.inj ho
            have hg : aa.tmps.getD 17 undef = .bool true := F.of 4 (by kernel_rfl)
            exact flow_no rfl rfl 17 rfl hg ⟨_, rfl, Below.refl _ _, trivial⟩
          | 10, ho =>
            obtain rfl := Option.some.inj ho
            have hg : aa.tmps.getD 17 undef = .bool true := F.of 4 (by kernel_rfl)
            exact flow_no rfl rfl 17 rfl hg ⟨_, rfl, Below.refl _ _, trivial⟩
          | 11, ho =>
            obtain rfl := Option.some.inj ho
            have hg : aa.tmps.getD 17 undef = .bool true := F.of 4 (by kernel_rfl)
            exact flow_no rfl rfl 17 rfl hg ⟨_, rfl, Below.refl _ _, trivial⟩
          | 12, ho =>
            obtain rfl := Option.some.inj ho
            have hg : aa.tmps.getD 17 undef = .bool true := F.of 4 (by kernel_rfl)
            exact flow_no rfl rfl 17 rfl hg ⟨_, rfl, Below.refl _ _, trivial⟩
          | 13, ho =>
            obtain rfl := Option.some.inj ho
            have hg : aa.tmps.getD 17 undef = .bool true := F.of 4 (by kernel_rfl)
            exact flow_no rfl rfl 17 rfl hg ⟨_, rfl, Below.refl _ _, trivial⟩
          | 14, ho =>
            obtain rfl := Option.some.inj ho
            have hg : aa.tmps.getD 17 undef = .bool true := F.of 4 (by kernel_rfl)
            exact flow_no rfl rfl 17 rfl hg ⟨_, rfl, Below.refl _ _, trivial⟩
          | 15, ho =>
            obtain rfl := Option.some.inj ho
            have hg : aa.tmps.getD 17 undef = .bool true := F.of 4 (by kernel_rfl)
            exact flow_no rfl rfl 17 rfl hg ⟨_, rfl, Below.refl _ _, trivial⟩
          | 16, ho =>
            obtain rfl := Option.some.inj ho
            refine flow_plain rfl rfl ?_
            have f17 : (aa.tmps.getD 17 undef) = .bool true := F.of 4 (by kernel_rfl)
            have f28 : True := F.of 15 (by kernel_rfl)
            refine op_pure (.bool true) ?_ ⟨_, rfl, Below.refl _ _, rfl⟩
            simp [execOp, Act.eval, go_sem, f17]
          | j + 17, ho => omega
        · intro vs w' hlow hvs
          refine ⟨fun hx => ?_, fun h => absurd h (by decide)⟩
          clear hx
          have h16 : vs 16 = .bool true := hvs 16 (by decide)
          have HW := Aside0.mk hlow
          simp only [putL, Act.put, List.setIfInBounds_toArray, List.set_cons_zero, List.set_cons_succ, Nat.reduceAdd]
          rw [h16]
          clear hvs hlow h16
          go_wp2_with (at_builtin; go_must (refine append_int rfl rfl (.tmp 30) (.tmp 32) rfl w.heap.size _ (needN a b n) _ _ 1 3 (0, 0) rfl rfl (own_below hs.out.1 (HW.out.alloc HW.out.size _)) (heap_new rfl) (by have := HL.out; omega) (by have h1 := hs.out.2.size; have h2 := HW.out.size; rw [World.size_alloc]; omega) ?_); intro v3 w3 hl3 hg3)
          have H3 := Aside0.mk (show OwnI w3 w.heap.size v3 (needN a b (n + 1)) ∧ Below w.heap.size w w3 from ⟨by rw [HD.out]; exact hl3, (below_step hs.out.2 (HW.out.alloc HW.out.size _)).grown hg3 (by have h1 := hs.out.2.size; have h2 := HW.out.size; rw [World.size_alloc]; omega) (own_base hs.out.1)⟩)
          clear hl3 hg3
          go_roundw
          case rel => exact ⟨n + 1, by omega, by go_num, H3⟩
          case measure => simp [intOf]; omega
      · have d1 : decide (a.length ≤ n) = false := decide_eq_false h1
        obtain ⟨ad, c3, u, A3, cu, he, hu, hcell, hsl⟩ := (HA.out.below hs.out.2).at n (by omega)
        cases he
        subst hu
        obtain ⟨ad', c4, u', A4, cu', he, hu, hcell', hsl'⟩ := (HB.out.below hs.out.2).at n (by omega)
        cases he
        subst hu
        obtain ⟨x, hx⟩ : ∃ x, x = a.getD n [] := ⟨_, rfl⟩
        obtain ⟨y, hy⟩ : ∃ y, y = b.getD n [] := ⟨_, rfl⟩
        rw [← hx] at hcell hsl
        rw [← hy] at hcell' hsl'
        have HX := Aside0.mk hx
        have HY := Aside0.mk hy
        have HSX := Aside0.mk hsl
        have HSY := Aside0.mk hsl'
        have HC1 := Aside0.mk hcell
        have HC2 := Aside0.mk hcell'
        have z1 : (0 : Int) ≤ (n : Int) := by omega
        have z2 : (n : Int) < a.length := by omega
        have z3 : (n : Int) < b.length := by omega
        have HD0 : Aside0 (needB a b n = (x != y)) := ⟨by unfold needB; rw [d1, HX.out, HY.out]; rfl⟩
        obtain ⟨o, ho⟩ : ∃ o, (x != y) = o := ⟨_, rfl⟩
        have HXY := Aside0.mk ho
        rw [ho] at HD0
        clear hx hy hsl hsl' ho hcell hcell'
        go_wp2_with fail
        refine wp_region_flowMB (fun a b => Below a.heap.size a b) 17 (NdS none none c c2 a.length b.length n ad ad' A3 A4 x.length y.length cu cu' x y) [13, 14, 15, 16, 17, 18, 19, 20, 21, 22, 23, 24, 25, 26, 27, 28, 29] (by kernel_rfl) (by kernel_rfl) (by kernel_rfl) ((Below.refl _ _).drew) (fun _ _ _ h k => below_step h k) (NdS_st _ _ _ _ _ _ _ _ _ _ _ _ _ _ _ _ _) ?_ (.inl (by kernel_rfl)) ?_
        · intro i o hi ho aa w' F
          have hlow := F.low
          match i, ho with
          | 0, ho =>
            obtain rfl := Option.some.inj ho
            refine flow_plain rfl rfl ?_
            have f6 : aa.tmps.getD 6 undef = .int .i64 n := F.out 6 (by kernel_rfl) _ rfl
            exact op_move (.tmp 6) rfl ⟨_, rfl, Below.refl _ _, f6⟩
          | 1, ho =>
            obtain rfl := Option.some.inj ho
            refine flow_plain rfl rfl ?_
            have f0 : aa.tmps.getD 0 undef = .slice (some ad) a.length c := F.out 0 (by kernel_rfl) _ rfl
            exact op_move (.tmp 0) rfl ⟨_, rfl, Below.refl _ _, f0⟩
          | 2, ho =>
            obtain rfl := Option.some.inj ho
            refine flow_plain rfl rfl ?_
            have f14 : (aa.tmps.getD 14 undef) = .slice (some ad) a.length c := F.of 1 (by kernel_rfl)
            refine op_pure (.int .i64 a.length) ?_ ⟨_, rfl, Below.refl _ _, rfl⟩
            simp [execOp, Act.eval, go_sem, f14]
          | 3, ho =>
            obtain rfl := Option.some.inj ho
            refine flow_plain rfl rfl ?_
            have f13 : (aa.tmps.getD 13 undef) = .int .i64 n := F.of 0 (by kernel_rfl)
            have f15 : (aa.tmps.getD 15 undef) = .int .i64 a.length := F.of 2 (by kernel_rfl)
            refine op_pure (.bool false) ?_ ⟨_, rfl, Below.refl _ _, rfl⟩
            simp [execOp, Act.eval, go_sem, f13, f15, h1]
          | 4, ho =>
            obtain rfl := Option.some.inj ho
            refine flow_plain rfl rfl ?_
            have f16 : (aa.tmps.getD 16 undef) = .bool false := F.of 3 (by kernel_rfl)
            exact op_move (.tmp 16) rfl ⟨_, rfl, Below.refl _ _, f16⟩
          | 5, ho =>
            obtain rfl := Option.some.inj ho
            have hg : aa.tmps.getD 17 undef = .bool false := F.of 4 (by kernel_rfl)
            refine flow_yes rfl rfl 17 rfl hg ?_
            have f0 : aa.tmps.getD 0 undef = .slice (some ad) a.length c := F.out 0 (by kernel_rfl) _ rfl
            exact op_move (.tmp 0) rfl ⟨_, rfl, Below.refl _ _, f0⟩
          | 6, ho =>
            obtain rfl := Option.some.inj ho
            have hg : aa.tmps.getD 17 undef = .bool false := F.of 4 (by kernel_rfl)
            refine flow_yes rfl rfl 17 rfl hg ?_
            have f6 : aa.tmps.getD 6 undef = .int .i64 n := F.out 6 (by kernel_rfl) _ rfl
            exact op_move (.tmp 6) rfl ⟨_, rfl, Below.refl _ _, f6⟩
          | 7, ho =>
            obtain rfl := Option.some.inj ho
            have hg : aa.tmps.getD 17 undef = .bool false := F.of 4 (by kernel_rfl)
            refine flow_yes rfl rfl 17 rfl hg ?_
            have f18 : (aa.tmps.getD 18 undef) = .slice (some ad) a.length c := F.of 5 (by kernel_rfl)
            have f19 : (aa.tmps.getD 19 undef) = .int .i64 n := F.of 6 (by kernel_rfl)
            refine op_pure (.pointer (some (ad.add n))) ?_ ⟨_, rfl, Below.refl _ _, rfl⟩
            simp [execOp, Act.eval, go_sem, f18, f19, z1, z2]
          | 8, ho =>
            obtain rfl := Option.some.inj ho
            have hg : aa.tmps.getD 17 undef = .bool false := F.of 4 (by kernel_rfl)
            refine flow_yes rfl rfl 17 rfl hg ?_
            have f20 : (aa.tmps.getD 20 undef) = .pointer (some (ad.add n)) := F.of 7 (by kernel_rfl)
            have hc := cell_keep hlow HC1.out
            refine op_pure (.slice A3 x.length cu) ?_ ⟨_, rfl, Below.refl _ _, rfl⟩
            simp [execOp, Act.eval, go_sem, f20, hc]
          | 9, ho =>
            obtain rfl := Option.some.inj ho
            have hg : aa.tmps.getD 17 undef = .bool false := F.of 4 (by kernel_rfl)
            refine flow_yes rfl rfl 17 rfl hg ?_
            have f21 : (aa.tmps.getD 21 undef) = .slice A3 x.length cu := F.of 8 (by kernel_rfl)
            refine op_conv _ _ _ rfl (.string (str x)) ?_ ⟨_, rfl, Below.refl _ _, rfl⟩
            rw [show aa.eval (.tmp 21) = _ from f21]
            exact (HSX.out.below hlow).string (P := Try.prog) Try.underlying22 Try.underlying5 Try.underlying9
          | 10, ho =>
            obtain rfl := Option.some.inj ho
            have hg : aa.tmps.getD 17 undef = .bool false := F.of 4 (by kernel_rfl)
            refine flow_yes rfl rfl 17 rfl hg ?_
            have f1 : aa.tmps.getD 1 undef = .slice (some ad') b.length c2 := F.out 1 (by kernel_rfl) _ rfl
            exact op_move (.tmp 1) rfl ⟨_, rfl, Below.refl _ _, f1⟩
          | 11, ho =>
            obtain rfl := Option.some.inj ho
            have hg : aa.tmps.getD 17 undef = .bool false := F.of 4 (by kernel_rfl)
            refine flow_yes rfl rfl 17 rfl hg ?_
            have f6 : aa.tmps.getD 6 undef = .int .i64 n := F.out 6 (by kernel_rfl) _ rfl
            exact op_move (.tmp 6) rfl ⟨_, rfl, Below.refl _ _, f6⟩
          | 12, ho =>
            obtain rfl := Option.some.inj ho
            have hg : aa.tmps.getD 17 undef = .bool false := F.of 4 (by kernel_rfl)
            refine flow_yes rfl rfl 17 rfl hg ?_
            have f23 : (aa.tmps.getD 23 undef) = .slice (some ad') b.length c2 := F.of 10 (by kernel_rfl)
            have f24 : (aa.tmps.getD 24 undef) = .int .i64 n := F.of 11 (by kernel_rfl)
            refine op_pure (.pointer (some (ad'.add n))) ?_ ⟨_, rfl, Below.refl _ _, rfl⟩
            simp [execOp, Act.eval, go_sem, f23, f24, z1, z3]
          | 13, ho =>
            obtain rfl := Option.some.inj ho
            have hg : aa.tmps.getD 17 undef = .bool false := F.of 4 (by kernel_rfl)
            refine flow_yes rfl rfl 17 rfl hg ?_
            have f25 : (aa.tmps.getD 25 undef) = .pointer (some (ad'.add n)) := F.of 12 (by kernel_rfl)
            have hc := cell_keep hlow HC2.out
            refine op_pure (.slice A4 y.length cu') ?_ ⟨_, rfl, Below.refl _ _, rfl⟩
            simp [execOp, Act.eval, go_sem, f25, hc]
          | 14, ho =>
            obtain rfl := Option.some.inj ho
            have hg : aa.tmps.getD 17 undef = .bool false := F.of 4 (by kernel_rfl)
            refine flow_yes rfl rfl 17 rfl hg ?_
            have f26 : (aa.tmps.getD 26 undef) = .slice A4 y.length cu' := F.of 13 (by kernel_rfl)
            refine op_conv _ _ _ rfl (.string (str y)) ?_ ⟨_, rfl, Below.refl _ _, rfl⟩
            rw [show aa.eval (.tmp 26) = _ from f26]
            exact (HSY.out.below hlow).string (P := Try.prog) Try.underlying22 Try.underlying5 Try.underlying9
          | 15, ho =>
            obtain rfl := Option.some.inj ho
            have hg : aa.tmps.getD 17 undef = .bool false := F.of 4 (by kernel_rfl)
            refine flow_yes rfl rfl 17 rfl hg ?_
            have f22 : (aa.tmps.getD 22 undef) = .string (str x) := F.of 9 (by kernel_rfl)
            have f27 : (aa.tmps.getD 27 undef) = .string (str y) := F.of 14 (by kernel_rfl)
            refine op_pure (.bool (x != y)) ?_ ⟨_, rfl, Below.refl _ _, rfl⟩
            simp [execOp, Act.eval, go_sem, f22, f27, str_toList, bne]
          | 16, ho =>
            obtain rfl := Option.some.inj ho
            refine flow_plain rfl rfl ?_
            have f17 : (aa.tmps.getD 17 undef) = .bool false := F.of 4 (by kernel_rfl)
            have f28 : (aa.tmps.getD 28 undef) = .bool (x != y) := F.of 15 (by kernel_rfl)
            refine op_pure (.bool (x != y)) ?_ ⟨_, rfl, Below.refl _ _, rfl⟩
            simp [execOp, Act.eval, go_sem, f17, f28]
          | j + 17, ho => omega
        · intro vs w' hlow hvs
          refine ⟨fun hx => ?_, fun h => absurd h (by decide)⟩
          clear hx
          have h16 : vs 16 = .bool (x != y) := hvs 16 (by decide)
          have HW := Aside0.mk hlow
          simp only [putL, Act.put, List.setIfInBounds_toArray, List.set_cons_zero, List.set_cons_succ, Nat.reduceAdd]
          rw [h16, HXY.out]
          clear hvs hlow h16
          cases o with
          | true =>
            have HD : Aside0 (needN a b (n + 1) = needN a b n ++ [(n : Int)]) := ⟨by rw [needN, HD0.out, if_pos rfl]⟩
            clear z1 z2 z3
            go_wp2_with (at_builtin; go_must (refine append_int rfl rfl (.tmp 30) (.tmp 32) rfl w.heap.size _ (needN a b n) _ _ 1 3 (0, 0) rfl rfl (own_below hs.out.1 (HW.out.alloc HW.out.size _)) (heap_new rfl) (by have := HL.out; omega) (by have h1 := hs.out.2.size; have h2 := HW.out.size; rw [World.size_alloc]; omega) ?_); intro v3 w3 hl3 hg3)
            have H3 := Aside0.mk (show OwnI w3 w.heap.size v3 (needN a b (n + 1)) ∧ Below w.heap.size w w3 from ⟨by rw [HD.out]; exact hl3, (below_step hs.out.2 (HW.out.alloc HW.out.size _)).grown hg3 (by have h1 := hs.out.2.size; have h2 := HW.out.size; rw [World.size_alloc]; omega) (own_base hs.out.1)⟩)
            clear hl3 hg3
            go_roundw
            case rel => exact ⟨n + 1, by omega, by go_num, H3⟩
            case measure => simp [intOf]; omega
          | false =>
            have HD : Aside0 (needN a b (n + 1) = needN a b n) := ⟨by rw [needN, HD0.out, if_neg (by decide), List.append_nil]⟩
            go_wp2_with fail
            go_roundw
            case rel => exact ⟨n + 1, by omega, by go_num, ⟨by rw [HD.out]; exact own_below hs.out.1 HW.out, below_step hs.out.2 HW.out⟩⟩
            case measure => simp [intOf]; omega
    · have HE : Aside0 (OwnI wr w.heap.size u5 (needN a b b.length) ∧ Below w.heap.size w wr) := ⟨by rw [show b.length = n by omega]; exact hs.out⟩
      clear hs
      go_wp2_with fail
      go_ret
      exact ⟨_, rfl, HE.out.1, HE.out.2⟩
end Go.Proofs.Ytdikconhdbopdaa
