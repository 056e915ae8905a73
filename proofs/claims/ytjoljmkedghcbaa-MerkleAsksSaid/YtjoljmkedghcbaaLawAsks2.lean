/-
  Of any data the blocks, the leaves, the levels and the root are those that the document says. No condition.
-/
import Derived.Test.YtjoljmkedghcbaaMerAwake
import Derived.Test.YtjoljmkedghcbaaMerRef4
import Derived.Test.YtjoljmkedghcbaaBytesW
import Derived.Test.YtjoljmkedghcbaaFlow
namespace Go.Proofs.Ytjoljmkedghcbaa
open Go.RowKit
set_option linter.unusedVariables false
set_option linter.unusedSimpArgs false

theorem leaves_fit (data : List UInt8) (block : Int) : FitM (leavesL data block) := by
  refine ⟨by rw [leavesL_length]; have := cnt_bd data.length block; omega, fun x hx => ?_⟩
  obtain ⟨k, _, rfl⟩ := List.mem_map.1 hx
  exact sha_short _
theorem sum1 (n : Nat) (h : n ≤ 1000) : sumI n [0] = n := by rw [sumI_eq _ _ (by omega) (by simp) (by simp; omega)]; simp

set_option maxHeartbeats 4000000 in
theorem asks_long {b0 : Nat} {v : Value} {data : List UInt8} (block k size : Int) (w : World) (hv : Sl bv 5 w b0 v data) (hd : 1000 < data.length) :
    Calls Try.prog 3 #[v, .int .i64 block, .int .i64 k, .int .i64 size] w fun e w' => e = .returned (.bool true) ∧ Below w.heap.size w w' := by
  obtain ⟨A, c, rfl, hc, hl, hR⟩ := hv
  clear hR
  have d1 : decide ((1000 : Int) < data.length) = true := decide_eq_true (by omega)
  have d2 : decide (1000 < data.length) = true := decide_eq_true (by omega)
  go_enter Try.func3, Try.ntmps3
  go_wp2_with fail
  refine (awake2_calls _).mono ?_
  rintro e w2 ⟨rfl, hb2⟩
  go_wp2_with fail
  go_ret
  exact ⟨rfl, hb2⟩

set_option maxHeartbeats 4000000 in
theorem asks_many {b0 : Nat} {v : Value} {data : List UInt8} (block k size : Int) (w : World) (hv : Sl bv 5 w b0 v data) (hd : ¬ 1000 < data.length) (hb : 1 ≤ block) (hb' : block ≤ 9223372036854775807) (hq : 100 < (data.length : Int) / block) :
    Calls Try.prog 3 #[v, .int .i64 block, .int .i64 k, .int .i64 size] w fun e w' => e = .returned (.bool true) ∧ Below w.heap.size w w' := by
  obtain ⟨A, c, rfl, hc, hl, hR⟩ := hv
  clear hR
  have d1 : decide ((1000 : Int) < data.length) = false := decide_eq_false (by omega)
  have d2 : decide (1000 < data.length) = false := decide_eq_false (by omega)
  have d3 : decide (1 ≤ block) = true := decide_eq_true hb
  obtain ⟨q, hqe⟩ : ∃ q, q = (data.length : Int) / block := ⟨_, rfl⟩
  have hq0 : 0 ≤ (data.length : Int) / block ∧ (data.length : Int) / block ≤ data.length := ⟨Int.ediv_nonneg (by omega) (by omega), Int.ediv_le_self _ (by omega)⟩
  have z1 : wrap64 ((data.length : Int) / block) = q := by rw [hqe]; clear hqe; generalize (data.length : Int) / block = t at *; unfold wrap64; omega
  rw [← hqe] at hq hq0
  have d4 : decide (100 < q) = true := decide_eq_true hq
  have HQE := Aside0.mk hqe
  clear hqe
  have HS := Aside0.mk (sum1 data.length (by omega))
  go_enter Try.func3, Try.ntmps3
  go_wp2_with fail
  refine (sum_calls (e := 3) (b0 := 0) (data.length : Int) _ [0] _ (by omega) (by omega) (by simp) (Sl.at (heap_new rfl) rfl rfl (by decide) (by decide))).mono ?_
  rintro e w' ⟨rfl, rfl⟩
  rw [HS.out]
  go_wp2_with fail
  refine (awake2_calls _).mono ?_
  rintro e w2 ⟨rfl, hb2⟩
  have HB := Aside0.mk (below_step ((Below.refl _ _).alloc (Nat.le_refl _) _) hb2)
  clear hb2
  go_wp2_with fail
  go_ret
  exact ⟨rfl, HB.out⟩

section
set_option maxRecDepth 100000
/-- What each slot of the region holds. -/
def AskR (b0 : Nat) (data : List UInt8) (block k size : Int) (A A1 A2 : Option Addr) (c c1 c2 : Nat) (L : List (List UInt8)) : Nat → Value → World → Prop
  | 0, v, w => v = .int .i64 size
  | 1, v, w => v = .int .i64 block
  | 2, v, w => v = .int .i64 (cnt size block)
  | 3, v, w => v = .int .i64 size
  | 4, v, w => v = .int .i64 block
  | 5, v, w => v = .int .i64 (cnt size block)
  | 6, v, w => v = .bool true
  | 7, v, w => v = .bool true
  | 8, v, w => v = .slice A data.length c
  | 9, v, w => v = .int .i64 block
  | 10, v, w => v = .int .i64 k
  | 11, v, w => Sl bv 5 w 0 v (blockL data block k)
  | 12, v, w => v = .string (str (blockL data block k))
  | 13, v, w => v = .slice A data.length c
  | 14, v, w => v = .int .i64 block
  | 15, v, w => v = .int .i64 k
  | 16, v, w => Sl bv 5 w b0 v (blockL data block k)
  | 17, v, w => v = .string (str (blockL data block k))
  | 18, v, w => v = .bool true
  | 19, v, w => v = .bool true
  | 20, v, w => v = .bool true
  | 21, v, w => v = .slice A1 L.length c1
  | 22, v, w => v = .slice A2 L.length c2
  | 23, v, w => v = .bool true
  | 24, v, w => v = .bool true
  | 25, v, w => v = .bool true
  | 26, v, w => v = .slice A1 L.length c1
  | 27, v, w => ∃ b, Sl bv 5 w b v (rootL L)
  | 28, v, w => v = .string (str (rootL L))
  | 29, v, w => v = .slice A2 L.length c2
  | 30, v, w => Sl bv 5 w 0 v (rootL L)
  | 31, v, w => v = .string (str (rootL L))
  | 32, v, w => v = .bool true
  | 33, v, w => v = .bool true
  | 34, v, w => v = .bool true
  | 35, v, w => v = .slice A data.length c
  | 36, v, w => Sl bv 5 w 0 v (leafL data)
  | 37, v, w => v = .string (str (leafL data))
  | 38, v, w => v = .slice A data.length c
  | 39, v, w => Sl bv 5 w 0 v (leafL data)
  | 40, v, w => v = .string (str (leafL data))
  | 41, v, w => v = .bool true
  | 42, v, w => v = .bool true
  | 43, v, w => v = .bool true
  | 44, v, w => v = .bool true
  | 45, v, w => v = .bool true
  | 46, v, w => v = .bool true
  | _, _, _ => True
theorem AskR_st (b0 : Nat) (data : List UInt8) (block k size : Int) (A A1 A2 : Option Addr) (c c1 c2 : Nat) (L : List (List UInt8)) : ∀ i v w w', AskR b0 data block k size A A1 A2 c c1 c2 L i v w → Below w.heap.size w w' → AskR b0 data block k size A A1 A2 c c1 c2 L i v w'
  | 0, v, w, w', h, hb => h
  | 1, v, w, w', h, hb => h
  | 2, v, w, w', h, hb => h
  | 3, v, w, w', h, hb => h
  | 4, v, w, w', h, hb => h
  | 5, v, w, w', h, hb => h
  | 6, v, w, w', h, hb => h
  | 7, v, w, w', h, hb => h
  | 8, v, w, w', h, hb => h
  | 9, v, w, w', h, hb => h
  | 10, v, w, w', h, hb => h
  | 11, v, w, w', h, hb => Sl.below h hb
  | 12, v, w, w', h, hb => h
  | 13, v, w, w', h, hb => h
  | 14, v, w, w', h, hb => h
  | 15, v, w, w', h, hb => h
  | 16, v, w, w', h, hb => Sl.below h hb
  | 17, v, w, w', h, hb => h
  | 18, v, w, w', h, hb => h
  | 19, v, w, w', h, hb => h
  | 20, v, w, w', h, hb => h
  | 21, v, w, w', h, hb => h
  | 22, v, w, w', h, hb => h
  | 23, v, w, w', h, hb => h
  | 24, v, w, w', h, hb => h
  | 25, v, w, w', h, hb => h
  | 26, v, w, w', h, hb => h
  | 27, v, w, w', h, hb => h.elim fun b h => ⟨b, Sl.below h hb⟩
  | 28, v, w, w', h, hb => h
  | 29, v, w, w', h, hb => h
  | 30, v, w, w', h, hb => Sl.below h hb
  | 31, v, w, w', h, hb => h
  | 32, v, w, w', h, hb => h
  | 33, v, w, w', h, hb => h
  | 34, v, w, w', h, hb => h
  | 35, v, w, w', h, hb => h
  | 36, v, w, w', h, hb => Sl.below h hb
  | 37, v, w, w', h, hb => h
  | 38, v, w, w', h, hb => h
  | 39, v, w, w', h, hb => Sl.below h hb
  | 40, v, w, w', h, hb => h
  | 41, v, w, w', h, hb => h
  | 42, v, w, w', h, hb => h
  | 43, v, w, w', h, hb => h
  | 44, v, w, w', h, hb => h
  | 45, v, w, w', h, hb => h
  | 46, v, w, w', h, hb => h
  | _ + 47, _, _, _, _, _ => trivial
end
set_option maxHeartbeats 8000000 in
set_option maxRecDepth 100000 in
theorem asks_in {b0 : Nat} {v : Value} {data : List UInt8} (block k size : Int) (w : World) (hv : Sl bv 5 w b0 v data) (hb0 : b0 ≤ w.heap.size) (hd : ¬ 1000 < data.length) (hb : -9223372036854775808 ≤ block ∧ block ≤ 9223372036854775807) (hs : -9223372036854775808 ≤ size ∧ size ≤ 9223372036854775807) (hq : 1 ≤ block → ¬ 100 < (data.length : Int) / block) :
    Calls Try.prog 3 #[v, .int .i64 block, .int .i64 k, .int .i64 size] w fun e w' => e = .returned (.bool true) ∧ Below w.heap.size w w' := by
  have HV := Aside0.mk hv
  have HD : Aside0 (data.length ≤ 999999999999) := ⟨by omega⟩
  obtain ⟨A, c, rfl, hc, hl, hR⟩ := hv
  clear hR
  obtain ⟨hb1, hb2⟩ := hb
  have d1 : decide ((1000 : Int) < data.length) = false := decide_eq_false (by omega)
  have d2 : decide (1000 < data.length) = false := decide_eq_false (by omega)
  have HS := Aside0.mk (sum1 data.length (by omega))
  by_cases hbl : 1 ≤ block
  · have d3 : decide (1 ≤ block) = true := decide_eq_true hbl
    obtain ⟨q, hqe⟩ : ∃ q, q = (data.length : Int) / block := ⟨_, rfl⟩
    have hq0 : 0 ≤ (data.length : Int) / block ∧ (data.length : Int) / block ≤ data.length := ⟨Int.ediv_nonneg (by omega) (by omega), Int.ediv_le_self _ (by omega)⟩
    have z1 : wrap64 ((data.length : Int) / block) = q := by rw [hqe]; clear hqe; generalize (data.length : Int) / block = t at *; unfold wrap64; omega
    have hq := hq hbl
    rw [← hqe] at hq hq0
    have d4 : decide (100 < q) = false := decide_eq_false hq
    have HQE := Aside0.mk hqe
    clear hqe
    go_enter Try.func3, Try.ntmps3
    go_wp2_with fail
    refine (sum_calls (e := 3) (b0 := 0) (data.length : Int) _ [0] _ (by omega) (by omega) (by simp) (Sl.at (heap_new rfl) rfl rfl (by decide) (by decide))).mono ?_
    rintro e w' ⟨rfl, rfl⟩
    rw [HS.out]
    have HB := Aside0.mk (show Below w.heap.size w (w.alloc (.cells #[.int .i64 0] 3)) from (Below.refl _ _).alloc (Nat.le_refl _) _)
    go_wp2_with fail
    refine (leaves_calls _ _ (HV.out.below HB.out) (by omega) HD.out).mono ?_
    rintro e w1 ⟨v1, rfl, ho1, hbb⟩
    have HO1 := Aside0.mk ho1
    have HB1 := Aside0.mk (below_step HB.out hbb)
    clear ho1 hbb
    go_wp2_with fail
    refine (rleaves_calls _ _ (HV.out.below HB1.out) (by omega) HD.out).mono ?_
    rintro e w2 ⟨v2, rfl, ho2, hbb⟩
    have HF := Aside0.mk (leaves_fit data block)
    obtain ⟨L, hL⟩ : ∃ L, L = leavesL data block := ⟨_, rfl⟩
    rw [← hL] at HO1 HF ho2
    have HL1 := Aside0.mk (HO1.out.reads.below hbb)
    have HL2 := Aside0.mk ho2.reads
    have HB2 := Aside0.mk (below_step HB1.out hbb)
    have HBB := Aside0.mk (Nat.le_trans HB1.out.size hbb.size)
    obtain ⟨A1, c1, rfl, _⟩ := HL1.out.shape
    obtain ⟨A2, c2, rfl, _⟩ := HL2.out.shape
    clear ho2 hbb HO1 hL
    go_wp2_with fail
    refine (levels_calls _ HL1.out HF.out).mono ?_
    rintro e w3 ⟨v3, rfl, ho3, hbb⟩
    have HL1 := Aside0.mk (HL1.out.below hbb)
    have HL2 := Aside0.mk (HL2.out.below hbb)
    have HB3 := Aside0.mk (below_step HB2.out hbb)
    have HX := Aside0.mk ho3.reads
    clear ho3 hbb
    go_wp2_with fail
    refine (rlevels_calls _ HL2.out (Nat.zero_le _) HF.out).mono ?_
    rintro e w4 ⟨v4, rfl, ho4, hbb⟩
    have HL1 := Aside0.mk (HL1.out.below hbb)
    have HL2 := Aside0.mk (HL2.out.below hbb)
    have HB4 := Aside0.mk (below_step HB3.out hbb)
    have HX := Aside0.mk (HX.out.below hbb)
    have HY := Aside0.mk ho4.reads
    obtain ⟨A3, c3, rfl, hc3, hm3⟩ := HX.out.shape
    obtain ⟨A4, c4, rfl, hc4, hm4⟩ := HY.out.shape
    obtain ⟨LL, hLL⟩ : ∃ LL, LL = levelsL L := ⟨_, rfl⟩
    rw [← hLL] at HX HY hc3 hm3 hc4 hm4 ⊢
    have d9 : ((LL.length : Int) != (LL.length : Int)) = false := by simp
    clear ho4 hbb hLL
    go_wp2_with fail
    go_loopw [13] (fun i wr => ∃ n : Nat, n ≤ LL.length ∧ i = .int .i64 n ∧ Aside0 (Below w4.heap.size w4 wr)) (fun i wr => LL.length - (intOf i).toNat)
    case atStart => exact ⟨0, Nat.zero_le _, rfl, ⟨Below.refl _ _⟩⟩
    case round =>
      obtain ⟨n, hn, rfl, hs⟩ := hrel
      by_cases hlt : n < LL.length
      · obtain ⟨ad, c5, u, A5, cu, he, hu, hcell, hsl⟩ := HX.out.at n hlt
        cases he
        obtain ⟨ad', c6, u', A6, cu', he, hu', hcell', hsl'⟩ := HY.out.at n hlt
        cases he
        subst hu hu'
        obtain ⟨M, hM⟩ : ∃ M, M = LL.getD n [] := ⟨_, rfl⟩
        rw [← hM] at hcell hcell' hsl hsl'
        have HK : Aside0 (∀ w', Below w4.heap.size w4 w' → w'.cell? (ad.add n) = some (.slice A5 M.length cu) ∧ w'.cell? (ad'.add n) = some (.slice A6 M.length cu')) := ⟨fun w' hb => ⟨cell_keep hb hcell, cell_keep hb hcell'⟩⟩
        have HM := Aside0.mk (And.intro hsl hsl')
        clear hcell hcell' hsl hsl' hM
        have z3 : (n : Int) < LL.length := by omega
        have z4 : 0 ≤ (n : Int) := by omega
        go_wp2_with fail
        go_region_held3 (fun w' => w'.cell? (ad.add n) = some (.slice A5 M.length cu) ∧ w'.cell? (ad'.add n) = some (.slice A6 M.length cu')) (first | exact HK.out _ hs.out | exact HK.out _ hs.out.drew | exact HK.out _ HB7.out) (first
          | ((go_at_call 12; refine (lists_calls _ (HM.out.1.below hs.out.drew) (HM.out.2.below hs.out.drew)).mono ?_; rintro e w7 ⟨rfl, hb7⟩)
             rw [beq_self_eq_true]
             have HB7 := Aside0.mk (below_step hs.out.drew hb7)
             clear hb7))
        go_wp2_with fail
        go_roundw
        case rel => exact ⟨n + 1, by omega, by go_num, HB7⟩
        case measure => simp [intOf]; omega
      · have HL1 := Aside0.mk (HL1.out.below hs.out)
        have HL2 := Aside0.mk (HL2.out.below hs.out)
        have HB5 := Aside0.mk (below_step HB4.out hs.out)
        clear hs HX HY
        go_wp2_with fail
        refine wp_region_flowA (AskR b0 data block k size A A1 A2 c c1 c2 L) (by kernel_rfl) (by kernel_rfl) (AskR_st _ _ _ _ _ _ _ _ _ _ _ _) ?_ ?_
        · intro i o ho a w' F
          have hlow := F.low
          match i, ho with
          | 0, ho =>
            obtain rfl := Option.some.inj ho
            refine flow_plain rfl rfl ?_
            have f3 : a.tmps.getD 3 undef = .int .i64 size := eval_out F 3 (by kernel_rfl) _ rfl
            exact op_move (.tmp 3) rfl ⟨_, rfl, Below.refl _ _, f3⟩
          | 1, ho =>
            obtain rfl := Option.some.inj ho
            refine flow_plain rfl rfl ?_
            have f1 : a.tmps.getD 1 undef = .int .i64 block := eval_out F 1 (by kernel_rfl) _ rfl
            exact op_move (.tmp 1) rfl ⟨_, rfl, Below.refl _ _, f1⟩
          | 2, ho =>
            obtain rfl := Option.some.inj ho
            refine flow_plain rfl rfl ?_
            have f62 : (a.tmps.getD 62 undef) = .int .i64 size := F.of 0 (by kernel_rfl)
            have f63 : (a.tmps.getD 63 undef) = .int .i64 block := F.of 1 (by kernel_rfl)
            refine op_call 13 #[.tmp 62, .tmp 63] #[3, 3] rfl _ rfl rfl rfl #[.int .i64 size, .int .i64 block] (by simp [Act.eval, f62, f63]) ?_
            refine (count_calls _ _ _ hs (by omega)).mono ?_
            rintro e w7 ⟨rfl, rfl⟩
            exact ⟨_, rfl, _, rfl, Below.refl _ _, rfl⟩
          | 3, ho =>
            obtain rfl := Option.some.inj ho
            refine flow_plain rfl rfl ?_
            have f3 : a.tmps.getD 3 undef = .int .i64 size := eval_out F 3 (by kernel_rfl) _ rfl
            exact op_move (.tmp 3) rfl ⟨_, rfl, Below.refl _ _, f3⟩
          | 4, ho =>
            obtain rfl := Option.some.inj ho
            refine flow_plain rfl rfl ?_
            have f1 : a.tmps.getD 1 undef = .int .i64 block := eval_out F 1 (by kernel_rfl) _ rfl
            exact op_move (.tmp 1) rfl ⟨_, rfl, Below.refl _ _, f1⟩
          | 5, ho =>
            obtain rfl := Option.some.inj ho
            refine flow_plain rfl rfl ?_
            have f65 : (a.tmps.getD 65 undef) = .int .i64 size := F.of 3 (by kernel_rfl)
            have f66 : (a.tmps.getD 66 undef) = .int .i64 block := F.of 4 (by kernel_rfl)
            refine op_call 14 #[.tmp 65, .tmp 66] #[3, 3] rfl _ rfl rfl rfl #[.int .i64 size, .int .i64 block] (by simp [Act.eval, f65, f66]) ?_
            refine (rcount_calls _ _ _ hs (by omega)).mono ?_
            rintro e w7 ⟨rfl, rfl⟩
            exact ⟨_, rfl, _, rfl, Below.refl _ _, rfl⟩
          | 6, ho =>
            obtain rfl := Option.some.inj ho
            refine flow_plain rfl rfl ?_
            have f64 : (a.tmps.getD 64 undef) = .int .i64 (cnt size block) := F.of 2 (by kernel_rfl)
            have f67 : (a.tmps.getD 67 undef) = .int .i64 (cnt size block) := F.of 5 (by kernel_rfl)
            refine op_pure (.bool true) ?_ ⟨_, rfl, Below.refl _ _, rfl⟩
            simp [execOp, Act.eval, go_sem, f64, f67]
          | 7, ho =>
            obtain rfl := Option.some.inj ho
            refine flow_plain rfl rfl ?_
            have f68 : (a.tmps.getD 68 undef) = .bool true := F.of 6 (by kernel_rfl)
            exact op_move (.tmp 68) rfl ⟨_, rfl, Below.refl _ _, f68⟩
          | 8, ho =>
            obtain rfl := Option.some.inj ho
            have hg : a.tmps.getD 69 undef = .bool true := F.of 7 (by kernel_rfl)
            refine flow_yes rfl rfl 69 rfl hg ?_
            have f0 : a.tmps.getD 0 undef = .slice A data.length c := eval_out F 0 (by kernel_rfl) _ rfl
            exact op_move (.tmp 0) rfl ⟨_, rfl, Below.refl _ _, f0⟩
          | 9, ho =>
            obtain rfl := Option.some.inj ho
            have hg : a.tmps.getD 69 undef = .bool true := F.of 7 (by kernel_rfl)
            refine flow_yes rfl rfl 69 rfl hg ?_
            have f1 : a.tmps.getD 1 undef = .int .i64 block := eval_out F 1 (by kernel_rfl) _ rfl
            exact op_move (.tmp 1) rfl ⟨_, rfl, Below.refl _ _, f1⟩
          | 10, ho =>
            obtain rfl := Option.some.inj ho
            have hg : a.tmps.getD 69 undef = .bool true := F.of 7 (by kernel_rfl)
            refine flow_yes rfl rfl 69 rfl hg ?_
            have f2 : a.tmps.getD 2 undef = .int .i64 k := eval_out F 2 (by kernel_rfl) _ rfl
            exact op_move (.tmp 2) rfl ⟨_, rfl, Below.refl _ _, f2⟩
          | 11, ho =>
            obtain rfl := Option.some.inj ho
            have hg : a.tmps.getD 69 undef = .bool true := F.of 7 (by kernel_rfl)
            refine flow_yes rfl rfl 69 rfl hg ?_
            have f70 : (a.tmps.getD 70 undef) = .slice A data.length c := F.of 8 (by kernel_rfl)
            have f71 : (a.tmps.getD 71 undef) = .int .i64 block := F.of 9 (by kernel_rfl)
            have f72 : (a.tmps.getD 72 undef) = .int .i64 k := F.of 10 (by kernel_rfl)
            refine op_call 15 #[.tmp 70, .tmp 71, .tmp 72] #[22, 3, 3] rfl _ rfl rfl rfl #[.slice A data.length c, .int .i64 block, .int .i64 k] (by simp [Act.eval, f70, f71, f72]) ?_
            refine (block_calls _ _ _ (HV.out.below (below_step HB5.out hlow)) (by omega)).mono ?_
            rintro e w7 ⟨v7, rfl, hown7, hb7⟩
            exact ⟨_, rfl, _, rfl, hb7, Sl.of_own hown7⟩
          | 12, ho =>
            obtain rfl := Option.some.inj ho
            have hg : a.tmps.getD 69 undef = .bool true := F.of 7 (by kernel_rfl)
            refine flow_yes rfl rfl 69 rfl hg ?_
            have f73 : Sl bv 5 w' 0 (a.tmps.getD 73 undef) (blockL data block k) := F.of 11 (by kernel_rfl)
            refine op_conv _ _ _ rfl _ ((f73 : Sl _ _ _ _ _ _).string (P := Try.prog) Try.underlying22 Try.underlying5 Try.underlying9) ⟨_, rfl, Below.refl _ _, rfl⟩
          | 13, ho =>
            obtain rfl := Option.some.inj ho
            have hg : a.tmps.getD 69 undef = .bool true := F.of 7 (by kernel_rfl)
            refine flow_yes rfl rfl 69 rfl hg ?_
            have f0 : a.tmps.getD 0 undef = .slice A data.length c := eval_out F 0 (by kernel_rfl) _ rfl
            exact op_move (.tmp 0) rfl ⟨_, rfl, Below.refl _ _, f0⟩
          | 14, ho =>
            obtain rfl := Option.some.inj ho
            have hg : a.tmps.getD 69 undef = .bool true := F.of 7 (by kernel_rfl)
            refine flow_yes rfl rfl 69 rfl hg ?_
            have f1 : a.tmps.getD 1 undef = .int .i64 block := eval_out F 1 (by kernel_rfl) _ rfl
            exact op_move (.tmp 1) rfl ⟨_, rfl, Below.refl _ _, f1⟩
          | 15, ho =>
            obtain rfl := Option.some.inj ho
            have hg : a.tmps.getD 69 undef = .bool true := F.of 7 (by kernel_rfl)
            refine flow_yes rfl rfl 69 rfl hg ?_
            have f2 : a.tmps.getD 2 undef = .int .i64 k := eval_out F 2 (by kernel_rfl) _ rfl
            exact op_move (.tmp 2) rfl ⟨_, rfl, Below.refl _ _, f2⟩
          | 16, ho =>
            obtain rfl := Option.some.inj ho
            have hg : a.tmps.getD 69 undef = .bool true := F.of 7 (by kernel_rfl)
            refine flow_yes rfl rfl 69 rfl hg ?_
            have f75 : (a.tmps.getD 75 undef) = .slice A data.length c := F.of 13 (by kernel_rfl)
            have f76 : (a.tmps.getD 76 undef) = .int .i64 block := F.of 14 (by kernel_rfl)
            have f77 : (a.tmps.getD 77 undef) = .int .i64 k := F.of 15 (by kernel_rfl)
            refine op_call 16 #[.tmp 75, .tmp 76, .tmp 77] #[22, 3, 3] rfl _ rfl rfl rfl #[.slice A data.length c, .int .i64 block, .int .i64 k] (by simp [Act.eval, f75, f76, f77]) ?_
            refine (rblock_calls _ _ _ (HV.out.below (below_step HB5.out hlow)) (by omega)).mono ?_
            rintro e w7 ⟨v7, rfl, hs7, rfl⟩
            exact ⟨_, rfl, _, rfl, Below.refl _ _, hs7⟩
          | 17, ho =>
            obtain rfl := Option.some.inj ho
            have hg : a.tmps.getD 69 undef = .bool true := F.of 7 (by kernel_rfl)
            refine flow_yes rfl rfl 69 rfl hg ?_
            have f78 : Sl bv 5 w' b0 (a.tmps.getD 78 undef) (blockL data block k) := F.of 16 (by kernel_rfl)
            refine op_conv _ _ _ rfl _ ((f78 : Sl _ _ _ _ _ _).string (P := Try.prog) Try.underlying22 Try.underlying5 Try.underlying9) ⟨_, rfl, Below.refl _ _, rfl⟩
          | 18, ho =>
            obtain rfl := Option.some.inj ho
            have hg : a.tmps.getD 69 undef = .bool true := F.of 7 (by kernel_rfl)
            refine flow_yes rfl rfl 69 rfl hg ?_
            have f74 : (a.tmps.getD 74 undef) = .string (str (blockL data block k)) := F.of 12 (by kernel_rfl)
            have f79 : (a.tmps.getD 79 undef) = .string (str (blockL data block k)) := F.of 17 (by kernel_rfl)
            refine op_pure (.bool true) ?_ ⟨_, rfl, Below.refl _ _, rfl⟩
            simp [execOp, Act.eval, go_sem, f74, f79]
          | 19, ho =>
            obtain rfl := Option.some.inj ho
            refine flow_plain rfl rfl ?_
            have f69 : (a.tmps.getD 69 undef) = .bool true := F.of 7 (by kernel_rfl)
            have f80 : (a.tmps.getD 80 undef) = .bool true := F.of 18 (by kernel_rfl)
            refine op_pure (.bool true) ?_ ⟨_, rfl, Below.refl _ _, rfl⟩
            simp [execOp, Act.eval, go_sem, f69, f80]
          | 20, ho =>
            obtain rfl := Option.some.inj ho
            refine flow_plain rfl rfl ?_
            have f81 : (a.tmps.getD 81 undef) = .bool true := F.of 19 (by kernel_rfl)
            exact op_move (.tmp 81) rfl ⟨_, rfl, Below.refl _ _, f81⟩
          | 21, ho =>
            obtain rfl := Option.some.inj ho
            have hg : a.tmps.getD 82 undef = .bool true := F.of 20 (by kernel_rfl)
            refine flow_yes rfl rfl 82 rfl hg ?_
            have f9 : a.tmps.getD 9 undef = .slice A1 L.length c1 := eval_out F 9 (by kernel_rfl) _ rfl
            exact op_move (.tmp 9) rfl ⟨_, rfl, Below.refl _ _, f9⟩
          | 22, ho =>
            obtain rfl := Option.some.inj ho
            have hg : a.tmps.getD 82 undef = .bool true := F.of 20 (by kernel_rfl)
            refine flow_yes rfl rfl 82 rfl hg ?_
            have f10 : a.tmps.getD 10 undef = .slice A2 L.length c2 := eval_out F 10 (by kernel_rfl) _ rfl
            exact op_move (.tmp 10) rfl ⟨_, rfl, Below.refl _ _, f10⟩
          | 23, ho =>
            obtain rfl := Option.some.inj ho
            have hg : a.tmps.getD 82 undef = .bool true := F.of 20 (by kernel_rfl)
            refine flow_yes rfl rfl 82 rfl hg ?_
            have f83 : (a.tmps.getD 83 undef) = .slice A1 L.length c1 := F.of 21 (by kernel_rfl)
            have f84 : (a.tmps.getD 84 undef) = .slice A2 L.length c2 := F.of 22 (by kernel_rfl)
            refine op_call 12 #[.tmp 83, .tmp 84] #[25, 25] rfl _ rfl rfl rfl #[.slice A1 L.length c1, .slice A2 L.length c2] (by simp [Act.eval, f83, f84]) ?_
            refine (lists_calls _ (HL1.out.below hlow) (HL2.out.below hlow)).mono ?_
            rintro e w7 ⟨rfl, hb7⟩
            exact ⟨_, rfl, _, rfl, hb7, by rw [beq_self_eq_true]; rfl⟩
          | 24, ho =>
            obtain rfl := Option.some.inj ho
            refine flow_plain rfl rfl ?_
            have f82 : (a.tmps.getD 82 undef) = .bool true := F.of 20 (by kernel_rfl)
            have f85 : (a.tmps.getD 85 undef) = .bool true := F.of 23 (by kernel_rfl)
            refine op_pure (.bool true) ?_ ⟨_, rfl, Below.refl _ _, rfl⟩
            simp [execOp, Act.eval, go_sem, f82, f85]
          | 25, ho =>
            obtain rfl := Option.some.inj ho
            refine flow_plain rfl rfl ?_
            have f86 : (a.tmps.getD 86 undef) = .bool true := F.of 24 (by kernel_rfl)
            exact op_move (.tmp 86) rfl ⟨_, rfl, Below.refl _ _, f86⟩
          | 26, ho =>
            obtain rfl := Option.some.inj ho
            have hg : a.tmps.getD 87 undef = .bool true := F.of 25 (by kernel_rfl)
            refine flow_yes rfl rfl 87 rfl hg ?_
            have f9 : a.tmps.getD 9 undef = .slice A1 L.length c1 := eval_out F 9 (by kernel_rfl) _ rfl
            exact op_move (.tmp 9) rfl ⟨_, rfl, Below.refl _ _, f9⟩
          | 27, ho =>
            obtain rfl := Option.some.inj ho
            have hg : a.tmps.getD 87 undef = .bool true := F.of 25 (by kernel_rfl)
            refine flow_yes rfl rfl 87 rfl hg ?_
            have f88 : (a.tmps.getD 88 undef) = .slice A1 L.length c1 := F.of 26 (by kernel_rfl)
            refine op_call 17 #[.tmp 88] #[25] rfl _ rfl rfl rfl #[.slice A1 L.length c1] (by simp [Act.eval, f88]) ?_
            refine (root_calls _ (HL1.out.below hlow) HF.out).mono ?_
            rintro e w7 ⟨v7, rfl, hs7, hb7⟩
            exact ⟨_, rfl, _, rfl, hb7, _, hs7⟩
          | 28, ho =>
            obtain rfl := Option.some.inj ho
            have hg : a.tmps.getD 87 undef = .bool true := F.of 25 (by kernel_rfl)
            refine flow_yes rfl rfl 87 rfl hg ?_
            have f89 : ∃ b, Sl bv 5 w' b (a.tmps.getD 89 undef) (rootL L) := F.of 27 (by kernel_rfl)
            obtain ⟨bb, f89⟩ := f89
            refine op_conv _ _ _ rfl _ ((f89 : Sl _ _ _ _ _ _).string (P := Try.prog) Try.underlying22 Try.underlying5 Try.underlying9) ⟨_, rfl, Below.refl _ _, rfl⟩
          | 29, ho =>
            obtain rfl := Option.some.inj ho
            have hg : a.tmps.getD 87 undef = .bool true := F.of 25 (by kernel_rfl)
            refine flow_yes rfl rfl 87 rfl hg ?_
            have f10 : a.tmps.getD 10 undef = .slice A2 L.length c2 := eval_out F 10 (by kernel_rfl) _ rfl
            exact op_move (.tmp 10) rfl ⟨_, rfl, Below.refl _ _, f10⟩
          | 30, ho =>
            obtain rfl := Option.some.inj ho
            have hg : a.tmps.getD 87 undef = .bool true := F.of 25 (by kernel_rfl)
            refine flow_yes rfl rfl 87 rfl hg ?_
            have f91 : (a.tmps.getD 91 undef) = .slice A2 L.length c2 := F.of 29 (by kernel_rfl)
            refine op_call 18 #[.tmp 91] #[25] rfl _ rfl rfl rfl #[.slice A2 L.length c2] (by simp [Act.eval, f91]) ?_
            refine (rroot_calls _ (HL2.out.below hlow) (Nat.zero_le _) HF.out).mono ?_
            rintro e w7 ⟨v7, rfl, hs7, hb7⟩
            exact ⟨_, rfl, _, rfl, hb7, hs7⟩
          | 31, ho =>
            obtain rfl := Option.some.inj ho
            have hg : a.tmps.getD 87 undef = .bool true := F.of 25 (by kernel_rfl)
            refine flow_yes rfl rfl 87 rfl hg ?_
            have f92 : Sl bv 5 w' 0 (a.tmps.getD 92 undef) (rootL L) := F.of 30 (by kernel_rfl)
            refine op_conv _ _ _ rfl _ ((f92 : Sl _ _ _ _ _ _).string (P := Try.prog) Try.underlying22 Try.underlying5 Try.underlying9) ⟨_, rfl, Below.refl _ _, rfl⟩
          | 32, ho =>
            obtain rfl := Option.some.inj ho
            have hg : a.tmps.getD 87 undef = .bool true := F.of 25 (by kernel_rfl)
            refine flow_yes rfl rfl 87 rfl hg ?_
            have f90 : (a.tmps.getD 90 undef) = .string (str (rootL L)) := F.of 28 (by kernel_rfl)
            have f93 : (a.tmps.getD 93 undef) = .string (str (rootL L)) := F.of 31 (by kernel_rfl)
            refine op_pure (.bool true) ?_ ⟨_, rfl, Below.refl _ _, rfl⟩
            simp [execOp, Act.eval, go_sem, f90, f93]
          | 33, ho =>
            obtain rfl := Option.some.inj ho
            refine flow_plain rfl rfl ?_
            have f87 : (a.tmps.getD 87 undef) = .bool true := F.of 25 (by kernel_rfl)
            have f94 : (a.tmps.getD 94 undef) = .bool true := F.of 32 (by kernel_rfl)
            refine op_pure (.bool true) ?_ ⟨_, rfl, Below.refl _ _, rfl⟩
            simp [execOp, Act.eval, go_sem, f87, f94]
          | 34, ho =>
            obtain rfl := Option.some.inj ho
            refine flow_plain rfl rfl ?_
            have f95 : (a.tmps.getD 95 undef) = .bool true := F.of 33 (by kernel_rfl)
            exact op_move (.tmp 95) rfl ⟨_, rfl, Below.refl _ _, f95⟩
          | 35, ho =>
            obtain rfl := Option.some.inj ho
            have hg : a.tmps.getD 96 undef = .bool true := F.of 34 (by kernel_rfl)
            refine flow_yes rfl rfl 96 rfl hg ?_
            have f0 : a.tmps.getD 0 undef = .slice A data.length c := eval_out F 0 (by kernel_rfl) _ rfl
            exact op_move (.tmp 0) rfl ⟨_, rfl, Below.refl _ _, f0⟩
          | 36, ho =>
            obtain rfl := Option.some.inj ho
            have hg : a.tmps.getD 96 undef = .bool true := F.of 34 (by kernel_rfl)
            refine flow_yes rfl rfl 96 rfl hg ?_
            have f97 : (a.tmps.getD 97 undef) = .slice A data.length c := F.of 35 (by kernel_rfl)
            refine op_call 19 #[.tmp 97] #[22] rfl _ rfl rfl rfl #[.slice A data.length c] (by simp [Act.eval, f97]) ?_
            refine (leaf_calls _ (HV.out.below (below_step HB5.out hlow)) (Nat.le_trans hb0 (Nat.le_trans HB5.out.size hlow.size)) HD.out).mono ?_
            rintro e w7 ⟨v7, rfl, hown7, hb7⟩
            exact ⟨_, rfl, _, rfl, hb7, Sl.of_own hown7⟩
          | 37, ho =>
            obtain rfl := Option.some.inj ho
            have hg : a.tmps.getD 96 undef = .bool true := F.of 34 (by kernel_rfl)
            refine flow_yes rfl rfl 96 rfl hg ?_
            have f98 : Sl bv 5 w' 0 (a.tmps.getD 98 undef) (leafL data) := F.of 36 (by kernel_rfl)
            refine op_conv _ _ _ rfl _ ((f98 : Sl _ _ _ _ _ _).string (P := Try.prog) Try.underlying22 Try.underlying5 Try.underlying9) ⟨_, rfl, Below.refl _ _, rfl⟩
          | 38, ho =>
            obtain rfl := Option.some.inj ho
            have hg : a.tmps.getD 96 undef = .bool true := F.of 34 (by kernel_rfl)
            refine flow_yes rfl rfl 96 rfl hg ?_
            have f0 : a.tmps.getD 0 undef = .slice A data.length c := eval_out F 0 (by kernel_rfl) _ rfl
            exact op_move (.tmp 0) rfl ⟨_, rfl, Below.refl _ _, f0⟩
          | 39, ho =>
            obtain rfl := Option.some.inj ho
            have hg : a.tmps.getD 96 undef = .bool true := F.of 34 (by kernel_rfl)
            refine flow_yes rfl rfl 96 rfl hg ?_
            have f100 : (a.tmps.getD 100 undef) = .slice A data.length c := F.of 38 (by kernel_rfl)
            refine op_call 20 #[.tmp 100] #[22] rfl _ rfl rfl rfl #[.slice A data.length c] (by simp [Act.eval, f100]) ?_
            refine (rleaf_calls _ (HV.out.below (below_step HB5.out hlow)) HD.out).mono ?_
            rintro e w7 ⟨v7, rfl, hown7, hb7⟩
            exact ⟨_, rfl, _, rfl, hb7, Sl.of_own hown7⟩
          | 40, ho =>
            obtain rfl := Option.some.inj ho
            have hg : a.tmps.getD 96 undef = .bool true := F.of 34 (by kernel_rfl)
            refine flow_yes rfl rfl 96 rfl hg ?_
            have f101 : Sl bv 5 w' 0 (a.tmps.getD 101 undef) (leafL data) := F.of 39 (by kernel_rfl)
            refine op_conv _ _ _ rfl _ ((f101 : Sl _ _ _ _ _ _).string (P := Try.prog) Try.underlying22 Try.underlying5 Try.underlying9) ⟨_, rfl, Below.refl _ _, rfl⟩
          | 41, ho =>
            obtain rfl := Option.some.inj ho
            have hg : a.tmps.getD 96 undef = .bool true := F.of 34 (by kernel_rfl)
            refine flow_yes rfl rfl 96 rfl hg ?_
            have f99 : (a.tmps.getD 99 undef) = .string (str (leafL data)) := F.of 37 (by kernel_rfl)
            have f102 : (a.tmps.getD 102 undef) = .string (str (leafL data)) := F.of 40 (by kernel_rfl)
            refine op_pure (.bool true) ?_ ⟨_, rfl, Below.refl _ _, rfl⟩
            simp [execOp, Act.eval, go_sem, f99, f102]
          | 42, ho =>
            obtain rfl := Option.some.inj ho
            refine flow_plain rfl rfl ?_
            have f96 : (a.tmps.getD 96 undef) = .bool true := F.of 34 (by kernel_rfl)
            have f103 : (a.tmps.getD 103 undef) = .bool true := F.of 41 (by kernel_rfl)
            refine op_pure (.bool true) ?_ ⟨_, rfl, Below.refl _ _, rfl⟩
            simp [execOp, Act.eval, go_sem, f96, f103]
          | 43, ho =>
            obtain rfl := Option.some.inj ho
            refine flow_plain rfl rfl ?_
            have f104 : (a.tmps.getD 104 undef) = .bool true := F.of 42 (by kernel_rfl)
            exact op_move (.tmp 104) rfl ⟨_, rfl, Below.refl _ _, f104⟩
          | 44, ho =>
            obtain rfl := Option.some.inj ho
            have hg : a.tmps.getD 105 undef = .bool true := F.of 43 (by kernel_rfl)
            refine flow_yes rfl rfl 105 rfl hg ?_
            refine op_call 7 #[] #[] rfl _ rfl rfl rfl #[] (by simp [Act.eval]) ?_
            refine (awake2_calls _).mono ?_
            rintro e w7 ⟨rfl, hb7⟩
            exact ⟨_, rfl, _, rfl, hb7, rfl⟩
          | 45, ho =>
            obtain rfl := Option.some.inj ho
            refine flow_plain rfl rfl ?_
            have f105 : (a.tmps.getD 105 undef) = .bool true := F.of 43 (by kernel_rfl)
            have f106 : (a.tmps.getD 106 undef) = .bool true := F.of 44 (by kernel_rfl)
            refine op_pure (.bool true) ?_ ⟨_, rfl, Below.refl _ _, rfl⟩
            simp [execOp, Act.eval, go_sem, f105, f106]
          | 46, ho =>
            obtain rfl := Option.some.inj ho
            refine flow_plain rfl rfl ?_
            have f107 : (a.tmps.getD 107 undef) = .bool true := F.of 45 (by kernel_rfl)
            exact op_assign (.tmp 107) rfl ⟨_, rfl, Below.refl _ _, f107⟩
          | j + 47, ho => exact absurd (Array.getElem?_eq_some_iff.1 ho).1 (by simp)
        · intro a' w' htsz hdfs hsame hlow hgot
          have h8 : a'.tmps.getD 8 undef = .bool true := hgot 46 (by simp)
          have hB := Aside0.mk (below_step HB5.out hlow)
          clear hgot hlow hsame
          go_wp2_with fail
          exact bodyPost_ret (results_tmp rfl _ _ _) hdfs ⟨by rw [h8], hB.out⟩
  · have d3 : decide (1 ≤ block) = false := decide_eq_false hbl
    clear hq
    go_enter Try.func3, Try.ntmps3
    go_wp2_with fail
    have HB := Aside0.mk (Below.refl w.heap.size w)
    refine (leaves_calls _ _ (HV.out.below HB.out) (by omega) HD.out).mono ?_
    rintro e w1 ⟨v1, rfl, ho1, hbb⟩
    have HO1 := Aside0.mk ho1
    have HB1 := Aside0.mk (below_step HB.out hbb)
    clear ho1 hbb
    go_wp2_with fail
    refine (rleaves_calls _ _ (HV.out.below HB1.out) (by omega) HD.out).mono ?_
    rintro e w2 ⟨v2, rfl, ho2, hbb⟩
    have HF := Aside0.mk (leaves_fit data block)
    obtain ⟨L, hL⟩ : ∃ L, L = leavesL data block := ⟨_, rfl⟩
    rw [← hL] at HO1 HF ho2
    have HL1 := Aside0.mk (HO1.out.reads.below hbb)
    have HL2 := Aside0.mk ho2.reads
    have HB2 := Aside0.mk (below_step HB1.out hbb)
    have HBB := Aside0.mk (Nat.le_trans HB1.out.size hbb.size)
    obtain ⟨A1, c1, rfl, _⟩ := HL1.out.shape
    obtain ⟨A2, c2, rfl, _⟩ := HL2.out.shape
    clear ho2 hbb HO1 hL
    go_wp2_with fail
    refine (levels_calls _ HL1.out HF.out).mono ?_
    rintro e w3 ⟨v3, rfl, ho3, hbb⟩
    have HL1 := Aside0.mk (HL1.out.below hbb)
    have HL2 := Aside0.mk (HL2.out.below hbb)
    have HB3 := Aside0.mk (below_step HB2.out hbb)
    have HX := Aside0.mk ho3.reads
    clear ho3 hbb
    go_wp2_with fail
    refine (rlevels_calls _ HL2.out (Nat.zero_le _) HF.out).mono ?_
    rintro e w4 ⟨v4, rfl, ho4, hbb⟩
    have HL1 := Aside0.mk (HL1.out.below hbb)
    have HL2 := Aside0.mk (HL2.out.below hbb)
    have HB4 := Aside0.mk (below_step HB3.out hbb)
    have HX := Aside0.mk (HX.out.below hbb)
    have HY := Aside0.mk ho4.reads
    obtain ⟨A3, c3, rfl, hc3, hm3⟩ := HX.out.shape
    obtain ⟨A4, c4, rfl, hc4, hm4⟩ := HY.out.shape
    obtain ⟨LL, hLL⟩ : ∃ LL, LL = levelsL L := ⟨_, rfl⟩
    rw [← hLL] at HX HY hc3 hm3 hc4 hm4 ⊢
    have d9 : ((LL.length : Int) != (LL.length : Int)) = false := by simp
    clear ho4 hbb hLL
    go_wp2_with fail
    go_loopw [13] (fun i wr => ∃ n : Nat, n ≤ LL.length ∧ i = .int .i64 n ∧ Aside0 (Below w4.heap.size w4 wr)) (fun i wr => LL.length - (intOf i).toNat)
    case atStart => exact ⟨0, Nat.zero_le _, rfl, ⟨Below.refl _ _⟩⟩
    case round =>
      obtain ⟨n, hn, rfl, hs⟩ := hrel
      by_cases hlt : n < LL.length
      · obtain ⟨ad, c5, u, A5, cu, he, hu, hcell, hsl⟩ := HX.out.at n hlt
        cases he
        obtain ⟨ad', c6, u', A6, cu', he, hu', hcell', hsl'⟩ := HY.out.at n hlt
        cases he
        subst hu hu'
        obtain ⟨M, hM⟩ : ∃ M, M = LL.getD n [] := ⟨_, rfl⟩
        rw [← hM] at hcell hcell' hsl hsl'
        have HK : Aside0 (∀ w', Below w4.heap.size w4 w' → w'.cell? (ad.add n) = some (.slice A5 M.length cu) ∧ w'.cell? (ad'.add n) = some (.slice A6 M.length cu')) := ⟨fun w' hb => ⟨cell_keep hb hcell, cell_keep hb hcell'⟩⟩
        have HM := Aside0.mk (And.intro hsl hsl')
        clear hcell hcell' hsl hsl' hM
        have z3 : (n : Int) < LL.length := by omega
        have z4 : 0 ≤ (n : Int) := by omega
        go_wp2_with fail
        go_region_held3 (fun w' => w'.cell? (ad.add n) = some (.slice A5 M.length cu) ∧ w'.cell? (ad'.add n) = some (.slice A6 M.length cu')) (first | exact HK.out _ hs.out | exact HK.out _ hs.out.drew | exact HK.out _ HB7.out) (first
          | ((go_at_call 12; refine (lists_calls _ (HM.out.1.below hs.out.drew) (HM.out.2.below hs.out.drew)).mono ?_; rintro e w7 ⟨rfl, hb7⟩)
             rw [beq_self_eq_true]
             have HB7 := Aside0.mk (below_step hs.out.drew hb7)
             clear hb7))
        go_wp2_with fail
        go_roundw
        case rel => exact ⟨n + 1, by omega, by go_num, HB7⟩
        case measure => simp [intOf]; omega
      · have HL1 := Aside0.mk (HL1.out.below hs.out)
        have HL2 := Aside0.mk (HL2.out.below hs.out)
        have HB5 := Aside0.mk (below_step HB4.out hs.out)
        clear hs HX HY
        go_wp2_with fail
        refine wp_region_flowA (AskR b0 data block k size A A1 A2 c c1 c2 L) (by kernel_rfl) (by kernel_rfl) (AskR_st _ _ _ _ _ _ _ _ _ _ _ _) ?_ ?_
        · intro i o ho a w' F
          have hlow := F.low
          match i, ho with
          | 0, ho =>
            obtain rfl := Option.some.inj ho
            refine flow_plain rfl rfl ?_
            have f3 : a.tmps.getD 3 undef = .int .i64 size := eval_out F 3 (by kernel_rfl) _ rfl
            exact op_move (.tmp 3) rfl ⟨_, rfl, Below.refl _ _, f3⟩
          | 1, ho =>
            obtain rfl := Option.some.inj ho
            refine flow_plain rfl rfl ?_
            have f1 : a.tmps.getD 1 undef = .int .i64 block := eval_out F 1 (by kernel_rfl) _ rfl
            exact op_move (.tmp 1) rfl ⟨_, rfl, Below.refl _ _, f1⟩
          | 2, ho =>
            obtain rfl := Option.some.inj ho
            refine flow_plain rfl rfl ?_
            have f62 : (a.tmps.getD 62 undef) = .int .i64 size := F.of 0 (by kernel_rfl)
            have f63 : (a.tmps.getD 63 undef) = .int .i64 block := F.of 1 (by kernel_rfl)
            refine op_call 13 #[.tmp 62, .tmp 63] #[3, 3] rfl _ rfl rfl rfl #[.int .i64 size, .int .i64 block] (by simp [Act.eval, f62, f63]) ?_
            refine (count_calls _ _ _ hs (by omega)).mono ?_
            rintro e w7 ⟨rfl, rfl⟩
            exact ⟨_, rfl, _, rfl, Below.refl _ _, rfl⟩
          | 3, ho =>
            obtain rfl := Option.some.inj ho
            refine flow_plain rfl rfl ?_
            have f3 : a.tmps.getD 3 undef = .int .i64 size := eval_out F 3 (by kernel_rfl) _ rfl
            exact op_move (.tmp 3) rfl ⟨_, rfl, Below.refl _ _, f3⟩
          | 4, ho =>
            obtain rfl := Option.some.inj ho
            refine flow_plain rfl rfl ?_
            have f1 : a.tmps.getD 1 undef = .int .i64 block := eval_out F 1 (by kernel_rfl) _ rfl
            exact op_move (.tmp 1) rfl ⟨_, rfl, Below.refl _ _, f1⟩
          | 5, ho =>
            obtain rfl := Option.some.inj ho
            refine flow_plain rfl rfl ?_
            have f65 : (a.tmps.getD 65 undef) = .int .i64 size := F.of 3 (by kernel_rfl)
            have f66 : (a.tmps.getD 66 undef) = .int .i64 block := F.of 4 (by kernel_rfl)
            refine op_call 14 #[.tmp 65, .tmp 66] #[3, 3] rfl _ rfl rfl rfl #[.int .i64 size, .int .i64 block] (by simp [Act.eval, f65, f66]) ?_
            refine (rcount_calls _ _ _ hs (by omega)).mono ?_
            rintro e w7 ⟨rfl, rfl⟩
            exact ⟨_, rfl, _, rfl, Below.refl _ _, rfl⟩
          | 6, ho =>
            obtain rfl := Option.some.inj ho
            refine flow_plain rfl rfl ?_
            have f64 : (a.tmps.getD 64 undef) = .int .i64 (cnt size block) := F.of 2 (by kernel_rfl)
            have f67 : (a.tmps.getD 67 undef) = .int .i64 (cnt size block) := F.of 5 (by kernel_rfl)
            refine op_pure (.bool true) ?_ ⟨_, rfl, Below.refl _ _, rfl⟩
            simp [execOp, Act.eval, go_sem, f64, f67]
          | 7, ho =>
            obtain rfl := Option.some.inj ho
            refine flow_plain rfl rfl ?_
            have f68 : (a.tmps.getD 68 undef) = .bool true := F.of 6 (by kernel_rfl)
            exact op_move (.tmp 68) rfl ⟨_, rfl, Below.refl _ _, f68⟩
          | 8, ho =>
            obtain rfl := Option.some.inj ho
            have hg : a.tmps.getD 69 undef = .bool true := F.of 7 (by kernel_rfl)
            refine flow_yes rfl rfl 69 rfl hg ?_
            have f0 : a.tmps.getD 0 undef = .slice A data.length c := eval_out F 0 (by kernel_rfl) _ rfl
            exact op_move (.tmp 0) rfl ⟨_, rfl, Below.refl _ _, f0⟩
          | 9, ho =>
            obtain rfl := Option.some.inj ho
            have hg : a.tmps.getD 69 undef = .bool true := F.of 7 (by kernel_rfl)
            refine flow_yes rfl rfl 69 rfl hg ?_
            have f1 : a.tmps.getD 1 undef = .int .i64 block := eval_out F 1 (by kernel_rfl) _ rfl
            exact op_move (.tmp 1) rfl ⟨_, rfl, Below.refl _ _, f1⟩
          | 10, ho =>
            obtain rfl := Option.some.inj ho
            have hg : a.tmps.getD 69 undef = .bool true := F.of 7 (by kernel_rfl)
            refine flow_yes rfl rfl 69 rfl hg ?_
            have f2 : a.tmps.getD 2 undef = .int .i64 k := eval_out F 2 (by kernel_rfl) _ rfl
            exact op_move (.tmp 2) rfl ⟨_, rfl, Below.refl _ _, f2⟩
          | 11, ho =>
            obtain rfl := Option.some.inj ho
            have hg : a.tmps.getD 69 undef = .bool true := F.of 7 (by kernel_rfl)
            refine flow_yes rfl rfl 69 rfl hg ?_
            have f70 : (a.tmps.getD 70 undef) = .slice A data.length c := F.of 8 (by kernel_rfl)
            have f71 : (a.tmps.getD 71 undef) = .int .i64 block := F.of 9 (by kernel_rfl)
            have f72 : (a.tmps.getD 72 undef) = .int .i64 k := F.of 10 (by kernel_rfl)
            refine op_call 15 #[.tmp 70, .tmp 71, .tmp 72] #[22, 3, 3] rfl _ rfl rfl rfl #[.slice A data.length c, .int .i64 block, .int .i64 k] (by simp [Act.eval, f70, f71, f72]) ?_
            refine (block_calls _ _ _ (HV.out.below (below_step HB5.out hlow)) (by omega)).mono ?_
            rintro e w7 ⟨v7, rfl, hown7, hb7⟩
            exact ⟨_, rfl, _, rfl, hb7, Sl.of_own hown7⟩
          | 12, ho =>
            obtain rfl := Option.some.inj ho
            have hg : a.tmps.getD 69 undef = .bool true := F.of 7 (by kernel_rfl)
            refine flow_yes rfl rfl 69 rfl hg ?_
            have f73 : Sl bv 5 w' 0 (a.tmps.getD 73 undef) (blockL data block k) := F.of 11 (by kernel_rfl)
            refine op_conv _ _ _ rfl _ ((f73 : Sl _ _ _ _ _ _).string (P := Try.prog) Try.underlying22 Try.underlying5 Try.underlying9) ⟨_, rfl, Below.refl _ _, rfl⟩
          | 13, ho =>
            obtain rfl := Option.some.inj ho
            have hg : a.tmps.getD 69 undef = .bool true := F.of 7 (by kernel_rfl)
            refine flow_yes rfl rfl 69 rfl hg ?_
            have f0 : a.tmps.getD 0 undef = .slice A data.length c := eval_out F 0 (by kernel_rfl) _ rfl
            exact op_move (.tmp 0) rfl ⟨_, rfl, Below.refl _ _, f0⟩
          | 14, ho =>
            obtain rfl := Option.some.inj ho
            have hg : a.tmps.getD 69 undef = .bool true := F.of 7 (by kernel_rfl)
            refine flow_yes rfl rfl 69 rfl hg ?_
            have f1 : a.tmps.getD 1 undef = .int .i64 block := eval_out F 1 (by kernel_rfl) _ rfl
            exact op_move (.tmp 1) rfl ⟨_, rfl, Below.refl _ _, f1⟩
          | 15, ho =>
            obtain rfl := Option.some.inj ho
            have hg : a.tmps.getD 69 undef = .bool true := F.of 7 (by kernel_rfl)
            refine flow_yes rfl rfl 69 rfl hg ?_
            have f2 : a.tmps.getD 2 undef = .int .i64 k := eval_out F 2 (by kernel_rfl) _ rfl
            exact op_move (.tmp 2) rfl ⟨_, rfl, Below.refl _ _, f2⟩
          | 16, ho =>
            obtain rfl := Option.some.inj ho
            have hg : a.tmps.getD 69 undef = .bool true := F.of 7 (by kernel_rfl)
            refine flow_yes rfl rfl 69 rfl hg ?_
            have f75 : (a.tmps.getD 75 undef) = .slice A data.length c := F.of 13 (by kernel_rfl)
            have f76 : (a.tmps.getD 76 undef) = .int .i64 block := F.of 14 (by kernel_rfl)
            have f77 : (a.tmps.getD 77 undef) = .int .i64 k := F.of 15 (by kernel_rfl)
            refine op_call 16 #[.tmp 75, .tmp 76, .tmp 77] #[22, 3, 3] rfl _ rfl rfl rfl #[.slice A data.length c, .int .i64 block, .int .i64 k] (by simp [Act.eval, f75, f76, f77]) ?_
            refine (rblock_calls _ _ _ (HV.out.below (below_step HB5.out hlow)) (by omega)).mono ?_
            rintro e w7 ⟨v7, rfl, hs7, rfl⟩
            exact ⟨_, rfl, _, rfl, Below.refl _ _, hs7⟩
          | 17, ho =>
            obtain rfl := Option.some.inj ho
            have hg : a.tmps.getD 69 undef = .bool true := F.of 7 (by kernel_rfl)
            refine flow_yes rfl rfl 69 rfl hg ?_
            have f78 : Sl bv 5 w' b0 (a.tmps.getD 78 undef) (blockL data block k) := F.of 16 (by kernel_rfl)
            refine op_conv _ _ _ rfl _ ((f78 : Sl _ _ _ _ _ _).string (P := Try.prog) Try.underlying22 Try.underlying5 Try.underlying9) ⟨_, rfl, Below.refl _ _, rfl⟩
          | 18, ho =>
            obtain rfl := Option.some.inj ho
            have hg : a.tmps.getD 69 undef = .bool true := F.of 7 (by kernel_rfl)
            refine flow_yes rfl rfl 69 rfl hg ?_
            have f74 : (a.tmps.getD 74 undef) = .string (str (blockL data block k)) := F.of 12 (by kernel_rfl)
            have f79 : (a.tmps.getD 79 undef) = .string (str (blockL data block k)) := F.of 17 (by kernel_rfl)
            refine op_pure (.bool true) ?_ ⟨_, rfl, Below.refl _ _, rfl⟩
            simp [execOp, Act.eval, go_sem, f74, f79]
          | 19, ho =>
            obtain rfl := Option.some.inj ho
            refine flow_plain rfl rfl ?_
            have f69 : (a.tmps.getD 69 undef) = .bool true := F.of 7 (by kernel_rfl)
            have f80 : (a.tmps.getD 80 undef) = .bool true := F.of 18 (by kernel_rfl)
            refine op_pure (.bool true) ?_ ⟨_, rfl, Below.refl _ _, rfl⟩
            simp [execOp, Act.eval, go_sem, f69, f80]
          | 20, ho =>
            obtain rfl := Option.some.inj ho
            refine flow_plain rfl rfl ?_
            have f81 : (a.tmps.getD 81 undef) = .bool true := F.of 19 (by kernel_rfl)
            exact op_move (.tmp 81) rfl ⟨_, rfl, Below.refl _ _, f81⟩
          | 21, ho =>
            obtain rfl := Option.some.inj ho
            have hg : a.tmps.getD 82 undef = .bool true := F.of 20 (by kernel_rfl)
            refine flow_yes rfl rfl 82 rfl hg ?_
            have f9 : a.tmps.getD 9 undef = .slice A1 L.length c1 := eval_out F 9 (by kernel_rfl) _ rfl
            exact op_move (.tmp 9) rfl ⟨_, rfl, Below.refl _ _, f9⟩
          | 22, ho =>
            obtain rfl := Option.some.inj ho
            have hg : a.tmps.getD 82 undef = .bool true := F.of 20 (by kernel_rfl)
            refine flow_yes rfl rfl 82 rfl hg ?_
            have f10 : a.tmps.getD 10 undef = .slice A2 L.length c2 := eval_out F 10 (by kernel_rfl) _ rfl
            exact op_move (.tmp 10) rfl ⟨_, rfl, Below.refl _ _, f10⟩
          | 23, ho =>
            obtain rfl := Option.some.inj ho
            have hg : a.tmps.getD 82 undef = .bool true := F.of 20 (by kernel_rfl)
            refine flow_yes rfl rfl 82 rfl hg ?_
            have f83 : (a.tmps.getD 83 undef) = .slice A1 L.length c1 := F.of 21 (by kernel_rfl)
            have f84 : (a.tmps.getD 84 undef) = .slice A2 L.length c2 := F.of 22 (by kernel_rfl)
            refine op_call 12 #[.tmp 83, .tmp 84] #[25, 25] rfl _ rfl rfl rfl #[.slice A1 L.length c1, .slice A2 L.length c2] (by simp [Act.eval, f83, f84]) ?_
            refine (lists_calls _ (HL1.out.below hlow) (HL2.out.below hlow)).mono ?_
            rintro e w7 ⟨rfl, hb7⟩
            exact ⟨_, rfl, _, rfl, hb7, by rw [beq_self_eq_true]; rfl⟩
          | 24, ho =>
            obtain rfl := Option.some.inj ho
            refine flow_plain rfl rfl ?_
            have f82 : (a.tmps.getD 82 undef) = .bool true := F.of 20 (by kernel_rfl)
            have f85 : (a.tmps.getD 85 undef) = .bool true := F.of 23 (by kernel_rfl)
            refine op_pure (.bool true) ?_ ⟨_, rfl, Below.refl _ _, rfl⟩
            simp [execOp, Act.eval, go_sem, f82, f85]
          | 25, ho =>
            obtain rfl := Option.some.inj ho
            refine flow_plain rfl rfl ?_
            have f86 : (a.tmps.getD 86 undef) = .bool true := F.of 24 (by kernel_rfl)
            exact op_move (.tmp 86) rfl ⟨_, rfl, Below.refl _ _, f86⟩
          | 26, ho =>
            obtain rfl := Option.some.inj ho
            have hg : a.tmps.getD 87 undef = .bool true := F.of 25 (by kernel_rfl)
            refine flow_yes rfl rfl 87 rfl hg ?_
            have f9 : a.tmps.getD 9 undef = .slice A1 L.length c1 := eval_out F 9 (by kernel_rfl) _ rfl
            exact op_move (.tmp 9) rfl ⟨_, rfl, Below.refl _ _, f9⟩
          | 27, ho =>
            obtain rfl := Option.some.inj ho
            have hg : a.tmps.getD 87 undef = .bool true := F.of 25 (by kernel_rfl)
            refine flow_yes rfl rfl 87 rfl hg ?_
            have f88 : (a.tmps.getD 88 undef) = .slice A1 L.length c1 := F.of 26 (by kernel_rfl)
            refine op_call 17 #[.tmp 88] #[25] rfl _ rfl rfl rfl #[.slice A1 L.length c1] (by simp [Act.eval, f88]) ?_
            refine (root_calls _ (HL1.out.below hlow) HF.out).mono ?_
            rintro e w7 ⟨v7, rfl, hs7, hb7⟩
            exact ⟨_, rfl, _, rfl, hb7, _, hs7⟩
          | 28, ho =>
            obtain rfl := Option.some.inj ho
            have hg : a.tmps.getD 87 undef = .bool true := F.of 25 (by kernel_rfl)
            refine flow_yes rfl rfl 87 rfl hg ?_
            have f89 : ∃ b, Sl bv 5 w' b (a.tmps.getD 89 undef) (rootL L) := F.of 27 (by kernel_rfl)
            obtain ⟨bb, f89⟩ := f89
            refine op_conv _ _ _ rfl _ ((f89 : Sl _ _ _ _ _ _).string (P := Try.prog) Try.underlying22 Try.underlying5 Try.underlying9) ⟨_, rfl, Below.refl _ _, rfl⟩
          | 29, ho =>
            obtain rfl := Option.some.inj ho
            have hg : a.tmps.getD 87 undef = .bool true := F.of 25 (by kernel_rfl)
            refine flow_yes rfl rfl 87 rfl hg ?_
            have f10 : a.tmps.getD 10 undef = .slice A2 L.length c2 := eval_out F 10 (by kernel_rfl) _ rfl
            exact op_move (.tmp 10) rfl ⟨_, rfl, Below.refl _ _, f10⟩
          | 30, ho =>
            obtain rfl := Option.some.inj ho
            have hg : a.tmps.getD 87 undef = .bool true := F.of 25 (by kernel_rfl)
            refine flow_yes rfl rfl 87 rfl hg ?_
            have f91 : (a.tmps.getD 91 undef) = .slice A2 L.length c2 := F.of 29 (by kernel_rfl)
            refine op_call 18 #[.tmp 91] #[25] rfl _ rfl rfl rfl #[.slice A2 L.length c2] (by simp [Act.eval, f91]) ?_
            refine (rroot_calls _ (HL2.out.below hlow) (Nat.zero_le _) HF.out).mono ?_
            rintro e w7 ⟨v7, rfl, hs7, hb7⟩
            exact ⟨_, rfl, _, rfl, hb7, hs7⟩
          | 31, ho =>
            obtain rfl := Option.some.inj ho
            have hg : a.tmps.getD 87 undef = .bool true := F.of 25 (by kernel_rfl)
            refine flow_yes rfl rfl 87 rfl hg ?_
            have f92 : Sl bv 5 w' 0 (a.tmps.getD 92 undef) (rootL L) := F.of 30 (by kernel_rfl)
            refine op_conv _ _ _ rfl _ ((f92 : Sl _ _ _ _ _ _).string (P := Try.prog) Try.underlying22 Try.underlying5 Try.underlying9) ⟨_, rfl, Below.refl _ _, rfl⟩
          | 32, ho =>
            obtain rfl := Option.some.inj ho
            have hg : a.tmps.getD 87 undef = .bool true := F.of 25 (by kernel_rfl)
            refine flow_yes rfl rfl 87 rfl hg ?_
            have f90 : (a.tmps.getD 90 undef) = .string (str (rootL L)) := F.of 28 (by kernel_rfl)
            have f93 : (a.tmps.getD 93 undef) = .string (str (rootL L)) := F.of 31 (by kernel_rfl)
            refine op_pure (.bool true) ?_ ⟨_, rfl, Below.refl _ _, rfl⟩
            simp [execOp, Act.eval, go_sem, f90, f93]
          | 33, ho =>
            obtain rfl := Option.some.inj ho
            refine flow_plain rfl rfl ?_
            have f87 : (a.tmps.getD 87 undef) = .bool true := F.of 25 (by kernel_rfl)
            have f94 : (a.tmps.getD 94 undef) = .bool true := F.of 32 (by kernel_rfl)
            refine op_pure (.bool true) ?_ ⟨_, rfl, Below.refl _ _, rfl⟩
            simp [execOp, Act.eval, go_sem, f87, f94]
          | 34, ho =>
            obtain rfl := Option.some.inj ho
            refine flow_plain rfl rfl ?_
            have f95 : (a.tmps.getD 95 undef) = .bool true := F.of 33 (by kernel_rfl)
            exact op_move (.tmp 95) rfl ⟨_, rfl, Below.refl _ _, f95⟩
          | 35, ho =>
            obtain rfl := Option.some.inj ho
            have hg : a.tmps.getD 96 undef = .bool true := F.of 34 (by kernel_rfl)
            refine flow_yes rfl rfl 96 rfl hg ?_
            have f0 : a.tmps.getD 0 undef = .slice A data.length c := eval_out F 0 (by kernel_rfl) _ rfl
            exact op_move (.tmp 0) rfl ⟨_, rfl, Below.refl _ _, f0⟩
          | 36, ho =>
            obtain rfl := Option.some.inj ho
            have hg : a.tmps.getD 96 undef = .bool true := F.of 34 (by kernel_rfl)
            refine flow_yes rfl rfl 96 rfl hg ?_
            have f97 : (a.tmps.getD 97 undef) = .slice A data.length c := F.of 35 (by kernel_rfl)
            refine op_call 19 #[.tmp 97] #[22] rfl _ rfl rfl rfl #[.slice A data.length c] (by simp [Act.eval, f97]) ?_
            refine (leaf_calls _ (HV.out.below (below_step HB5.out hlow)) (Nat.le_trans hb0 (Nat.le_trans HB5.out.size hlow.size)) HD.out).mono ?_
            rintro e w7 ⟨v7, rfl, hown7, hb7⟩
            exact ⟨_, rfl, _, rfl, hb7, Sl.of_own hown7⟩
          | 37, ho =>
            obtain rfl := Option.some.inj ho
            have hg : a.tmps.getD 96 undef = .bool true := F.of 34 (by kernel_rfl)
            refine flow_yes rfl rfl 96 rfl hg ?_
            have f98 : Sl bv 5 w' 0 (a.tmps.getD 98 undef) (leafL data) := F.of 36 (by kernel_rfl)
            refine op_conv _ _ _ rfl _ ((f98 : Sl _ _ _ _ _ _).string (P := Try.prog) Try.underlying22 Try.underlying5 Try.underlying9) ⟨_, rfl, Below.refl _ _, rfl⟩
          | 38, ho =>
            obtain rfl := Option.some.inj ho
            have hg : a.tmps.getD 96 undef = .bool true := F.of 34 (by kernel_rfl)
            refine flow_yes rfl rfl 96 rfl hg ?_
            have f0 : a.tmps.getD 0 undef = .slice A data.length c := eval_out F 0 (by kernel_rfl) _ rfl
            exact op_move (.tmp 0) rfl ⟨_, rfl, Below.refl _ _, f0⟩
          | 39, ho =>
            obtain rfl := Option.some.inj ho
            have hg : a.tmps.getD 96 undef = .bool true := F.of 34 (by kernel_rfl)
            refine flow_yes rfl rfl 96 rfl hg ?_
            have f100 : (a.tmps.getD 100 undef) = .slice A data.length c := F.of 38 (by kernel_rfl)
            refine op_call 20 #[.tmp 100] #[22] rfl _ rfl rfl rfl #[.slice A data.length c] (by simp [Act.eval, f100]) ?_
            refine (rleaf_calls _ (HV.out.below (below_step HB5.out hlow)) HD.out).mono ?_
            rintro e w7 ⟨v7, rfl, hown7, hb7⟩
            exact ⟨_, rfl, _, rfl, hb7, Sl.of_own hown7⟩
          | 40, ho =>
            obtain rfl := Option.some.inj ho
            have hg : a.tmps.getD 96 undef = .bool true := F.of 34 (by kernel_rfl)
            refine flow_yes rfl rfl 96 rfl hg ?_
            have f101 : Sl bv 5 w' 0 (a.tmps.getD 101 undef) (leafL data) := F.of 39 (by kernel_rfl)
            refine op_conv _ _ _ rfl _ ((f101 : Sl _ _ _ _ _ _).string (P := Try.prog) Try.underlying22 Try.underlying5 Try.underlying9) ⟨_, rfl, Below.refl _ _, rfl⟩
          | 41, ho =>
            obtain rfl := Option.some.inj ho
            have hg : a.tmps.getD 96 undef = .bool true := F.of 34 (by kernel_rfl)
            refine flow_yes rfl rfl 96 rfl hg ?_
            have f99 : (a.tmps.getD 99 undef) = .string (str (leafL data)) := F.of 37 (by kernel_rfl)
            have f102 : (a.tmps.getD 102 undef) = .string (str (leafL data)) := F.of 40 (by kernel_rfl)
            refine op_pure (.bool true) ?_ ⟨_, rfl, Below.refl _ _, rfl⟩
            simp [execOp, Act.eval, go_sem, f99, f102]
          | 42, ho =>
            obtain rfl := Option.some.inj ho
            refine flow_plain rfl rfl ?_
            have f96 : (a.tmps.getD 96 undef) = .bool true := F.of 34 (by kernel_rfl)
            have f103 : (a.tmps.getD 103 undef) = .bool true := F.of 41 (by kernel_rfl)
            refine op_pure (.bool true) ?_ ⟨_, rfl, Below.refl _ _, rfl⟩
            simp [execOp, Act.eval, go_sem, f96, f103]
          | 43, ho =>
            obtain rfl := Option.some.inj ho
            refine flow_plain rfl rfl ?_
            have f104 : (a.tmps.getD 104 undef) = .bool true := F.of 42 (by kernel_rfl)
            exact op_move (.tmp 104) rfl ⟨_, rfl, Below.refl _ _, f104⟩
          | 44, ho =>
            obtain rfl := Option.some.inj ho
            have hg : a.tmps.getD 105 undef = .bool true := F.of 43 (by kernel_rfl)
            refine flow_yes rfl rfl 105 rfl hg ?_
            refine op_call 7 #[] #[] rfl _ rfl rfl rfl #[] (by simp [Act.eval]) ?_
            refine (awake2_calls _).mono ?_
            rintro e w7 ⟨rfl, hb7⟩
            exact ⟨_, rfl, _, rfl, hb7, rfl⟩
          | 45, ho =>
            obtain rfl := Option.some.inj ho
            refine flow_plain rfl rfl ?_
            have f105 : (a.tmps.getD 105 undef) = .bool true := F.of 43 (by kernel_rfl)
            have f106 : (a.tmps.getD 106 undef) = .bool true := F.of 44 (by kernel_rfl)
            refine op_pure (.bool true) ?_ ⟨_, rfl, Below.refl _ _, rfl⟩
            simp [execOp, Act.eval, go_sem, f105, f106]
          | 46, ho =>
            obtain rfl := Option.some.inj ho
            refine flow_plain rfl rfl ?_
            have f107 : (a.tmps.getD 107 undef) = .bool true := F.of 45 (by kernel_rfl)
            exact op_assign (.tmp 107) rfl ⟨_, rfl, Below.refl _ _, f107⟩
          | j + 47, ho => exact absurd (Array.getElem?_eq_some_iff.1 ho).1 (by simp)
        · intro a' w' htsz hdfs hsame hlow hgot
          have h8 : a'.tmps.getD 8 undef = .bool true := hgot 46 (by simp)
          have hB := Aside0.mk (below_step HB5.out hlow)
          clear hgot hlow hsame
          go_wp2_with fail
          exact bodyPost_ret (results_tmp rfl _ _ _) hdfs ⟨by rw [h8], hB.out⟩
end Go.Proofs.Ytjoljmkedghcbaa
