/-
  The reference's trees: Leaves, up, Levels, Root. No condition but that what comes in can be read and is none too long.
-/
import Derived.Test.YtdikconhdbopdaaMerUp
import Derived.Test.YtdikconhdbopdaaDigC
import Derived.Test.YtdikconhdbopdaaRBlock
import Derived.Test.YtdikconhdbopdaaMerLevels
import Derived.Test.YtdikconhdbopdaaRLeaf1
namespace Go.Proofs.Ytdikconhdbopdaa
section
open Go.RowKit
set_option linter.unusedVariables false
set_option linter.unusedSimpArgs false

set_option maxHeartbeats 1000000 in
theorem rleaves_calls {b0 : Nat} {v : Value} {data : List UInt8} (block : Int) (w : World) (hv : Sl bv 5 w b0 v data) (hb : -9223372036854775808 ≤ block ∧ block ≤ 9223372036854775807) (hd : data.length ≤ 999999999999) :
    Calls Try.prog 29 #[v, .int .i64 block] w fun e w' => ∃ v', e = .returned v' ∧ OwnE w' w.heap.size 0 v' (leavesL data block) ∧ Below w.heap.size w w' := by
  have HV := Aside0.mk hv
  have HD := Aside0.mk hd
  obtain ⟨A, c, rfl, hc, hl, hR⟩ := hv
  clear hR
  have HG := Aside0.mk (cnt_bd data.length block)
  go_enter Try.func29, Try.ntmps29
  go_wp2_with fail
  go_loopw [5, 6] (fun v i wr => ∃ n : Nat, (n : Int) ≤ 1048576 ∧ i = .int .i64 n ∧ Aside0 ((n : Int) ≤ cnt data.length block ∧ OwnE wr w.heap.size 0 v (leavesN data block n) ∧ Below w.heap.size w wr)) (fun v i wr => (1048576 - intOf i).toNat)
  case atStart => exact ⟨0, by omega, rfl, ⟨HG.out.1, OwnE.nil _ _ _, Below.refl _ _⟩⟩
  case round =>
    obtain ⟨n, hn, rfl, hs⟩ := hrel
    go_wp2_with fail
    refine (rcount_calls _ _ _ (by omega) hb).mono ?_
    rintro e w' ⟨rfl, rfl⟩
    have hnq := hs.out.1
    have hs := Aside0.mk hs.out.2
    obtain ⟨hq0, hq1⟩ := HG.out
    generalize hq : cnt (data.length : Int) block = q at hnq hq0 hq1 ⊢
    have HQ := Aside0.mk hq
    clear hq
    by_cases hlt : (n : Int) < q
    · go_wp2_with fail
      refine (rblock_calls _ _ _ (HV.out.below hs.out.2) hb).mono ?_
      rintro e w' ⟨v1, rfl, hsl, rfl⟩
      have HO1 := Aside0.mk hsl
      have HBL := Aside0.mk (blockL_length data block (n : Int))
      clear hsl
      go_wp2_with fail
      refine (rleaf_calls _ HO1.out (by have := HBL.out; have := HD.out; omega)).mono ?_
      rintro e w2 ⟨v2, rfl, hown2, hb2⟩
      obtain ⟨A', c', rfl, _⟩ := Sl.of_own (b := 0) hown2
      have HO2 := Aside0.mk (Sl.of_own (b := 0) hown2)
      have HB2 := Aside0.mk (below_step hs.out.2 hb2)
      have HL2 := Aside0.mk (hs.out.1.below hb2)
      have HLL := Aside0.mk (leavesN_length data block n)
      clear hown2 hb2
      go_wp2_with (at_builtin; go_must (refine append_listE rfl rfl (.tmp 15) (.tmp 21) rfl _ _ w2.heap.size 1 22 (0, 0) rfl rfl (HL2.out.below ((Below.refl _ _).alloc (Nat.le_refl _) _)) (heap_new rfl) (HO2.out.below ((Below.refl _ _).alloc (Nat.le_refl _) _)) (Nat.zero_le _) (by rw [HLL.out]; omega) (by have := HB2.out.size; simp; omega) ?_); intro v3 w3 hl3 hg3 hsh)
      have H3 := Aside0.mk (show ((n + 1 : Nat) : Int) ≤ cnt data.length block ∧ OwnE w3 w.heap.size 0 v3 (leavesN data block (n + 1)) ∧ Below w.heap.size w w3 from
        ⟨by rw [HQ.out]; omega, by rw [leavesN_succ]; exact hl3, (HB2.out.alloc HB2.out.size _).grown hg3 (by have := HB2.out.size; simp; omega) (OwnE.base_le hs.out.1)⟩)
      clear hl3 hg3 hsh
      go_roundw
      case rel => exact ⟨n + 1, by omega, by go_num, H3⟩
      case measure => simp [intOf]; omega
    · have hnq : n = q.toNat := by omega
      have HNQ := Aside0.mk hnq
      clear hnq
      go_wp2_with fail
      go_ret
      exact ⟨_, rfl, by rw [leavesL, HQ.out, ← HNQ.out]; exact hs.out.1, hs.out.2⟩

set_option maxHeartbeats 2000000 in
theorem rup_calls {b0 : Nat} {v : Value} {L : List (List UInt8)} (w : World) (hv : SlL w b0 v L) (hb0 : b0 ≤ w.heap.size) (hf : FitM L) :
    Calls Try.prog 42 #[v] w fun e w' => ∃ v', e = .returned v' ∧ OwnE w' w.heap.size b0 v' (upL L) ∧ Below w.heap.size w w' := by
  have HV := Aside0.mk hv
  have HF := Aside0.mk hf
  obtain ⟨A, c, rfl, hc, hm⟩ := hv.shape
  have hlen : L.length ≤ 1000000000 := hf.1
  clear hf hv
  go_enter Try.func42, Try.ntmps42
  go_wp2_with fail
  go_loopw [3, 4] (fun v i wr => ∃ n : Nat, n ≤ L.length + 1 ∧ i = .int .i64 n ∧ Aside0 (∃ j, n = 2 * j ∧ OwnE wr w.heap.size b0 v ((upL L).take j) ∧ Below w.heap.size w wr)) (fun v i wr => L.length + 1 - (intOf i).toNat)
  case atStart => exact ⟨0, by omega, rfl, ⟨0, rfl, OwnE.nil _ _ _, Below.refl _ _⟩⟩
  case round =>
    obtain ⟨n, hn, rfl, hs⟩ := hrel
    by_cases h1 : n + 1 < L.length
    · obtain ⟨j, hj, hs⟩ := hs.out
      obtain ⟨ad, c', u, A1, cu, he, hu, hcell, hsl⟩ := HV.out.at n (by omega)
      cases he
      obtain ⟨ad', c', u', A2, cu', he, hu', hcell', hsl'⟩ := HV.out.at (n + 1) h1
      cases he
      have HS := Aside0.mk (And.intro hsl hsl')
      have HN := Aside0.mk (upL_two L n j hj h1)
      have HJ := Aside0.mk hj
      have HLJ := Aside0.mk (show ((upL L).take j).length ≤ 1000000000 by rw [List.length_take, upL_length]; omega)
      subst hu hu'
      have HX := Aside0.mk (And.intro (HF.out.at n) (HF.out.at (n + 1)))
      obtain ⟨x, hx⟩ : ∃ x, x = L.getD n [] := ⟨_, rfl⟩
      obtain ⟨y, hy⟩ : ∃ y, y = L.getD (n + 1) [] := ⟨_, rfl⟩
      rw [← hx, ← hy] at HX HN HS
      rw [← hx] at hcell
      rw [← hy] at hcell'
      have HK : Aside0 (∀ w', Below w.heap.size w w' → w'.cell? (ad.add n) = some (.slice A1 x.length cu) ∧ w'.cell? { block := ad.block, off := ad.off + (n + 1) } = some (.slice A2 y.length cu')) := ⟨fun w' hb => ⟨cell_keep hb hcell, cell_keep hb (add_succ ad n ▸ hcell')⟩⟩
      have HB := Aside0.mk hs.2
      have HBW := Aside0.mk hs.2
      have HO := Aside0.mk hs.1
      have hbl := OwnE.base_le hs.1
      have HBL := Aside0.mk hbl
      have HEN : Aside0 (shaL (([1] ++ x) ++ y) = nodeL x y) := ⟨by simp [nodeL]⟩
      clear hj hsl hsl' hx hy hcell hcell' hs hbl
      have z1 : IntKind.i64.wrap ((n : Int) + 1) = (n : Int) + 1 := IntWalk.i64_in _ (by omega)
      have z2 : 0 ≤ (n : Int) + 1 := by omega
      have z3 : ((n : Int) + 1).toNat = n + 1 := by omega
      have z4 : (n : Int) + 1 < L.length := by omega
      have d1 : decide (n + 1 = L.length) = false := decide_eq_false (by omega)
      have d2 : ((n : Int) + 1 == L.length) = false := by rw [beq_eq_false_iff_ne]; omega
      go_wp2_with fail
      go_region_held3 (fun w' => w'.cell? (ad.add n) = some (.slice A1 x.length cu) ∧ w'.cell? { block := ad.block, off := ad.off + (n + 1) } = some (.slice A2 y.length cu')) (first | exact HK.out _ HB.out | exact HK.out _ HB.out.drew | exact HK.out _ (HB.out.alloc HB.out.size _) | exact HK.out _ (HB.out.drew.alloc HB.out.size _)) (first
        | (refine step_append_row rfl rfl (.tmp 24) (.tmp 28) rfl wr.heap.size 5 _ _ [1] x _ rfl rfl (own_lit (heap_new rfl) (Nat.le_refl _)) (HS.out.1.below (HB.out.drew.alloc HB.out.size _)) (by have := HX.out; simp; omega) (by simp) ?_
           intro v5 w5 hown5 hg5 hsh5
           have HO5 := Aside0.mk hown5
           have hb5 : Below wr.heap.size wr w5 := (((Below.refl _ _).drew).alloc (Nat.le_refl _) _).grown hg5 (by simp) (fun k hk => by cases hk; exact Nat.le_refl _)
           have HWB := Aside0.mk hb5
           have HB := Aside0.mk (below_step HB.out hb5)
           clear hown5 hg5 hb5)
        | (refine step_append_row rfl rfl (.tmp 29) (.tmp 34) rfl wr.heap.size 5 _ _ ([1] ++ x) y _ rfl rfl HO5.out (HS.out.2.below HB.out) (by have := HX.out; simp; omega) HWB.out.size ?_
           intro v6 w6 hown6 hg6 hsh6
           have HO6 := Aside0.mk (Sl.of_own (b := 0) hown6)
           have hb6 : Below wr.heap.size wr w6 := HWB.out.grown hg6 HWB.out.size (own_base HO5.out)
           have HOO6 := Aside0.mk (HO.out.below hb6)
           have HWB6 := Aside0.mk hb6
           have HB := Aside0.mk (below_step HBW.out hb6)
           obtain ⟨A6, n6, c6, rfl⟩ := hsh6
           clear hown6 hg6 hb6)
        | ((go_at_call 41; refine (rsum_calls _ HO6.out (by have := HX.out; simp; omega)).mono ?_; rintro e w7 ⟨v7, rfl, hown7, hb7⟩)
           rw [HEN.out] at hown7
           have HY := Aside0.mk (Sl.of_own (b := b0) hown7)
           obtain ⟨A7, c7, rfl, _⟩ := Sl.of_own (b := b0) hown7
           have HO7 := Aside0.mk (HOO6.out.below hb7)
           have HB := Aside0.mk (below_step HB.out hb7)
           clear hown7 hb7)
        | (refine step_append_list rfl rfl (.tmp 23) (.tmp 37) rfl _ _ w7.heap.size 1 22 (0, 0) rfl rfl (HO7.out.below ((Below.refl _ _).alloc (Nat.le_refl _) _)) (heap_new rfl) (HY.out.below ((Below.refl _ _).alloc (Nat.le_refl _) _)) hb0 (by have := HLJ.out; omega) (by have := HB.out.size; simp; omega) ?_
           intro v3 w3 hl3 hg3 hsh
           have HO := Aside0.mk hl3
           have HB := Aside0.mk (show Below w.heap.size w w3 from (HB.out.alloc HB.out.size _).grown hg3 (by have := HB.out.size; simp; omega) HBL.out)
           clear hl3 hg3 hsh))
      have H3 := Aside0.mk (show ∃ j', n + 2 = 2 * j' ∧ OwnE w3 w.heap.size b0 v3 ((upL L).take j') ∧ Below w.heap.size w w3 from ⟨j + 1, by have := HJ.out; omega, by rw [HN.out]; exact HO.out, HB.out⟩)
      clear z1 z2 z3 z4
      go_wp2_with fail
      go_roundw
      case rel => exact ⟨n + 2, by omega, by go_num, H3⟩
      case measure => simp [intOf]; omega
    · by_cases h2 : n < L.length
      · obtain ⟨j, hj, hs⟩ := hs.out
        obtain ⟨ad, c', u, A1, cu, he, hu, hcell, hsl⟩ := (HV.out.below hs.2).at n (by omega)
        cases he
        subst hu
        have HS := Aside0.mk hsl
        have HN := Aside0.mk (upL_one L n j hj (by omega))
        have HJ := Aside0.mk hj
        have HLJ := Aside0.mk (show ((upL L).take j).length ≤ 1000000000 by rw [List.length_take, upL_length]; omega)
        obtain ⟨x, hx⟩ : ∃ x, x = L.getD n [] := ⟨_, rfl⟩
        rw [← hx] at HN HS hcell
        have HB := Aside0.mk hs.2
        have HO := Aside0.mk hs.1
        have hbl := OwnE.base_le hs.1
        have HBL := Aside0.mk hbl
        have d1 : decide (n + 1 = L.length) = true := decide_eq_true (by omega)
        have d2 : ((n : Int) + 1 == L.length) = true := by rw [beq_iff_eq]; omega
        clear hj hsl hx hs hbl
        go_wp2_with (at_builtin; go_must (refine append_listE rfl rfl (.tmp 16) (.tmp 21) rfl _ _ wr.heap.size 1 22 (0, 0) rfl rfl (HO.out.below ((Below.refl _ _).alloc (Nat.le_refl _) _)) (heap_new rfl) (HS.out.below ((Below.refl _ _).alloc (Nat.le_refl _) _)) hb0 (by have := HLJ.out; omega) (by have := HB.out.size; simp; omega) ?_); intro v3 w3 hl3 hg3 hsh)
        have H3 := Aside0.mk (show ∃ j', n + 2 = 2 * j' ∧ OwnE w3 w.heap.size b0 v3 ((upL L).take j') ∧ Below w.heap.size w w3 from ⟨j + 1, by have := HJ.out; omega, by rw [HN.out]; exact hl3, (HB.out.alloc HB.out.size _).grown hg3 (by have := HB.out.size; simp; omega) HBL.out⟩)
        clear hl3 hg3 hsh
        go_roundw
        case rel => exact ⟨n + 2, by omega, by go_num, H3⟩
        case measure => simp [intOf]; omega
      · have HE : Aside0 (OwnE wr w.heap.size b0 u3 (upL L) ∧ Below w.heap.size w wr) := ⟨by
          obtain ⟨j, hj, hs⟩ := hs.out
          rw [upL_all L n j hj (by omega)] at hs
          exact hs⟩
        clear hs
        go_wp2_with fail
        go_ret
        exact ⟨_, rfl, HE.out.1, HE.out.2⟩
end

section
open Go.RowKit
set_option linter.unusedVariables false
set_option linter.unusedSimpArgs false

set_option maxHeartbeats 1000000 in
theorem rroot_none {c : Nat} {A : Option Addr} (w : World) : Calls Try.prog 28 #[.slice A 0 c] w fun e w' => ∃ v', e = .returned v' ∧ w'.ownsRow w.heap.size 5 1 v' (shaL []).length ((shaL []).map bv) ∧ Below w.heap.size w w' := by
  go_enter Try.func28, Try.ntmps28
  go_wp2_with fail
  refine (rsum_calls (b := []) w (Sl.nil _ _ _ 0) (by simp)).mono ?_
  rintro e w2 ⟨v2, rfl, hown2, hb2⟩
  have H2 := Aside0.mk (And.intro hown2 hb2)
  clear hown2 hb2
  go_wp2_with fail
  go_ret
  exact ⟨_, rfl, H2.out.1, H2.out.2⟩

set_option maxHeartbeats 1000000 in
theorem rroot_some {b0 : Nat} {v : Value} {L : List (List UInt8)} (w : World) (hv : SlL w b0 v L) (hb0 : b0 ≤ w.heap.size) (hf : FitM L) (hne : 0 < L.length) :
    Calls Try.prog 28 #[v] w fun e w' => ∃ v', e = .returned v' ∧ Sl bv 5 w' b0 v' (rootL L) ∧ Below w.heap.size w w' := by
  have HV := Aside0.mk hv
  have HF := Aside0.mk hf
  obtain ⟨A, c, rfl, hc, hm⟩ := hv.shape
  have hlen : L.length ≤ 1000000000 := hf.1
  have d1 : decide ((L.length : Int) = 0) = false := decide_eq_false (by omega)
  have d2 : ((L.length : Int) == 0) = false := by rw [beq_eq_false_iff_ne]; omega
  clear hf hv
  go_enter Try.func28, Try.ntmps28
  go_wp2_with fail
  go_loopw [0] (fun l wr => ∃ (k : Nat) (A : Option Addr) (c m : Nat), l = .slice A m c ∧ m ≤ 1000000000 ∧ Aside0 (m = (upN L k).length) ∧ Aside0 (HgtAt L k ∧ SlL wr b0 l (upN L k) ∧ Below w.heap.size w wr)) (fun l wr => lenOf l)
  case atStart => exact ⟨0, A, c, L.length, rfl, hlen, ⟨rfl⟩, ⟨HgtAt.zero L, HV.out, Below.refl _ _⟩⟩
  case round =>
    obtain ⟨k, A2, c2, m, rfl, hm2, hml, hs⟩ := hrel
    by_cases h1 : 1 < m
    · go_wp2_with fail
      refine (rup_calls _ hs.out.2.1 (Nat.le_trans hb0 hs.out.2.2.size) (upN_fit sha_short HF.out k)).mono ?_
      rintro e w4 ⟨v4, rfl, hown4, hb4⟩
      have HKS := Aside0.mk (hs.out.1.succ (by have := hml.out; omega))
      have hown5 : SlL w4 b0 v4 (upN L (k + 1)) := hown4.reads
      obtain ⟨A4, c4, rfl, hc4, hm4⟩ := hown5.shape
      have HO := Aside0.mk hown5
      have HB := Aside0.mk (below_step hs.out.2.2 hb4)
      have hm5 : (upN L (k + 1)).length < m := by
        show (upL (upN L k)).length < m
        rw [upL_length, ← hml.out]; omega
      obtain ⟨m', hm'⟩ : ∃ m', m' = (upN L (k + 1)).length := ⟨_, rfl⟩
      rw [← hm'] at hm5 hm4 hc4 HO ⊢
      have HM := Aside0.mk hm'
      clear hown4 hb4 hown5 hm' hs
      go_wp2_with fail
      go_roundw
      case rel => exact ⟨k + 1, A4, c4, m', rfl, by omega, HM, ⟨HKS.out, HO.out, HB.out⟩⟩
      case measure => simp [lenOf]; omega
    · have hk := hs.out.1.last (by have := hml.out; omega)
      have hT := upN_top L hne
      rw [← hk] at hT
      have HR : Aside0 (rootL L = (upN L k).getD 0 []) := ⟨by rw [rootL, if_neg (by omega), ← hk]⟩
      obtain ⟨ad2, c3, u2, A3, cu3, he, hu, hcell2, hsl2⟩ := hs.out.2.1.at 0 (by rw [hT]; decide)
      have hm1 : m = 1 := by rw [← hT]; exact hml.out
      rw [hT] at he
      subst hm1
      cases he
      subst hu
      have HS := Aside0.mk hsl2
      have HB := Aside0.mk hs.out.2.2
      have hcell2 : wr.cell? ad2 = some (.slice A3 ((upN L k).getD 0 []).length cu3) := hcell2
      clear hs hsl2 hk hT hml
      go_wp2_with fail
      go_ret
      exact ⟨_, rfl, by rw [HR.out]; exact HS.out, HB.out⟩

theorem rroot_calls {b0 : Nat} {v : Value} {L : List (List UInt8)} (w : World) (hv : SlL w b0 v L) (hb0 : b0 ≤ w.heap.size) (hf : FitM L) :
    Calls Try.prog 28 #[v] w fun e w' => ∃ v', e = .returned v' ∧ Sl bv 5 w' b0 v' (rootL L) ∧ Below w.heap.size w w' := by
  rcases Nat.eq_zero_or_pos L.length with h | h
  · obtain ⟨A, c, rfl, hc, hm⟩ := hv.shape
    rw [h, rootL, if_pos h]
    refine (rroot_none w).mono ?_
    rintro e w' ⟨v', rfl, h1, h2⟩
    exact ⟨_, rfl, Sl.of_own h1, h2⟩
  · exact rroot_some w hv hb0 hf h
end
end Go.Proofs.Ytdikconhdbopdaa
