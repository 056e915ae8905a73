/-
  The reference's Leaf, Leaves, up. No condition but that what comes in can be read and is none too long.
-/
import Derived.Test.YtjoljmkedghcbaaMerUp
import Derived.Test.YtjoljmkedghcbaaDigRef2
import Derived.Test.YtjoljmkedghcbaaRBlock
namespace Go.Proofs.Ytjoljmkedghcbaa
open Go.RowKit
set_option linter.unusedVariables false
set_option linter.unusedSimpArgs false

/-- One byte in a block of its own. -/
theorem own_lit {w : World} {base g e : Nat} {x : UInt8} (h : w.heap[g]? = some (.cells #[.int .u8 (x.toNat : Int)] e (0, 0))) (hb : base ≤ g) : w.ownsRow base e 1 (.slice (some ⟨g, 0, none⟩) 1 1) [x].length ([x].map bv) :=
  ⟨by simp, .inr ⟨g, 1, _, rfl, hb, h, Nat.le_refl _, by simp [maxLen], by simp, by simp [bv]⟩⟩

set_option maxHeartbeats 1000000 in
theorem rleaf_calls {b0 : Nat} {v : Value} {b : List UInt8} (w : World) (hv : Sl bv 5 w b0 v b) (hl : b.length ≤ 999999999999) :
    Calls Try.prog 20 #[v] w fun e w' => ∃ v', e = .returned v' ∧ w'.ownsRow w.heap.size 5 1 v' (leafL b).length ((leafL b).map bv) ∧ Below w.heap.size w w' := by
  have HV := Aside0.mk hv
  have HL := Aside0.mk hl
  obtain ⟨A, c, rfl, hc, hm, _⟩ := hv
  have e1 : shaL ([0] ++ b) = leafL b := by simp [leafL]
  have HE := Aside0.mk e1
  clear e1
  go_enter Try.func20, Try.ntmps20
  go_wp2_with (at_builtin; go_must (refine append_row bv (fun _ => rfl) rfl (.tmp 3) (.tmp 4) 22 rfl w.heap.size 5 5 _ _ _ Try.underlying22 info_u8 rfl (by decide) _ [0] b _ rfl rfl (own_lit (heap_new rfl) (Nat.le_refl _)) (HV.out.below ((Below.refl _ _).alloc (Nat.le_refl _) _)) (by simp; omega) (by simp) ?_); intro v2 w2 hown hg _)
  have hB2 : Below w.heap.size w w2 := ((Below.refl _ _).alloc (Nat.le_refl _) _).grown hg (by simp) (fun k hk => by cases hk; exact Nat.le_refl _)
  have HO := Aside0.mk (And.intro (Sl.of_own (b := 0) hown) hB2)
  clear hown hg hB2
  refine (rsum_calls w2 HO.out.1 (by simp; have := HL.out; omega)).mono ?_
  rintro e w3 ⟨v3, rfl, hown3, hb3⟩
  rw [HE.out] at hown3
  have H3 := Aside0.mk (And.intro hown3 (below_step HO.out.2 hb3))
  clear hown3 hb3
  go_wp2_with fail
  go_ret
  exact ⟨_, rfl, own_mono H3.out.1 HO.out.2.size, H3.out.2⟩

set_option maxHeartbeats 1000000 in
theorem rleaves_calls {b0 : Nat} {v : Value} {data : List UInt8} (block : Int) (w : World) (hv : Sl bv 5 w b0 v data) (hb : -9223372036854775808 ≤ block ∧ block ≤ 9223372036854775807) (hd : data.length ≤ 999999999999) :
    Calls Try.prog 9 #[v, .int .i64 block] w fun e w' => ∃ v', e = .returned v' ∧ OwnE w' w.heap.size 0 v' (leavesL data block) ∧ Below w.heap.size w w' := by
  have HV := Aside0.mk hv
  have HD := Aside0.mk hd
  obtain ⟨A, c, rfl, hc, hl, hR⟩ := hv
  clear hR
  have HG := Aside0.mk (cnt_bd data.length block)
  go_enter Try.func9, Try.ntmps9
  go_wp2_with fail
  go_loopw [5, 6] (fun v i wr => ∃ n : Nat, (n : Int) ≤ 1048576 ∧ i = .int .i64 n ∧ Aside0 ((n : Int) ≤ cnt data.length block ∧ OwnE wr w.heap.size 0 v (leavesN data block n) ∧ Below w.heap.size w wr)) (fun v i wr => (1048576 - intOf i).toNat)
  case atStart => exact ⟨0, by omega, rfl, ⟨HG.out.1, OwnE.nil _ _ _, Below.refl _ _⟩⟩
  case round =>
    obtain ⟨n, hn, rfl, hs⟩ := hrel
    go_wp2_with fail
    refine (rcount_calls _ _ _ (by omega) hb).mono ?_
    rintro e w' ⟨rfl, rfl⟩
    have hnq := hs.out.1
    have hs := Aside0.mk hs.out.2
    obtain ⟨hq0, hq1⟩ := HG.out
    generalize hq : cnt (data.length : Int) block = q at hnq hq0 hq1 ⊢
    have HQ := Aside0.mk hq
    clear hq
    by_cases hlt : (n : Int) < q
    · go_wp2_with fail
      refine (rblock_calls _ _ _ (HV.out.below hs.out.2) hb).mono ?_
      rintro e w' ⟨v1, rfl, hsl, rfl⟩
      have HO1 := Aside0.mk hsl
      have HBL := Aside0.mk (blockL_length data block (n : Int))
      clear hsl
      go_wp2_with fail
      refine (rleaf_calls _ HO1.out (by have := HBL.out; have := HD.out; omega)).mono ?_
      rintro e w2 ⟨v2, rfl, hown2, hb2⟩
      obtain ⟨A', c', rfl, _⟩ := Sl.of_own (b := 0) hown2
      have HO2 := Aside0.mk (Sl.of_own (b := 0) hown2)
      have HB2 := Aside0.mk (below_step hs.out.2 hb2)
      have HL2 := Aside0.mk (hs.out.1.below hb2)
      have HLL := Aside0.mk (leavesN_length data block n)
      clear hown2 hb2
      go_wp2_with (at_builtin; go_must (refine append_listE rfl rfl (.tmp 15) (.tmp 21) rfl _ _ w2.heap.size 1 22 (0, 0) rfl rfl (HL2.out.below ((Below.refl _ _).alloc (Nat.le_refl _) _)) (heap_new rfl) (HO2.out.below ((Below.refl _ _).alloc (Nat.le_refl _) _)) (Nat.zero_le _) (by rw [HLL.out]; omega) (by have := HB2.out.size; simp; omega) ?_); intro v3 w3 hl3 hg3 hsh)
      have H3 := Aside0.mk (show ((n + 1 : Nat) : Int) ≤ cnt data.length block ∧ OwnE w3 w.heap.size 0 v3 (leavesN data block (n + 1)) ∧ Below w.heap.size w w3 from
        ⟨by rw [HQ.out]; omega, by rw [leavesN_succ]; exact hl3, (HB2.out.alloc HB2.out.size _).grown hg3 (by have := HB2.out.size; simp; omega) (OwnE.base_le hs.out.1)⟩)
      clear hl3 hg3 hsh
      go_roundw
      case rel => exact ⟨n + 1, by omega, by go_num, H3⟩
      case measure => simp [intOf]; omega
    · have hnq : n = q.toNat := by omega
      have HNQ := Aside0.mk hnq
      clear hnq
      go_wp2_with fail
      go_ret
      exact ⟨_, rfl, by rw [leavesL, HQ.out, ← HNQ.out]; exact hs.out.1, hs.out.2⟩

set_option maxHeartbeats 2000000 in
theorem rup_calls {b0 : Nat} {v : Value} {L : List (List UInt8)} (w : World) (hv : SlL w b0 v L) (hb0 : b0 ≤ w.heap.size) (hf : FitM L) :
    Calls Try.prog 32 #[v] w fun e w' => ∃ v', e = .returned v' ∧ OwnE w' w.heap.size b0 v' (upL L) ∧ Below w.heap.size w w' := by
  have HV := Aside0.mk hv
  have HF := Aside0.mk hf
  obtain ⟨A, c, rfl, hc, hm⟩ := hv.shape
  have hlen : L.length ≤ 1000000000 := hf.1
  clear hf hv
  go_enter Try.func32, Try.ntmps32
  go_wp2_with fail
  go_loopw [3, 4] (fun v i wr => ∃ n : Nat, n ≤ L.length + 1 ∧ i = .int .i64 n ∧ Aside0 (∃ j, n = 2 * j ∧ OwnE wr w.heap.size b0 v ((upL L).take j) ∧ Below w.heap.size w wr)) (fun v i wr => L.length + 1 - (intOf i).toNat)
  case atStart => exact ⟨0, by omega, rfl, ⟨0, rfl, OwnE.nil _ _ _, Below.refl _ _⟩⟩
  case round =>
    obtain ⟨n, hn, rfl, hs⟩ := hrel
    by_cases h1 : n + 1 < L.length
    · obtain ⟨j, hj, hs⟩ := hs.out
      obtain ⟨ad, c', u, A1, cu, he, hu, hcell, hsl⟩ := HV.out.at n (by omega)
      cases he
      obtain ⟨ad', c', u', A2, cu', he, hu', hcell', hsl'⟩ := HV.out.at (n + 1) h1
      cases he
      have HS := Aside0.mk (And.intro hsl hsl')
      have HN := Aside0.mk (upL_two L n j hj h1)
      have HJ := Aside0.mk hj
      have HLJ := Aside0.mk (show ((upL L).take j).length ≤ 1000000000 by rw [List.length_take, upL_length]; omega)
      subst hu hu'
      have HX := Aside0.mk (And.intro (HF.out.at n) (HF.out.at (n + 1)))
      obtain ⟨x, hx⟩ : ∃ x, x = L.getD n [] := ⟨_, rfl⟩
      obtain ⟨y, hy⟩ : ∃ y, y = L.getD (n + 1) [] := ⟨_, rfl⟩
      rw [← hx, ← hy] at HX HN HS
      rw [← hx] at hcell
      rw [← hy] at hcell'
      have HK : Aside0 (∀ w', Below w.heap.size w w' → w'.cell? (ad.add n) = some (.slice A1 x.length cu) ∧ w'.cell? { block := ad.block, off := ad.off + (n + 1) } = some (.slice A2 y.length cu')) := ⟨fun w' hb => ⟨cell_keep hb hcell, cell_keep hb (add_succ ad n ▸ hcell')⟩⟩
      have HB := Aside0.mk hs.2
      have HBW := Aside0.mk hs.2
      have HO := Aside0.mk hs.1
      have hbl := OwnE.base_le hs.1
      have HBL := Aside0.mk hbl
      have HEN : Aside0 (shaL (([1] ++ x) ++ y) = nodeL x y) := ⟨by simp [nodeL]⟩
      clear hj hsl hsl' hx hy hcell hcell' hs hbl
      have z1 : IntKind.i64.wrap ((n : Int) + 1) = (n : Int) + 1 := IntWalk.i64_in _ (by omega)
      have z2 : 0 ≤ (n : Int) + 1 := by omega
      have z3 : ((n : Int) + 1).toNat = n + 1 := by omega
      have z4 : (n : Int) + 1 < L.length := by omega
      have d1 : decide (n + 1 = L.length) = false := decide_eq_false (by omega)
      have d2 : ((n : Int) + 1 == L.length) = false := by rw [beq_eq_false_iff_ne]; omega
      go_wp2_with fail
      go_region_held3 (fun w' => w'.cell? (ad.add n) = some (.slice A1 x.length cu) ∧ w'.cell? { block := ad.block, off := ad.off + (n + 1) } = some (.slice A2 y.length cu')) (first | exact HK.out _ HB.out | exact HK.out _ HB.out.drew | exact HK.out _ (HB.out.alloc HB.out.size _) | exact HK.out _ (HB.out.drew.alloc HB.out.size _)) (first
        | (refine step_append_row rfl rfl (.tmp 24) (.tmp 28) rfl wr.heap.size 5 _ _ [1] x _ rfl rfl (own_lit (heap_new rfl) (Nat.le_refl _)) (HS.out.1.below (HB.out.drew.alloc HB.out.size _)) (by have := HX.out; simp; omega) (by simp) ?_
           intro v5 w5 hown5 hg5 hsh5
           have HO5 := Aside0.mk hown5
           have hb5 : Below wr.heap.size wr w5 := (((Below.refl _ _).drew).alloc (Nat.le_refl _) _).grown hg5 (by simp) (fun k hk => by cases hk; exact Nat.le_refl _)
           have HWB := Aside0.mk hb5
           have HB := Aside0.mk (below_step HB.out hb5)
           clear hown5 hg5 hb5)
        | (refine step_append_row rfl rfl (.tmp 29) (.tmp 34) rfl wr.heap.size 5 _ _ ([1] ++ x) y _ rfl rfl HO5.out (HS.out.2.below HB.out) (by have := HX.out; simp; omega) HWB.out.size ?_
           intro v6 w6 hown6 hg6 hsh6
           have HO6 := Aside0.mk (Sl.of_own (b := 0) hown6)
           have hb6 : Below wr.heap.size wr w6 := HWB.out.grown hg6 HWB.out.size (own_base HO5.out)
           have HOO6 := Aside0.mk (HO.out.below hb6)
           have HWB6 := Aside0.mk hb6
           have HB := Aside0.mk (below_step HBW.out hb6)
           obtain ⟨A6, n6, c6, rfl⟩ := hsh6
           clear hown6 hg6 hb6)
        | ((go_at_call 34; refine (rsum_calls _ HO6.out (by have := HX.out; simp; omega)).mono ?_; rintro e w7 ⟨v7, rfl, hown7, hb7⟩)
           rw [HEN.out] at hown7
           have HY := Aside0.mk (Sl.of_own (b := b0) hown7)
           obtain ⟨A7, c7, rfl, _⟩ := Sl.of_own (b := b0) hown7
           have HO7 := Aside0.mk (HOO6.out.below hb7)
           have HB := Aside0.mk (below_step HB.out hb7)
           clear hown7 hb7)
        | (refine step_append_list rfl rfl (.tmp 23) (.tmp 37) rfl _ _ w7.heap.size 1 22 (0, 0) rfl rfl (HO7.out.below ((Below.refl _ _).alloc (Nat.le_refl _) _)) (heap_new rfl) (HY.out.below ((Below.refl _ _).alloc (Nat.le_refl _) _)) hb0 (by have := HLJ.out; omega) (by have := HB.out.size; simp; omega) ?_
           intro v3 w3 hl3 hg3 hsh
           have HO := Aside0.mk hl3
           have HB := Aside0.mk (show Below w.heap.size w w3 from (HB.out.alloc HB.out.size _).grown hg3 (by have := HB.out.size; simp; omega) HBL.out)
           clear hl3 hg3 hsh))
      have H3 := Aside0.mk (show ∃ j', n + 2 = 2 * j' ∧ OwnE w3 w.heap.size b0 v3 ((upL L).take j') ∧ Below w.heap.size w w3 from ⟨j + 1, by have := HJ.out; omega, by rw [HN.out]; exact HO.out, HB.out⟩)
      clear z1 z2 z3 z4
      go_wp2_with fail
      go_roundw
      case rel => exact ⟨n + 2, by omega, by go_num, H3⟩
      case measure => simp [intOf]; omega
    · by_cases h2 : n < L.length
      · obtain ⟨j, hj, hs⟩ := hs.out
        obtain ⟨ad, c', u, A1, cu, he, hu, hcell, hsl⟩ := (HV.out.below hs.2).at n (by omega)
        cases he
        subst hu
        have HS := Aside0.mk hsl
        have HN := Aside0.mk (upL_one L n j hj (by omega))
        have HJ := Aside0.mk hj
        have HLJ := Aside0.mk (show ((upL L).take j).length ≤ 1000000000 by rw [List.length_take, upL_length]; omega)
        obtain ⟨x, hx⟩ : ∃ x, x = L.getD n [] := ⟨_, rfl⟩
        rw [← hx] at HN HS hcell
        have HB := Aside0.mk hs.2
        have HO := Aside0.mk hs.1
        have hbl := OwnE.base_le hs.1
        have HBL := Aside0.mk hbl
        have d1 : decide (n + 1 = L.length) = true := decide_eq_true (by omega)
        have d2 : ((n : Int) + 1 == L.length) = true := by rw [beq_iff_eq]; omega
        clear hj hsl hx hs hbl
        go_wp2_with (at_builtin; go_must (refine append_listE rfl rfl (.tmp 16) (.tmp 21) rfl _ _ wr.heap.size 1 22 (0, 0) rfl rfl (HO.out.below ((Below.refl _ _).alloc (Nat.le_refl _) _)) (heap_new rfl) (HS.out.below ((Below.refl _ _).alloc (Nat.le_refl _) _)) hb0 (by have := HLJ.out; omega) (by have := HB.out.size; simp; omega) ?_); intro v3 w3 hl3 hg3 hsh)
        have H3 := Aside0.mk (show ∃ j', n + 2 = 2 * j' ∧ OwnE w3 w.heap.size b0 v3 ((upL L).take j') ∧ Below w.heap.size w w3 from ⟨j + 1, by have := HJ.out; omega, by rw [HN.out]; exact hl3, (HB.out.alloc HB.out.size _).grown hg3 (by have := HB.out.size; simp; omega) HBL.out⟩)
        clear hl3 hg3 hsh
        go_roundw
        case rel => exact ⟨n + 2, by omega, by go_num, H3⟩
        case measure => simp [intOf]; omega
      · have HE : Aside0 (OwnE wr w.heap.size b0 u3 (upL L) ∧ Below w.heap.size w wr) := ⟨by
          obtain ⟨j, hj, hs⟩ := hs.out
          rw [upL_all L n j hj (by omega)] at hs
          exact hs⟩
        clear hs
        go_wp2_with fail
        go_ret
        exact ⟨_, rfl, HE.out.1, HE.out.2⟩
end Go.Proofs.Ytjoljmkedghcbaa
