/-
  The reference's Sum. No condition but that what is summed can be read.
-/
import Derived.Test.YtjoljmkedghcbaaDigL4
import Derived.Test.YtjoljmkedghcbaaDigL5
import Derived.Test.YtjoljmkedghcbaaDigL6
import Derived.Test.YtjoljmkedghcbaaDigL7
import Derived.Test.YtjoljmkedghcbaaDigL8
namespace Go.Proofs.Ytjoljmkedghcbaa
open Go.RowKit
set_option linter.unusedVariables false
set_option linter.unusedSimpArgs false

set_option maxHeartbeats 8000000 in
set_option maxRecDepth 100000 in
theorem rsum_calls {b0 : Nat} {v : Value} {b : List UInt8} (w : World) (hv : Sl bv 5 w b0 v b) (hl : b.length ≤ 1000000000000) :
    Calls Try.prog 34 #[v] w fun e w' => ∃ v', e = .returned v' ∧ w'.ownsRow w.heap.size 5 1 v' (shaL b).length ((shaL b).map bv) ∧ Below w.heap.size w w' := by
  have HV := Aside0.mk hv
  have HL := Aside0.mk hl
  obtain ⟨A, c, rfl, hc, hm, _⟩ := hv
  go_enter Try.func34, Try.ntmps34
  go_wp2_with fail
  refine (rounds_calls w).mono ?_
  rintro e w1 ⟨rfl, hb1⟩
  have HB1 := Aside0.mk hb1
  clear hb1
  go_upto_region 3 with (first
    | (refine wpList_store_arr rfl 59 (.tmp 3) (.tmp 23) rfl w1.heap.size (Ks.map qv).toArray _ 59 rfl rfl (heap_new rfl) (by kernel_rfl) info_u32x64 (one_qv _) ?_
       intro w2 hg2 hgr2
       have hb2 : Below w1.heap.size w1 w2 := ((Below.refl w1.heap.size w1).alloc (Nat.le_refl _) _).grown hgr2 (by simp) (fun k hk => by cases hk; exact Nat.le_refl _)
       have hl2 := blk_lt hg2
       have H2 := Aside0.mk (And.intro hg2 (And.intro (below_step HB1.out hb2) hl2))
       clear hg2 hgr2 hb2 hl2)
    | (refine wpList_store_arr rfl 53 (.tmp 4) (.tmp 24) rfl w2.heap.size St0.vs _ 53 rfl (by kernel_rfl) (heap_new rfl) (by kernel_rfl) info_w8 (one_vs _) ?_
       intro w3 hg3 hgr3
       have hb3 : Below w2.heap.size w2 w3 := ((Below.refl w2.heap.size w2).alloc (Nat.le_refl _) _).grown hgr3 (by simp) (fun k hk => by cases hk; exact Nat.le_refl _)
       have H3 := Aside0.mk (And.intro hg3 (And.intro (below_heap hb3 H2.out.1) (And.intro (below_step H2.out.2.1 hb3) H2.out.2.2)))
       clear hg3 hgr3 hb3))
  have HBW : Aside0 (Below w.heap.size w w3) := ⟨H3.out.2.2.1⟩
  go_wp2_with (first
    | (at_builtin; refine append_row bv (fun _ => rfl) rfl (.tmp 25) (.tmp 26) 22 rfl w3.heap.size 5 _ _ _ _ Try.underlying22 info_u8 rfl (by decide) _ [] b _ (by rfl) (by rfl) (World.ownsRow_made w3 #[] 0 (Nat.le_refl _) (by decide) rfl) (HV.out.below (below_step HBW.out ((Below.refl _ _).alloc (Nat.le_refl _) _))) (by simp; have := HL.out; omega) (by simp) ?_; intro v4 w4 hown hgr _
       have hG4 : Grow w3 w4 v4 b := ⟨by simpa using hown, ((Below.refl w3.heap.size w3).alloc (Nat.le_refl _) _).grown hgr (by simp) (fun k hk => by cases hk; exact Nat.le_refl _)⟩
       obtain ⟨A4, c4, rfl⟩ := hG4.shape
       have HG4 := Aside0.mk hG4
       clear hown hgr hG4)
    | (at_builtin; refine append_grow rfl rfl (.tmp 27) (.tmp 28) rfl _ b [128] 1 rfl _ rfl (by rfl) (by rfl) HG4.out (by have := HL.out; simp; omega) ?_; intro v5 w5 hG
       have hG5 : Grow w3 w5 v5 (b ++ padZ 0) := hG
       obtain ⟨A5, c5, rfl⟩ : ∃ A c, v5 = .slice A (b.length + (0 + 1)) c := by have := hG5.shape; rwa [List.length_append, padZ_length] at this
       have HG5 := Aside0.mk hG5
       clear hG hG5))
  go_loopw [5] (fun a wr => ∃ j : Nat, j ≤ zerosN b.length ∧ (∃ A cc, a = .slice A (b.length + (j + 1)) cc) ∧ Aside0 (Grow w3 wr a (b ++ padZ j))) (fun a wr => zerosN b.length + b.length - (match a with | .slice _ n _ => n - 1 | _ => 0))
  case atStart => exact ⟨0, Nat.zero_le _, ⟨_, _, rfl⟩, HG5⟩
  case round =>
    obtain ⟨j, hj, ⟨A, cc, rfl⟩, hs⟩ := hrel
    have hb1 : (b.length : Int) ≤ 1000000000000 := by have := HL.out; omega
    by_cases hlt : j < zerosN b.length
    · have hz := zeros_go b.length j hlt
      have hj2 : (j : Int) ≤ 64 := by have := zerosN_lt b.length; omega
      have hz' : (((b.length : Int) + ((j : Int) + 1)) % 64 != 56) = true := by simp; omega
      go_wp2_with (at_builtin; refine append_grow rfl rfl (.tmp 34) (.tmp 35) rfl _ (b ++ padZ j) [0] 1 rfl _ rfl rfl rfl hs.out (by have := zerosN_lt b.length; have := HL.out; rw [List.length_append, padZ_length]; simp; omega) ?_; intro v' w' hG)
      have HG := Aside0.mk (show Grow w3 w' v' (b ++ padZ (j + 1)) by rw [← padZ_succ, ← List.append_assoc]; exact hG)
      have hsh := HG.out.shape
      rw [List.length_append, padZ_length] at hsh
      clear hG
      go_roundw
      case rel => exact ⟨j + 1, by omega, hsh, HG⟩
      case measure =>
        obtain ⟨A', c', rfl⟩ := hsh
        simp; omega
    · have hjz : j = zerosN b.length := by omega
      have hj2 : (j : Int) ≤ 64 := by have := zerosN_lt b.length; omega
      have hz := zeros_end b.length
      have hz' : (((b.length : Int) + ((j : Int) + 1)) % 64 != 56) = false := by simp; omega
      have HZ := Aside0.mk hjz
      clear hlt hj hz hjz
      go_wp2_with fail
      have H1 := Aside0.mk (show Grow w3 wr (.slice A (b.length + (j + 1)) cc) (b ++ padZ j ++ lenN b.length 0) by rw [show lenN b.length 0 = [] from rfl, List.append_nil]; exact hs.out)
      clear hs
      obtain ⟨wo, rfl⟩ : ∃ wo : World, wo = wr := ⟨_, rfl⟩
      go_loopw [5, 7] (fun a i wr => ∃ m : Nat, m ≤ 8 ∧ i = .int .i64 (7 - (m : Int)) ∧ (∃ A cc, a = .slice A (b.length + (j + 1) + m) cc) ∧ Aside0 (Grow w3 wr a (b ++ padZ j ++ lenN b.length m))) (fun a i wr => (intOf i + 1).toNat)
      case atStart => exact ⟨0, by omega, rfl, ⟨_, _, rfl⟩, H1⟩
      case round =>
        obtain ⟨m, hm, rfl, ⟨A, cc, rfl⟩, hs⟩ := hrel
        by_cases hlt : m < 8
        · have hi0 : (0 : Int) ≤ 7 - (m : Int) := by omega
          have hi1 : 7 - (m : Int) ≤ 7 := by omega
          go_wp2_with (at_builtin; refine append_grow rfl rfl (.tmp 45) (.tmp 51) rfl _ (b ++ padZ j ++ lenN b.length m) [lenAt b.length m] 1 rfl _ (by rw [lenAt_value]; rfl) rfl rfl hs.out (by have := HL.out; rw [List.length_append, List.length_append, padZ_length, lenN_length]; simp; omega) ?_; intro v' w' hG)
          have HG := Aside0.mk (show Grow w3 w' v' (b ++ padZ j ++ lenN b.length (m + 1)) by rw [lenN, ← List.append_assoc]; exact hG)
          have hsh := HG.out.shape
          rw [List.length_append, List.length_append, padZ_length, lenN_length] at hsh
          clear hG
          go_roundw
          case rel => exact ⟨m + 1, by omega, by go_num, hsh, HG⟩
          case measure => simp [intOf]; omega
        · have hm8 : m = 8 := by omega
          have hp : b ++ padZ j ++ lenN b.length m = b ++ padL b.length := by rw [hm8, HZ.out, padL_eq, List.append_assoc]
          have hi0 : ¬ (0 : Int) ≤ 7 - (m : Int) := by omega
          obtain ⟨T, hT⟩ : ∃ T, T = b ++ padL b.length := ⟨_, rfl⟩
          have hTl : T.length = b.length + (zerosN b.length + 9) := by rw [hT, List.length_append, padL_length]
          have hTn : b.length + (j + 1) + m = T.length := by rw [hTl, ← HZ.out]; omega
          have hG := hs.out
          rw [hp, ← hT, hTn] at hG
          obtain ⟨gm, c9, cur, he, hc9, hgm, hcur, hgm3⟩ := hG.block (by omega)
          cases he
          rw [hTn]
          have hT64 : ∃ N, T.length = 64 * N := ⟨T.length / 64, by rw [hTl]; unfold zerosN; omega⟩
          obtain ⟨N, hN⟩ := hT64
          have hN1 : (N : Int) ≤ 17000000000 := by have := HL.out; have := zerosN_lt b.length; omega
          have HT := Aside0.mk (And.intro hT hN)
          have HCUR := Aside0.mk hcur
          have HGM := Aside0.mk (And.intro hgm3 hc9)
          have hlow : Below w3.heap.size w3 wr := hG.2
          have H0 := Aside0.mk (show RE w gm cur w1.heap.size w2.heap.size (blocksL St0 0 T) wr from ⟨hgm, below_heap hlow H3.out.2.1, below_heap hlow H3.out.1, below_step HBW.out hlow⟩)
          have hg34 : w1.heap.size < w2.heap.size ∧ w2.heap.size < w3.heap.size ∧ w.heap.size ≤ w1.heap.size := ⟨blk_lt H2.out.1, blk_lt H3.out.1, HB1.out.size⟩
          have HG34 := Aside0.mk hg34
          have HTM := Aside0.mk (show (T.length : Int) = 64 * (N : Int) by omega)
          clear hg34 hs hp hm8 H1 hT hTl hG hc9 hgm hcur hgm3 hlow hN hm hlt hTn
          go_wp2_with fail
          obtain ⟨wp, rfl⟩ : ∃ wp : World, wp = wr := ⟨_, rfl⟩
          go_loopw [8] (fun i wr => ∃ q : Nat, q ≤ N ∧ i = .int .i64 (64 * (q : Int)) ∧ Aside0 (RE w gm cur w1.heap.size w2.heap.size (blocksL St0 q T) wr)) (fun i wr => (64 * (N : Int) - intOf i).toNat)
          case atStart => exact ⟨0, by omega, rfl, H0⟩
          case round =>
            obtain ⟨q, hq, rfl, hs⟩ := hrel
            clear H0
            by_cases hlt : q < N
            · have hd : (64 * (q : Int)) + 64 ≤ (T.length : Int) := by have := HTM.out; omega
              have hd2 : 64 * q + 64 ≤ T.length := by omega
              have dB : decide (64 * (q : Int) < (T.length : Int)) = true := by simp; omega
              have hq1 : (q : Int) ≤ 17000000000 := by omega
              have hG := hs.out.2.2.2.size
              obtain ⟨wb, hwb⟩ : ∃ wb : World, wb = wr := ⟨_, rfl⟩
              rw [← hwb] at hs hG ⊢
              have HF0 : ∀ w', w' = wb.alloc (.cells ((filled (blkL T q) 0).map qv).toArray 59) → Aside0 (w'.heap[wb.heap.size]? = some (.cells ((filled (blkL T q) 0).map qv).toArray 59 (0, 0)) ∧ RE w gm cur w1.heap.size w2.heap.size (blocksL St0 q T) w') := fun w' hw => by
                subst hw
                exact ⟨heap_new rfl, hs.out.below ((Below.refl _ _).alloc (Nat.le_refl _) _)⟩
              have HF0 := Aside0.mk HF0
              have HGE := Aside0.mk (show gm ≠ wb.heap.size ∧ w1.heap.size ≠ wb.heap.size ∧ w2.heap.size ≠ wb.heap.size ∧ w.heap.size ≤ wb.heap.size from ⟨Nat.ne_of_lt (blk_lt hs.out.1), Nat.ne_of_lt (blk_lt hs.out.2.1), Nat.ne_of_lt (blk_lt hs.out.2.2.1), hG⟩)
              clear hwb hs hG
              go_wp2_with fail
              refine l4_loop _ w gm w1.heap.size w2.heap.size wb.heap.size cur T q (blocksL St0 q T) cc _ _ _ _ _ _ _ _ _ _ _ _ _ _ _ _ _ _ _ _ _ _ _ _ _ _ _ _ _ _ _ _ _ _ _ _ _ _ _ _ _ _ _ _ _ _ _ _ _ _ _ _ _ _ _ _ _ _ _ _ _ _ _ _ _ _ _ _ _ _ _ _ _ _ _ _ _ _ _ _ _ _ _ _ _ _ _ _ _ _ _ _ _ _ _ _ _ _ _ _ _ _ _ _ _ _ _ _ _ _ _ _ _ _ _ _ _ _ _ _ _ _ _ _ _ _ _ _ _ _ _ _ _ _ _ _ _ _ _ _ _ _ _ _ _ _ _ _ _ _ _ _ _ _ _ _ _ _ _ _ _ _ _ _ _ _ _ _ _ _ _ _ _ _ _ _ _ _ _ _ _ _ _ _ _ _ _ _ _ _ _ _ _ _ _ _ _ _ _ _ _ _ _ _ _ _ _ _ _ _ _ _ _ _ _ _ _ _ _ _ _ _ _ _ _ _ _ _ _ _ _ _ _ _ _ _ _ _ _ _ _ _ _ _ _ _ _ _ _ _ _ _ _ _ _ _ _ _ _ _ _ _ _ _ _ _ _ _ _ _ _ _ _ _ _ _ _ _ _ HCUR.out hd2 (by have := HTM.out; omega) HGE.out (HF0.out _ rfl).out ?_
              iterate 47 (intro _)
              intro wc H5
              have H5 := Aside0.mk H5
              clear HF0
              go_wp2_with fail
              refine l5_loop _ w gm w1.heap.size w2.heap.size wb.heap.size cur T q (blocksL St0 q T) _ _ _ _ _ _ _ _ _ _ _ _ _ _ _ _ _ _ _ _ _ _ _ _ _ _ _ _ _ _ _ _ _ _ _ _ _ _ _ _ _ _ _ _ _ _ _ _ _ _ _ _ _ _ _ _ _ _ _ _ _ _ _ _ _ _ _ _ _ _ _ _ _ _ _ _ _ _ _ _ _ _ _ _ _ _ _ _ _ _ _ _ _ _ _ _ _ _ _ _ _ _ _ _ _ _ _ _ _ _ _ _ _ _ _ _ _ _ _ _ _ _ _ _ _ _ _ _ _ _ _ _ _ _ _ _ _ _ _ _ _ _ _ _ _ _ _ _ _ _ _ _ _ _ _ _ _ _ _ _ _ _ _ _ _ _ _ _ _ _ _ _ _ _ _ _ _ _ _ _ _ _ _ _ _ _ _ _ _ _ _ _ _ _ _ _ _ _ _ _ _ _ _ _ _ _ _ _ _ _ _ _ _ _ _ _ _ _ _ _ _ _ _ _ _ _ _ _ _ _ _ _ _ _ _ _ _ _ _ _ _ _ _ _ _ _ _ _ _ _ _ _ _ _ _ _ _ _ _ _ _ _ _ _ _ _ _ _ _ _ _ _ _ _ _ _ _ _ _ _ _ HGE.out H5.out ?_
              iterate 55 (intro _)
              intro wd hs
              have hf64 : (filled (blkL T q) 64) = sched (blkL T q) 64 := by unfold filled; simp
              rw [hf64] at hs
              obtain ⟨s0, hs0⟩ : ∃ s0, s0 = blocksL St0 q T := ⟨_, rfl⟩
              rw [← hs0] at hs
              have HS0 := Aside0.mk hs0
              have hG := blk_lt hs.1
              have HGV := Aside0.mk (show gm ≠ wd.heap.size ∧ w1.heap.size ≠ wd.heap.size ∧ w2.heap.size ≠ wd.heap.size ∧ wb.heap.size ≠ wd.heap.size ∧ w.heap.size ≤ wd.heap.size from ⟨Nat.ne_of_lt (blk_lt hs.2.1), Nat.ne_of_lt (blk_lt hs.2.2.1), Nat.ne_of_lt (blk_lt hs.2.2.2.1), Nat.ne_of_lt hG, hs.2.2.2.2.size⟩)
              have hs := Aside0.mk hs
              clear hf64 hs0 hG H5
              go_upto_region 26 with (first
                | (refine wpList_load_row rfl 53 (.tmp 4) rfl w2.heap.size (by rfl) 53 s0.vs (0, 0) _ hs.out.2.2.2.1 Try.underlying53 rfl info_w8 ?_)
                | (refine wpList_store_arr rfl 53 (.tmp 14) (.tmp 159) rfl wd.heap.size s0.vs _ 53 (by rfl) (by rfl) (heap_new rfl) rfl info_w8 (one_vs _) ?_
                   intro w6 hg6 hgr6
                   have hb6 : Below wd.heap.size wd w6 := ((Below.refl wd.heap.size wd).alloc (Nat.le_refl _) _).grown hgr6 (by simp) (fun k hk => by cases hk; exact Nat.le_refl _)
                   have H6 := Aside0.mk (show w6.heap[wd.heap.size]? = some (.cells (rnds (sched (blkL T q) 64) s0 0).vs 53 (0, 0)) ∧ w6.heap[wb.heap.size]? = some (.cells ((sched (blkL T q) 64).map qv).toArray 59 (0, 0)) ∧ RE w gm cur w1.heap.size w2.heap.size s0 w6 from ⟨hg6, below_heap hb6 hs.out.1, hs.out.2.below hb6⟩)
                   clear hg6 hgr6 hb6 hs))
              go_wp2_with fail
              refine l6_loop _ w gm w1.heap.size w2.heap.size wb.heap.size wd.heap.size cur T q s0 _ _ _ _ _ _ _ _ _ _ _ _ _ _ _ _ _ _ _ _ _ _ _ _ _ _ _ _ _ _ _ _ _ _ _ _ _ _ _ _ _ _ _ _ _ _ _ _ _ _ _ _ _ _ _ _ _ _ _ _ _ _ _ _ _ _ _ _ _ _ _ _ _ _ _ _ _ _ _ _ _ _ _ _ _ _ _ _ _ _ _ _ _ _ _ _ _ _ _ _ _ _ _ _ _ _ _ _ _ _ _ _ _ _ _ _ _ _ _ _ _ _ _ _ _ _ _ _ _ _ _ _ _ _ _ _ _ _ _ _ _ _ _ _ _ _ _ _ _ _ _ _ _ _ _ _ _ _ _ _ _ _ _ _ _ _ _ _ _ _ _ _ _ _ _ _ _ _ _ _ _ _ _ _ _ _ _ _ _ _ _ _ _ _ _ _ _ _ _ _ _ _ _ _ _ _ _ _ _ _ _ _ _ _ _ _ _ _ _ _ _ _ _ _ _ _ _ _ _ _ _ _ _ _ _ _ _ _ _ _ _ _ _ _ _ _ _ _ _ _ _ _ _ _ _ _ _ _ _ _ _ _ _ _ _ _ _ _ _ _ _ _ _ _ _ _ _ _ _ HGV.out H6.out ?_
              iterate 86 (intro _)
              intro we hs
              obtain ⟨t, ht⟩ : ∃ t, t = rnds (sched (blkL T q) 64) s0 64 := ⟨_, rfl⟩
              rw [← ht] at hs
              have HT7 := Aside0.mk ht
              have HN8 : gm ≠ w2.heap.size := by have := hs.2.2.1; have h2 := hs.2.2.2.2.1; intro e; rw [e, h2] at this; injection this with this; injection this with _ this; exact absurd this (by decide)
              have hg := HG34.out
              have H7 := Aside0.mk (show (gm ≠ w2.heap.size ∧ w1.heap.size ≠ w2.heap.size ∧ w2.heap.size ≠ wd.heap.size ∧ w.heap.size ≤ w2.heap.size) ∧ we.heap[w2.heap.size]? = some (.cells ((part s0 t 0).map qv).toArray 53 (0, 0)) ∧ we.heap[wd.heap.size]? = some (.cells (t.l.map qv).toArray 53 (0, 0)) ∧ we.heap[gm]? = some (.cells cur 5 (0, 0)) ∧ we.heap[w1.heap.size]? = some (.cells (Ks.map qv).toArray 59 (0, 0)) ∧ Below w.heap.size w we from
                ⟨⟨HN8, by omega, HGV.out.2.2.1, by omega⟩, hs.2.2.2.2.1, hs.1, hs.2.2.1, hs.2.2.2.1, hs.2.2.2.2.2⟩)
              clear hs ht HN8 hg H6
              go_wp2_with fail
              refine l7_loop _ w gm w1.heap.size w2.heap.size wd.heap.size cur s0 t _ _ _ _ _ _ _ _ _ _ _ _ _ _ _ _ _ _ _ _ _ _ _ _ _ _ _ _ _ _ _ _ _ _ _ _ _ _ _ _ _ _ _ _ _ _ _ _ _ _ _ _ _ _ _ _ _ _ _ _ _ _ _ _ _ _ _ _ _ _ _ _ _ _ _ _ _ _ _ _ _ _ _ _ _ _ _ _ _ _ _ _ _ _ _ _ _ _ _ _ _ _ _ _ _ _ _ _ _ _ _ _ _ _ _ _ _ _ _ _ _ _ _ _ _ _ _ _ _ _ _ _ _ _ _ _ _ _ _ _ _ _ _ _ _ _ _ _ _ _ _ _ _ _ _ _ _ _ _ _ _ _ _ _ _ _ _ _ _ _ _ _ _ _ _ _ _ _ _ _ _ _ _ _ _ _ _ _ _ _ _ _ _ _ _ _ _ _ _ _ _ _ _ _ _ _ _ _ _ _ _ _ _ _ _ _ _ _ _ _ _ _ _ _ _ _ _ _ _ _ _ _ _ _ _ _ _ _ _ _ _ _ _ _ _ _ _ _ _ _ _ _ _ _ _ _ _ _ _ _ _ _ _ _ _ _ _ _ _ _ _ _ _ _ _ _ _ _ _ _ H7.out.1 H7.out.2 ?_
              iterate 13 (intro _)
              intro wg hs
              have hsf : s0.add t = blocksL St0 (q + 1) T := by
                rw [blocksL_succ, ← HS0.out]
                show _ = stepL s0 (blkL T q)
                unfold stepL
                rw [← HT7.out]
                simp [St.add, UInt32.add_comm]
              have H9 := Aside0.mk (show RE w gm cur w1.heap.size w2.heap.size (blocksL St0 (q + 1) T) wg from ⟨hs.2.2.1, hs.2.2.2.1, by rw [hs.1, part_eight, hsf]; rfl, hs.2.2.2.2⟩)
              clear hsf hs H7
              go_wp2_with fail
              go_roundw
              case rel => first | exact ⟨q + 1, by omega, by go_num, H9⟩ | ((repeat apply Exists.intro); exact ⟨⟨q + 1, by omega, by go_num, H9⟩, rfl⟩)
              case measure => simp [intOf]; omega
            · have hqN : q = N := by omega
              have hge : ¬ (64 * (q : Int)) < (T.length : Int) := by have := HTM.out; omega
              have hfin : blocksL St0 q T = stL T := by rw [stL, hqN]; congr 1; have := HT.out.2; omega
              obtain ⟨S, hS⟩ : ∃ S, S = stL T := ⟨_, rfl⟩
              rw [hfin, ← hS] at hs
              have HSS := Aside0.mk hS
              obtain ⟨wf, rfl⟩ : ∃ wf : World, wf = wr := ⟨_, rfl⟩
              have H8 := Aside0.mk (show wf.heap[w2.heap.size]? = some (.cells S.vs 53 (0, 0)) ∧ Below w.heap.size w wf from ⟨hs.out.2.2.1, hs.out.2.2.2⟩)
              clear hs hS hfin hqN hlt
              go_wp2_with fail
              refine l8_loop _ w2.heap.size S _ _ _ _ _ _ _ _ _ _ _ _ _ _ _ _ _ _ _ _ _ _ _ _ _ _ _ _ _ _ _ _ _ _ _ _ _ _ _ _ _ _ _ _ _ _ _ _ _ _ _ _ _ _ _ _ _ _ _ _ _ _ _ _ _ _ _ _ _ _ _ _ _ _ _ _ _ _ _ _ _ _ _ _ _ _ _ _ _ _ _ _ _ _ _ _ _ _ _ _ _ _ _ _ _ _ _ _ _ _ _ _ _ _ _ _ _ _ _ _ _ _ _ _ _ _ _ _ _ _ _ _ _ _ _ _ _ _ _ _ _ _ _ _ _ _ _ _ _ _ _ _ _ _ _ _ _ _ _ _ _ _ _ _ _ _ _ _ _ _ _ _ _ _ _ _ _ _ _ _ _ _ _ _ _ _ _ _ _ _ _ _ _ _ _ _ _ _ _ _ _ _ _ _ _ _ _ _ _ _ _ _ _ _ _ _ _ _ _ _ _ _ _ _ _ _ _ _ _ _ _ _ _ _ _ _ _ _ _ _ _ _ _ _ _ _ _ _ _ _ _ _ _ _ _ _ _ _ _ _ _ _ _ _ _ _ _ _ _ _ _ _ _ _ _ _ _ _ _ _ H8.out.1 ?_
              intro u21
              iterate 26 (intro _)
              intro wh hs2
              have HS2 := Aside0.mk hs2
              clear hs2
              go_wp2_with fail
              go_ret
              have hfin : outL S 8 = shaL b := by rw [outL_eight, HSS.out, shaL_eq, HT.out.1]
              have hs2 := HS2.out
              rw [hfin] at hs2
              exact ⟨_, rfl, own_mono hs2.1 H8.out.2.size, below_step H8.out.2 hs2.2⟩
end Go.Proofs.Ytjoljmkedghcbaa
