/-
  The schedule of a block. No condition but that the slice has 64 bytes.
-/
import Derived.Test.YtjoljmkedghcbaaDigSpec
import Derived.Test.YtjoljmkedghcbaaArr
import Derived.StillTailTactics
namespace Go.Proofs.Ytjoljmkedghcbaa
open Go.RowKit
set_option linter.unusedVariables false
set_option linter.unusedSimpArgs false

theorem info_u32x64 : (Try.prog.info? 59).map (·.size) = some 64 := by kernel_rfl
theorem one_qv (l : List UInt32) : ((l.map qv).toArray).all (·.oneCell') = true := by
  rw [Array.all_eq_true_iff_forall_mem]
  intro v hv
  rw [List.mem_toArray, List.mem_map] at hv
  obtain ⟨x, _, rfl⟩ := hv
  rfl

theorem cell_keep' {B : Nat} {w w1 : World} (hb : Below B w w1) {a : Addr} {j : Nat} {v : Value} (hB : a.block < B) (h : w.cell? (a.add j) = some v) : w1.cell? (a.add j) = some v := (hb.cell (by rw [add_eq]; exact hB)).trans h
theorem q_sum4 (a b c d : UInt32) : ((a.toNat : Int) + (b.toNat : Int) + (c.toNat : Int) + (d.toNat : Int)) % 4294967296 = ((a + b + c + d).toNat : Int) := by
  simp only [UInt32.toNat_add, Nat.reducePow]; omega
theorem next_eq (x16 x15 x7 x2 : UInt32) : ((x16.toNat : Int) + bits .xor .u32 (bits .xor .u32 ((rotr x15 7).toNat : Int) ((rotr x15 18).toNat : Int)) ((x15.toNat : Int) / 8) + (x7.toNat : Int) + bits .xor .u32 (bits .xor .u32 ((rotr x2 17).toNat : Int) ((rotr x2 19).toNat : Int)) ((x2.toNat : Int) / 1024)) % 4294967296 = ((x16 + (rotr x15 7 ^^^ rotr x15 18 ^^^ x15 >>> UInt32.ofNat 3) + x7 + (rotr x2 17 ^^^ rotr x2 19 ^^^ x2 >>> UInt32.ofNat 10)).toNat : Int) := by
  have e1 := q_shr x15 3 (by omega)
  have e2 := q_shr x2 10 (by omega)
  rw [show (8 : Int) = 2 ^ 3 from rfl, show (1024 : Int) = 2 ^ 10 from rfl, e1, e2]
  simp only [q_xor]
  exact q_sum4 _ _ _ _
/-- The words so far, and nothing behind them. -/
def filled (b : List UInt8) (k : Nat) : List UInt32 := sched b k ++ List.replicate (64 - k) 0
theorem filled_length (b : List UInt8) (k : Nat) (h : k ≤ 64) : (filled b k).length = 64 := by
  rw [filled, List.length_append, sched_length, List.length_replicate]; omega
theorem filled_at (b : List UInt8) (k j : Nat) (h : j < k) : ((filled b k).map qv).toArray[j]? = some (.int .u32 (((sched b k).getD j 0).toNat : Int)) := by
  have hl := sched_length b k
  simp only [filled, List.getElem?_toArray, List.map_append, List.getElem?_append]
  rw [if_pos (by rw [List.length_map]; omega), List.getElem?_map, List.getD_eq_getElem?_getD, List.getElem?_eq_getElem (by omega)]
  rfl
theorem filled_set (b : List UInt8) (k : Nat) (h : k < 64) (x : UInt32) (hx : x = if k < 16 then wordAt b k else nextW (sched b k) k) : ((filled b k).map qv).toArray.setIfInBounds k (.int .u32 (x.toNat : Int)) = ((filled b (k + 1)).map qv).toArray := by
  have hl := sched_length b k
  apply Array.ext'
  rw [Array.toList_setIfInBounds]
  simp only [filled, List.map_append]
  rw [List.set_append_right _ _ (by rw [List.length_map]; omega), List.length_map, hl, Nat.sub_self, sched, ← hx, List.map_append, List.append_assoc]
  congr 1
  rw [show 64 - k = 64 - (k + 1) + 1 by omega, List.replicate_succ]
  rfl

set_option maxHeartbeats 1000000 in
set_option maxRecDepth 100000 in
theorem spread_calls {e b0 : Nat} {v : Value} {x : List UInt8} (w : World) (hv : Sl bv e w b0 v x) (hx : x.length = 64) :
    Calls Try.prog 48 #[v] w fun e w' => e = .returned (.agg ((sched x 64).map qv).toArray) ∧ Below w.heap.size w w' := by
  have HV := Aside0.mk hv
  obtain ⟨A, c, rfl, hc, hl, hR⟩ := hv
  rcases A with _ | ad
  · obtain ⟨ad, h1, _⟩ := hR.getD 0 (by rw [List.length_map]; omega)
    cases h1
  have HC : Aside0 (∀ j, j < 64 → w.cell? (ad.add j) = some (.int .u8 ((x.getD j 0).toNat : Int))) := ⟨fun j hj => by
    obtain ⟨ad', h1, h2⟩ := hR.cell j (bv (x[j]'(by omega))) (by rw [List.getElem?_map, List.getElem?_eq_getElem]; rfl)
    cases h1
    rw [h2]; simp [bv, List.getElem?_eq_getElem (show j < x.length by omega)]⟩
  have HX := Aside0.mk hx
  rw [hx] at hc ⊢
  have hadl : ad.block < w.heap.size := hR.lt rfl (by rintro h; have := congrArg List.length h; simp at this; rw [this] at hx; simp at hx)
  clear hR hl hx
  go_enter Try.func48, Try.ntmps48
  go_wp2_with fail
  have H0 := Aside0.mk (show (w.alloc (.cells ((filled x 0).map qv).toArray 59)).heap[w.heap.size]? = some (.cells ((filled x 0).map qv).toArray 59 (0, 0)) ∧ Below w.heap.size w (w.alloc (.cells ((filled x 0).map qv).toArray 59)) from ⟨heap_new rfl, (Below.refl _ _).alloc (Nat.le_refl _) _⟩)
  go_loopw [6] (fun i wr => ∃ k : Nat, k ≤ 64 ∧ i = .int .i64 k ∧ Aside0 (wr.heap[w.heap.size]? = some (.cells ((filled x k).map qv).toArray 59 (0, 0)) ∧ Below w.heap.size w wr)) (fun i wr => 64 - (intOf i).toNat)
  case atStart => exact ⟨0, by omega, rfl, H0⟩
  case round =>
    obtain ⟨k, hk, rfl, hs⟩ := hrel
    clear H0
    obtain ⟨hcs, hfs⟩ := blk hs.out.1
    have hfs' : wr.frozen? ⟨w.heap.size, k, none⟩ = false := hfs k
    have HCS := Aside0.mk hcs
    clear hcs hfs
    by_cases h16 : k < 16
    · have hlt : k < 64 := by omega
      have hck : wr.cell? ⟨w.heap.size, k, none⟩ = some (.int .u32 0) := by
        rw [HCS.out]
        simp only [filled, List.getElem?_toArray, List.map_append, List.getElem?_append]
        rw [if_neg (by rw [List.length_map, sched_length]; omega), List.length_map, sched_length, Nat.sub_self, show 64 - k = 63 - k + 1 by omega]
        rfl
      have HW : ∀ j, 4 * k + j < 64 → wr.cell? (ad.add (4 * k + j)) = some (.int .u8 ((x.getD (4 * k + j) 0).toNat : Int)) := fun j hj => cell_keep' hs.out.2 hadl (HC.out _ hj)
      have h0 := HW 0 (by omega)
      have h1 := HW 1 (by omega)
      have h2 := HW 2 (by omega)
      have h3 := HW 3 (by omega)
      have HCW := Aside0.mk (And.intro h0 (And.intro h1 (And.intro h2 h3)))
      clear HW h0 h1 h2 h3
      go_wp2_with fail
      refine (word_calls (ad.add (4 * k)) (64 - 4 * k) (c - 4 * k) (by omega) (by omega) (x.getD (4 * k) 0) (x.getD (4 * k + 1) 0) (x.getD (4 * k + 2) 0) (x.getD (4 * k + 3) 0) wr HCW.out.1 ?_ ?_ ?_).mono ?_
      · rw [← HCW.out.2.1, ← add_add]; rfl
      · rw [← HCW.out.2.2.1, ← add_add]; rfl
      · rw [← HCW.out.2.2.2, ← add_add]; rfl
      rintro e w' ⟨rfl, n, rfl⟩
      go_wp2_with fail
      go_roundw
      case rel => exact ⟨k + 1, by omega, by go_num, ⟨by
        rw [← filled_set x k hlt (wordAt x k) (by rw [if_pos h16])]
        exact arr_set (w := wr.drewN n) hs.out.1, (below_drewN hs.out.2 n).setCell (by simp) _⟩⟩
      case measure => simp [intOf]; omega
    · by_cases hlt : k < 64
      · have h16' : 16 ≤ k := by omega
        have c15 : wr.cell? ⟨w.heap.size, k - 15, none⟩ = _ := (HCS.out (k - 15)).trans (filled_at x k (k - 15) (by omega))
        have c16 : wr.cell? ⟨w.heap.size, k - 16, none⟩ = _ := (HCS.out (k - 16)).trans (filled_at x k (k - 16) (by omega))
        have c2 : wr.cell? ⟨w.heap.size, k - 2, none⟩ = _ := (HCS.out (k - 2)).trans (filled_at x k (k - 2) (by omega))
        have c7 : wr.cell? ⟨w.heap.size, k - 7, none⟩ = _ := (HCS.out (k - 7)).trans (filled_at x k (k - 7) (by omega))
        have hck : wr.cell? ⟨w.heap.size, k, none⟩ = some (.int .u32 0) := by
          rw [HCS.out]
          simp only [filled, List.getElem?_toArray, List.map_append, List.getElem?_append]
          rw [if_neg (by rw [List.length_map, sched_length]; omega), List.length_map, sched_length, Nat.sub_self, show 64 - k = 63 - k + 1 by omega]
          rfl
        obtain ⟨N, hN⟩ : ∃ N, N = nextW (sched x k) k := ⟨_, rfl⟩
        have HN := Aside0.mk hN
        unfold nextW at hN
        generalize (sched x k).getD (k - 15) 0 = x15 at *
        generalize (sched x k).getD (k - 16) 0 = x16 at *
        generalize (sched x k).getD (k - 2) 0 = x2 at *
        generalize (sched x k).getD (k - 7) 0 = x7 at *
        have HNN := Aside0.mk hN
        clear hN
        go_wp2_with fail
        go_quiet (fail)
        have hs2 := hs.out
        have hc15 := c15
        obtain ⟨wq, hwq⟩ : ∃ wq, wq = wr.drewN nq := ⟨_, rfl⟩
        have hs3 : wq.heap[w.heap.size]? = some (.cells ((filled x k).map qv).toArray 59 (0, 0)) ∧ Below w.heap.size w wq := by rw [hwq]; exact ⟨hs2.1, below_drewN hs2.2 nq⟩
        have HS3 := Aside0.mk hs3
        rw [← hwq]
        have d15 : wq.cell? ⟨w.heap.size, k - 15, none⟩ = some (.int .u32 (x15.toNat : Int)) := by rw [hwq]; exact c15
        have d16 : wq.cell? ⟨w.heap.size, k - 16, none⟩ = some (.int .u32 (x16.toNat : Int)) := by rw [hwq]; exact c16
        have d2 : wq.cell? ⟨w.heap.size, k - 2, none⟩ = some (.int .u32 (x2.toNat : Int)) := by rw [hwq]; exact c2
        have d7 : wq.cell? ⟨w.heap.size, k - 7, none⟩ = some (.int .u32 (x7.toNat : Int)) := by rw [hwq]; exact c7
        have dk : wq.cell? ⟨w.heap.size, k, none⟩ = some (.int .u32 0) := by rw [hwq]; exact hck
        have df : wq.frozen? ⟨w.heap.size, k, none⟩ = false := by rw [hwq]; exact hfs'
        have HWQ := Aside0.mk hwq
        clear hwq hs2 hs3 c15 hc15 c16 c2 c7 hck hfs'
        go_wp2_with fail
        have z1 : IntKind.i64.wrap ((k : Int) - 16) = (k : Int) - 16 := IntWalk.i64_in _ (by omega)
        have z2 : 0 ≤ (k : Int) - 16 := by omega
        have z3 : (k : Int) - 16 < 64 := by omega
        have z4 : ((k : Int) - 16).toNat = k - 16 := by omega
        have y1 : IntKind.i64.wrap ((k : Int) - 7) = (k : Int) - 7 := IntWalk.i64_in _ (by omega)
        have y2 : 0 ≤ (k : Int) - 7 := by omega
        have y3 : (k : Int) - 7 < 64 := by omega
        have y4 : ((k : Int) - 7).toNat = k - 7 := by omega
        have y5 : 7 ≤ (k : Int) := by omega
        have y6 : 7 ≤ k := by omega
        have x1 : (k : Int) < 64 := by omega
        go_still_tail 29, (by kernel_rfl)
        still_call (turn_at x15 7 7 rfl (by decide) (by decide) _)
        repeat still_step
        still_call (turn_at x15 18 18 rfl (by decide) (by decide) _)
        repeat still_step
        still_call (turn_at x2 17 17 rfl (by decide) (by decide) _)
        repeat still_step
        still_call (turn_at x2 19 19 rfl (by decide) (by decide) _)
        repeat still_step
        refine wpStill_nil ?_
        change wpList _ _ _ _ _ wq.drew
        have ck2 : wq.drew.cell? ⟨w.heap.size, k, none⟩ = some (.int .u32 0) := dk
        have cf2 : wq.drew.frozen? ⟨w.heap.size, k, none⟩ = false := df
        have H4 : wq.drew.heap[w.heap.size]? = some (.cells ((filled x k).map qv).toArray 59 (0, 0)) ∧ Below w.heap.size w wq.drew := ⟨HS3.out.1, HS3.out.2.drew⟩
        have H4 := Aside0.mk H4
        clear HS3 HWQ d15 d16 d2 d7 dk df z1 z2 z3 z4 y1 y2 y3 y4 y5 y6
        generalize wq.drew = w5 at *
        go_wp2_with fail
        rw [next_eq, ← HNN.out]
        refine ⟨⟨k + 1, by omega, by go_num, ⟨?_⟩⟩, by simp [intOf]; omega⟩
        rw [← filled_set x k hlt N (by rw [if_neg h16]; exact HN.out)]
        exact ⟨arr_set H4.out.1, H4.out.2.setCell (Nat.le_refl _) _⟩
      · obtain rfl : k = 64 := by omega
        have hsz : ((filled x 64).map qv).toArray.size = 64 := by rw [List.size_toArray, List.length_map, filled_length x 64 (by omega)]
        have hi : (Try.prog.info? 59).map (·.size) = some ((filled x 64).map qv).toArray.size := by rw [hsz]; exact info_u32x64
        have h1c := one_qv (filled x 64)
        have hf64 : (filled x 64) = sched x 64 := by unfold filled; simp
        have HF0 := Aside0.mk hf64
        have HF := Aside0.mk (And.intro hsz (And.intro hi h1c))
        have hg := hs.out.1
        have hb := hs.out.2
        clear hsz hi h1c hf64 hs HCS hfs' HC HV HX
        generalize hcs : ((filled x 64).map qv).toArray = cs at *
        rw [HF0.out] at hcs
        have HCS := Aside0.mk hcs
        clear hcs HF0
        go_wp2_with (first | (refine wpList_load_row rfl 59 (.tmp 2) rfl w.heap.size rfl 59 cs (0, 0) _ hg Try.underlying59 rfl HF.out.2.1 ?_) | (refine wpList_store_arr rfl 59 (.tmp 2) (.tmp 56) rfl w.heap.size cs cs 59 rfl rfl hg rfl HF.out.2.1 HF.out.2.2 ?_; intro w' hg' hgr'))
        exact bodyPost_ret (v := .agg cs) (results_cell_row rfl _ _ w.heap.size 59 cs (0, 0) _ rfl hg' Try.underlying59 rfl HF.out.2.1) rfl ⟨by rw [HCS.out], hb.grown hgr' hb.size (fun k hk => by cases hk; exact Nat.le_refl _)⟩
end Go.Proofs.Ytjoljmkedghcbaa
