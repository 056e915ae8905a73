/-
  merkle.Leaf, node, Leaves: sums of marked pieces. No condition but that what comes in can be read and is none too long.
-/
import Derived.Test.YtdikconhdbopdaaMerWords
import Derived.Test.YtdikconhdbopdaaLeaf1
import Derived.Test.YtdikconhdbopdaaMerPure
import Derived.Test.YtdikconhdbopdaaDigB
import Derived.Test.YtdikconhdbopdaaBlock
namespace Go.Proofs.Ytdikconhdbopdaa
open Go.RowKit
set_option linter.unusedVariables false
set_option linter.unusedSimpArgs false

set_option maxHeartbeats 1000000 in
theorem node_calls {b0 : Nat} {u v : Value} {a b : List UInt8} (w : World) (hu : Sl bv 5 w b0 u a) (hv : Sl bv 5 w b0 v b) (hb0 : b0 ≤ w.heap.size) (hl : a.length + b.length ≤ 999999999999) :
    Calls Try.prog 49 #[u, v] w fun e w' => ∃ v', e = .returned v' ∧ w'.ownsRow w.heap.size 5 1 v' (nodeL a b).length ((nodeL a b).map bv) ∧ Below w.heap.size w w' := by
  have HV := Aside0.mk hv
  have HU := Aside0.mk hu
  have HL := Aside0.mk hl
  obtain ⟨A, c, rfl, hc, hm, _⟩ := hv
  obtain ⟨A', c', rfl, hc', hm', _⟩ := hu
  go_enter Try.func49, Try.ntmps49
  go_wp2_with fail
  have hB2 : Below w.heap.size w ((w.alloc (.cells #[Value.int .u8 1] 5)).alloc (.cells #[.slice (some ⟨w.heap.size, 0, none⟩) 1 1, .slice A' a.length c', .slice A b.length c] 22)) := ((Below.refl _ _).alloc (Nat.le_refl _) _).alloc (by simp) _
  refine (dsum_calls (b0 := b0) (L := [[1], a, b]) _ (three_list (heap_new (by simp)) (Sl.at (heap_old (heap_new rfl)) rfl rfl (by decide) (by decide)) (HU.out.below hB2) (HV.out.below hB2)) (by simp; omega) (by simp; have := HL.out; omega)).mono ?_
  rintro e w2 ⟨v2, rfl, hown2, hb2⟩
  have e1 : shaL (List.flatten [[1], a, b]) = nodeL a b := by simp [nodeL]
  rw [e1] at hown2
  have HO := Aside0.mk (And.intro hown2 (below_step hB2 hb2))
  clear hown2 hb2 hB2 e1
  go_wp2_with fail
  go_ret
  exact ⟨_, rfl, own_mono HO.out.1 (by simp; omega), HO.out.2⟩

/-- All blocks' sums. -/
def leavesN (data : List UInt8) (block : Int) (n : Nat) : List (List UInt8) := (List.range n).map fun k : Nat => leafL (blockL data block (k : Int))
def leavesL (data : List UInt8) (block : Int) : List (List UInt8) := leavesN data block (cnt data.length block).toNat
theorem leavesN_succ (data : List UInt8) (block : Int) (n : Nat) : leavesN data block (n + 1) = leavesN data block n ++ [leafL (blockL data block n)] := by
  simp [leavesN, List.range_succ]
theorem leavesN_length (data : List UInt8) (block : Int) (n : Nat) : (leavesN data block n).length = n := by simp [leavesN]
theorem leavesL_length (data : List UInt8) (block : Int) : (leavesL data block).length = (cnt data.length block).toNat := leavesN_length _ _ _

set_option maxHeartbeats 1000000 in
theorem leaves_calls {e b0 : Nat} {v : Value} {data : List UInt8} (block : Int) (w : World) (hv : Sl bv e w b0 v data) (hb : -9223372036854775808 ≤ block ∧ block ≤ 9223372036854775807) (hd : data.length ≤ 999999999999) :
    Calls Try.prog 23 #[v, .int .i64 block] w fun e w' => ∃ v', e = .returned v' ∧ OwnL w' w.heap.size v' (leavesL data block) ∧ Below w.heap.size w w' := by
  have HV := Aside0.mk hv
  have HD := Aside0.mk hd
  obtain ⟨A, c, rfl, hc, hl, hR⟩ := hv
  clear hR
  have HG := Aside0.mk (cnt_bd data.length block)
  go_enter Try.func23, Try.ntmps23
  go_wp2_with fail
  refine (count_calls _ _ _ (by omega) hb).mono ?_
  rintro e w' ⟨rfl, rfl⟩
  generalize hq : cnt data.length block = q at *
  obtain ⟨hq0, hq1⟩ := HG.out
  have HQ := Aside0.mk hq
  clear hq HG
  go_wp2_with fail
  go_loopw [4, 10] (fun v i wr => ∃ n : Nat, (n : Int) ≤ q ∧ i = .int .i64 n ∧ Aside0 (OwnL wr w.heap.size v (leavesN data block n) ∧ Below w.heap.size w wr)) (fun v i wr => (q - intOf i).toNat)
  case atStart => exact ⟨0, by omega, rfl, ⟨OwnL.nil _ _, Below.refl _ _⟩⟩
  case round =>
    obtain ⟨n, hn, rfl, hs⟩ := hrel
    by_cases hlt : (n : Int) < q
    · go_wp2_with fail
      refine (block_calls _ _ _ (HV.out.below hs.out.2) hb).mono ?_
      rintro e w1 ⟨v1, rfl, hown1, hb1⟩
      have HO1 := Aside0.mk (And.intro hown1 (below_step hs.out.2 hb1))
      have HL1 := Aside0.mk (hs.out.1.below hb1)
      have HBL := Aside0.mk (blockL_length data block (n : Int))
      clear hown1 hb1
      go_wp2_with fail
      refine (leaf_calls _ (Sl.of_own (b := 0) HO1.out.1) (Nat.zero_le _) (by have := HBL.out; have := HD.out; omega)).mono ?_
      rintro e w2 ⟨v2, rfl, hown2, hb2⟩
      obtain ⟨A', c', rfl, _⟩ := Sl.of_own (b := w.heap.size) hown2
      have HO2 := Aside0.mk (Sl.of_own (b := w.heap.size) hown2)
      have HB2 := Aside0.mk (below_step HO1.out.2 hb2)
      have HL2 := Aside0.mk (HL1.out.below hb2)
      have HLL := Aside0.mk (leavesN_length data block n)
      clear hown2 hb2
      go_wp2_with (at_builtin; go_must (refine append_list rfl rfl (.tmp 13) (.tmp 19) rfl _ _ w2.heap.size 1 22 (0, 0) rfl rfl (HL2.out.below ((Below.refl _ _).alloc (Nat.le_refl _) _)) (heap_new rfl) (HO2.out.below ((Below.refl _ _).alloc (Nat.le_refl _) _)) (by rw [HLL.out]; omega) (by have := HB2.out.size; simp; omega) ?_); intro v3 w3 hl3 hg3 hsh)
      have H3 := Aside0.mk (show OwnL w3 w.heap.size v3 (leavesN data block (n + 1)) ∧ Below w.heap.size w w3 from
        ⟨by rw [leavesN_succ]; exact hl3, (HB2.out.alloc HB2.out.size _).grown hg3 (by have := HB2.out.size; simp; omega) (OwnL.base_le hs.out.1)⟩)
      clear hl3 hg3 hsh
      go_roundw
      case rel => exact ⟨n + 1, by omega, by go_num, H3⟩
      case measure => simp [intOf]; omega
    · have hnq : n = q.toNat := by omega
      have HNQ := Aside0.mk hnq
      clear hnq
      go_wp2_with fail
      go_ret
      exact ⟨_, rfl, by rw [leavesL, HQ.out, ← HNQ.out]; exact hs.out.1, hs.out.2⟩
end Go.Proofs.Ytdikconhdbopdaa
