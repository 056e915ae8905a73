/-
  parity.Build: each group's parity. No condition but that the slice can be read.
-/
import Derived.Test.YtplbmflgmfoanaaGroups
import Derived.Test.YtplbmflgmfoanaaOne
import Derived.Test.YtplbmflgmfoanaaLists
namespace Go.Proofs.Ytplbmflgmfoanaa
open Go.RowKit
set_option linter.unusedVariables false
set_option linter.unusedSimpArgs false

/-- Each group's parity. -/
def buildN (data : List UInt8) (block k : Int) (n : Nat) : List (List UInt8) := (List.range n).map fun g : Nat => oneL data block k (g : Int)
def buildL (data : List UInt8) (block k : Int) : List (List UInt8) := buildN data block k (grp data.length block k).toNat
theorem buildN_succ (data : List UInt8) (block k : Int) (n : Nat) : buildN data block k (n + 1) = buildN data block k n ++ [oneL data block k n] := by
  simp [buildN, List.range_succ]
theorem buildN_length (data : List UInt8) (block k : Int) (n : Nat) : (buildN data block k n).length = n := by simp [buildN]

set_option maxHeartbeats 1000000 in
theorem build_calls {e b0 : Nat} {v : Value} {data : List UInt8} (block k : Int) (w : World) (hv : Sl bv e w b0 v data) (hb : -9223372036854775808 ≤ block ∧ block ≤ 9223372036854775807) :
    Calls Try.prog 23 #[v, .int .i64 block, .int .i64 k] w fun e w' => ∃ v', e = .returned v' ∧ OwnL w' w.heap.size v' (buildL data block k) ∧ Below w.heap.size w w' := by
  have HV := Aside0.mk hv
  obtain ⟨A, c, rfl, hc, hl, hR⟩ := hv
  clear hR
  have HG := Aside0.mk (grp_bd data.length block k)
  have HO : Aside0 (∀ g : Nat, (g : Int) < grp data.length block k → (1 ≤ block ∧ block ≤ 4096) ∧ (1 ≤ k ∧ k ≤ 8)) := ⟨fun g hg => by
    unfold grp at hg
    split at hg
    · rename_i h; have := mayB_iff.1 h; omega
    · omega⟩
  go_enter Try.func23, Try.ntmps23
  go_wp2_with fail
  refine (groups_calls _ _ _ _ (by omega) hb).mono ?_
  rintro e w' ⟨rfl, rfl⟩
  generalize hq : grp data.length block k = q at *
  obtain ⟨hq0, hq1⟩ := HG.out
  have HQ := Aside0.mk hq
  clear hq HG
  go_wp2_with fail
  go_loopw [6, 13] (fun v i wr => ∃ n : Nat, (n : Int) ≤ q ∧ i = .int .i64 n ∧ Aside0 (OwnL wr w.heap.size v (buildN data block k n) ∧ Below w.heap.size w wr)) (fun v i wr => (q - intOf i).toNat)
  case atStart => exact ⟨0, by omega, rfl, ⟨OwnL.nil _ _, Below.refl _ _⟩⟩
  case round =>
    obtain ⟨n, hn, rfl, hs⟩ := hrel
    by_cases hlt : (n : Int) < q
    · obtain ⟨hbk, hkk⟩ := HO.out n hlt
      go_wp2_with fail
      refine (one_calls _ _ _ _ (HV.out.below hs.out.2) hbk hkk (by omega)).mono ?_
      rintro e w1 ⟨v', rfl, hown, hb1⟩
      obtain ⟨A', c', rfl, _⟩ := Sl.of_own (b := w.heap.size) hown
      have HO1 := Aside0.mk (Sl.of_own (b := w.heap.size) hown)
      have HB1 := Aside0.mk (below_step hs.out.2 hb1)
      have HL1 := Aside0.mk (hs.out.1.below hb1)
      have HLL := Aside0.mk (buildN_length data block k n)
      clear hown hb1
      go_wp2_with (at_builtin; go_must (refine append_list rfl rfl (.tmp 16) (.tmp 22) rfl _ _ w1.heap.size 1 22 (0, 0) rfl rfl (HL1.out.below ((Below.refl _ _).alloc (Nat.le_refl _) _)) (heap_new rfl) (HO1.out.below ((Below.refl _ _).alloc (Nat.le_refl _) _)) (by rw [HLL.out]; omega) (by have := HB1.out.size; simp; omega) ?_); intro v2 w2 hl2 hg2 hsh)
      have H2 := Aside0.mk (show OwnL w2 w.heap.size v2 (buildN data block k (n + 1)) ∧ Below w.heap.size w w2 from
        ⟨by rw [buildN_succ]; exact hl2, (HB1.out.alloc HB1.out.size _).grown hg2 (by have := HB1.out.size; simp; omega) (OwnL.base_le hs.out.1)⟩)
      clear hl2 hg2 hsh
      go_roundw
      case rel => exact ⟨n + 1, by omega, by go_num, H2⟩
      case measure => simp [intOf]; omega
    · have hnq : n = q.toNat := by omega
      have HNQ := Aside0.mk hnq
      clear hnq
      go_wp2_with fail
      go_ret
      exact ⟨_, rfl, by rw [buildL, HQ.out, ← HNQ.out]; exact hs.out.1, hs.out.2⟩
end Go.Proofs.Ytplbmflgmfoanaa
