/-
  merkle.Leaf: the sum of a marked piece. No condition but that what comes in can be read and is none too long.
-/
import Derived.Test.YtdikconhdbopdaaMerPure
import Derived.Test.YtdikconhdbopdaaWordsL
import Derived.Test.YtdikconhdbopdaaDigB
import Derived.Test.YtdikconhdbopdaaBlock
namespace Go.Proofs.Ytdikconhdbopdaa
open Go.RowKit
set_option linter.unusedVariables false
set_option linter.unusedSimpArgs false

set_option maxHeartbeats 1000000 in
theorem leaf_calls {b0 : Nat} {v : Value} {b : List UInt8} (w : World) (hv : Sl bv 5 w b0 v b) (hb0 : b0 ≤ w.heap.size) (hl : b.length ≤ 999999999999) :
    Calls Try.prog 39 #[v] w fun e w' => ∃ v', e = .returned v' ∧ w'.ownsRow w.heap.size 5 1 v' (leafL b).length ((leafL b).map bv) ∧ Below w.heap.size w w' := by
  have HV := Aside0.mk hv
  have HL := Aside0.mk hl
  obtain ⟨A, c, rfl, hc, hm, _⟩ := hv
  go_enter Try.func39, Try.ntmps39
  go_wp2_with fail
  have hB2 : Below w.heap.size w ((w.alloc (.cells #[Value.int .u8 0] 5)).alloc (.cells #[.slice (some ⟨w.heap.size, 0, none⟩) 1 1, .slice A b.length c] 22)) := ((Below.refl _ _).alloc (Nat.le_refl _) _).alloc (by simp) _
  refine (dsum_calls (b0 := b0) (L := [[0], b]) _ (two_list (heap_new (by simp)) (Sl.at (heap_old (heap_new rfl)) rfl rfl (by decide) (by decide)) (HV.out.below hB2)) (by simp; omega) (by simp; have := HL.out; omega)).mono ?_
  rintro e w2 ⟨v2, rfl, hown2, hb2⟩
  have e1 : shaL (List.flatten [[0], b]) = leafL b := by simp [leafL]
  rw [e1] at hown2
  have HO := Aside0.mk (And.intro hown2 (below_step hB2 hb2))
  clear hown2 hb2 hB2 e1
  go_wp2_with fail
  go_ret
  exact ⟨_, rfl, own_mono HO.out.1 (by simp; omega), HO.out.2⟩

end Go.Proofs.Ytdikconhdbopdaa
