/-
  The reference's Leaf. No condition but that what comes in can be read and is none too long.
-/
import Derived.Test.YtdikconhdbopdaaMerPure
import Derived.Test.YtdikconhdbopdaaWordsL
import Derived.Test.YtdikconhdbopdaaDigC
import Derived.Test.YtdikconhdbopdaaRBlock
namespace Go.Proofs.Ytdikconhdbopdaa
section
open Go.RowKit
set_option linter.unusedVariables false
set_option linter.unusedSimpArgs false

/-- One byte in a block of its own. -/
theorem own_lit {w : World} {base g e : Nat} {x : UInt8} (h : w.heap[g]? = some (.cells #[.int .u8 (x.toNat : Int)] e (0, 0))) (hb : base ≤ g) : w.ownsRow base e 1 (.slice (some ⟨g, 0, none⟩) 1 1) [x].length ([x].map bv) :=
  ⟨by simp, .inr ⟨g, 1, _, rfl, hb, h, Nat.le_refl _, by simp [maxLen], by simp, by simp [bv]⟩⟩

set_option maxHeartbeats 1000000 in
theorem rleaf_calls {b0 : Nat} {v : Value} {b : List UInt8} (w : World) (hv : Sl bv 5 w b0 v b) (hl : b.length ≤ 999999999999) :
    Calls Try.prog 43 #[v] w fun e w' => ∃ v', e = .returned v' ∧ w'.ownsRow w.heap.size 5 1 v' (leafL b).length ((leafL b).map bv) ∧ Below w.heap.size w w' := by
  have HV := Aside0.mk hv
  have HL := Aside0.mk hl
  obtain ⟨A, c, rfl, hc, hm, _⟩ := hv
  have e1 : shaL ([0] ++ b) = leafL b := by simp [leafL]
  have HE := Aside0.mk e1
  clear e1
  go_enter Try.func43, Try.ntmps43
  go_wp2_with (at_builtin; go_must (refine append_row bv (fun _ => rfl) rfl (.tmp 3) (.tmp 4) 22 rfl w.heap.size 5 5 _ _ _ Try.underlying22 info_u8 rfl (by decide) _ [0] b _ rfl rfl (own_lit (heap_new rfl) (Nat.le_refl _)) (HV.out.below ((Below.refl _ _).alloc (Nat.le_refl _) _)) (by simp; omega) (by simp) ?_); intro v2 w2 hown hg _)
  have hB2 : Below w.heap.size w w2 := ((Below.refl _ _).alloc (Nat.le_refl _) _).grown hg (by simp) (fun k hk => by cases hk; exact Nat.le_refl _)
  have HO := Aside0.mk (And.intro (Sl.of_own (b := 0) hown) hB2)
  clear hown hg hB2
  refine (rsum_calls w2 HO.out.1 (by simp; have := HL.out; omega)).mono ?_
  rintro e w3 ⟨v3, rfl, hown3, hb3⟩
  rw [HE.out] at hown3
  have H3 := Aside0.mk (And.intro hown3 (below_step HO.out.2 hb3))
  clear hown3 hb3
  go_wp2_with fail
  go_ret
  exact ⟨_, rfl, own_mono H3.out.1 HO.out.2.size, H3.out.2⟩

end
end Go.Proofs.Ytdikconhdbopdaa
