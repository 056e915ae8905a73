/-
  sidecar.Fit. No condition but that what comes in can be read.
-/
import Derived.Test.YtdikconhdbopdaaFitL
import Derived.Test.YtdikconhdbopdaaClone
namespace Go.Proofs.Ytdikconhdbopdaa
open Go.RowKit
set_option linter.unusedVariables false
set_option linter.unusedSimpArgs false

set_option maxHeartbeats 1000000 in
theorem fit_calls {e0 b0 : Nat} {v : Value} {data : List UInt8} (n : Nat) (w : World) (hv : Sl bv e0 w b0 v data) (hn : n ≤ 1000000) :
    Calls Try.prog 32 #[v, .int .i64 n] w fun e w' => ∃ v', e = .returned v' ∧ w'.ownsRow w.heap.size 5 1 v' (fitL data n).length ((fitL data n).map bv) ∧ Below w.heap.size w w' := by
  have HV := Aside0.mk hv
  obtain ⟨A, c, rfl, hc, hm, _⟩ := hv
  obtain ⟨i0, hi, hz0, hz1, hz2⟩ := info_parts info_u8
  have HFL := Aside0.mk (fitL_spl data n)
  go_enter Try.func32, Try.ntmps32
  go_wp2_with (first | (at_make; go_must (refine wpList_make_full _ rfl _ _ 22 rfl w.heap.size 5 i0 _ 1 Try.underlying22 hi hz0 hz1 _ _ _ _ n rfl rfl rfl rfl (by rw [hz2]; omega) (by simp only [maxLen]; omega) (Nat.le_refl _) ?_); intro w1 hown hgrow; have hz := made_bytes n; simp only [Value.cells, Nat.mul_one] at hown; rw [hz] at hown; clear hz; have H1 := Aside0.mk (show OwnB w1 w.heap.size (.slice (some ⟨w.heap.size, 0, none⟩) n n) (List.replicate n 0) ∧ Below w.heap.size w w1 from ⟨by unfold OwnB; simpa using hown, below_none hgrow⟩); clear hown hgrow) | ((with_reducible refine copy_bytes rfl ?hg (.tmp 8) (.tmp 9) ?ho (off := 0) (g := w.heap.size) (n := n) (cap := n) (x := List.replicate n 0) (u := .slice A data.length c) (y := data) (e := e0) (b0 := b0) (base := w.heap.size) (dp := some ⟨w.heap.size, 0, none⟩) (dLen := n) (dCap := n) ?hd ?hdp ?hown ?hoff ?hs ?hu ?hh); (case hg => rfl); (case ho => rfl); (case hd => rfl); (case hdp => intro _; rfl); (case hown => exact H1.out.1); (case hoff => simp); (case hs => rfl); (case hu => exact HV.out.below H1.out.2); intro m8 w8 ho8 hg8))
  rw [HFL.out] at ho8
  have H8 := Aside0.mk (And.intro ho8 (H1.out.2.grown hg8 H1.out.2.size (fun k hk => by cases hk; exact Nat.le_refl _)))
  clear ho8 hg8
  go_wp2_with fail
  go_ret
  exact ⟨_, rfl, H8.out.1, H8.out.2⟩
end Go.Proofs.Ytdikconhdbopdaa
