/-
  The first state and the rounds' constants. No condition.
-/
import Derived.Test.YtjoljmkedghcbaaDigSpread
namespace Go.Proofs.Ytjoljmkedghcbaa
open Go.RowKit
set_option linter.unusedVariables false
set_option linter.unusedSimpArgs false

theorem info_state : (Try.prog.info? 54).map (·.size) = some 8 := by kernel_rfl
set_option maxRecDepth 100000 in
theorem first_calls (w : World) : Calls Try.prog 45 #[] w fun e w' => e = .returned (.agg St0.vs) ∧ Below w.heap.size w w' := by
  go_enter Try.func45, Try.ntmps45
  go_wp2
  refine bodyPost_ret (v := .agg St0.vs) (by simp [results, Try.results45, go_sem]; rfl) rfl ⟨rfl, ?_⟩
  exact (Below.refl _ _).alloc (Nat.le_refl _) _
set_option maxHeartbeats 2000000 in
set_option maxRecDepth 100000 in
theorem const_calls (w : World) : Calls Try.prog 47 #[] w fun e w' => e = .returned (.agg (Ks.map qv).toArray) ∧ Below w.heap.size w w' := by
  go_enter Try.func47, Try.ntmps47

  go_wp2_with (refine wpList_store_arr rfl 59 (.tmp 0) (.tmp 1) rfl w.heap.size (Ks.map qv).toArray _ 59 rfl (by kernel_rfl) (heap_new rfl) (by kernel_rfl) info_u32x64 (one_qv _) ?_; intro w' hg' hgr')

  refine bodyPost_ret (v := .agg (Ks.map qv).toArray) (results_cell_row rfl _ _ w.heap.size 59 _ (0, 0) _ rfl hg' Try.underlying59 rfl info_u32x64) rfl ⟨rfl, ?_⟩
  exact ((Below.refl _ _).alloc (Nat.le_refl _) _).grown hgr' (by simp) (fun k hk => by cases hk; exact Nat.le_refl _)
end Go.Proofs.Ytjoljmkedghcbaa
