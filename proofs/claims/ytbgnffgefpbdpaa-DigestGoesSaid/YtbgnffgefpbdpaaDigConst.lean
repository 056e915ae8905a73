/-
  The first state and the rounds' constants. No condition.
-/
import Derived.Test.YtbgnffgefpbdpaaDigSpread
namespace Go.Proofs.Ytbgnffgefpbdpaa
open Go.RowKit
set_option linter.unusedVariables false
set_option linter.unusedSimpArgs false

theorem info_state : (Try.prog.info? 28).map (·.size) = some 8 := by kernel_rfl
set_option maxRecDepth 100000 in
theorem first_calls (w : World) : Calls Try.prog 22 #[] w fun e w' => e = .returned (.agg St0.vs) ∧ Below w.heap.size w w' := by
  go_enter Try.func22, Try.ntmps22
  go_wp2
  refine bodyPost_ret (v := .agg St0.vs) (by simp [results, Try.results22, go_sem]; rfl) rfl ⟨rfl, ?_⟩
  exact (Below.refl _ _).alloc (Nat.le_refl _) _
set_option maxHeartbeats 2000000 in
set_option maxRecDepth 100000 in
theorem const_calls (w : World) : Calls Try.prog 24 #[] w fun e w' => e = .returned (.agg (Ks.map qv).toArray) ∧ Below w.heap.size w w' := by
  go_enter Try.func24, Try.ntmps24

  go_wp2_with (refine wpList_store_arr rfl 44 (.tmp 0) (.tmp 1) rfl w.heap.size (Ks.map qv).toArray _ 44 rfl (by kernel_rfl) (heap_new rfl) (by kernel_rfl) info_u32x64 (one_qv _) ?_; intro w' hg' hgr')

  refine bodyPost_ret (v := .agg (Ks.map qv).toArray) (results_cell_row rfl _ _ w.heap.size 44 _ (0, 0) _ rfl hg' Try.underlying44 rfl info_u32x64) rfl ⟨rfl, ?_⟩
  exact ((Below.refl _ _).alloc (Nat.le_refl _) _).grown hgr' (by simp) (fun k hk => by cases hk; exact Nat.le_refl _)
end Go.Proofs.Ytbgnffgefpbdpaa
