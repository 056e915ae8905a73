/-
  The reference's words: rot, the constants. No condition.
-/
import Derived.Test.YtjoljmkedghcbaaDigSum3
namespace Go.Proofs.Ytjoljmkedghcbaa
open Go.RowKit
set_option linter.unusedVariables false
set_option linter.unusedSimpArgs false

theorem rot_at (x : UInt32) (n : Nat) (z : Int) (hz : z = (n : Int)) (h1 : 1 ≤ n) (h2 : n ≤ 31) (w : World) :
    Calls Try.prog 40 #[.int .u32 (x.toNat : Int), .int .i64 z] w fun e w' => e = .returned (.int .u32 ((rotr x n).toNat : Int)) ∧ ∃ k, w' = w.drewN k := by
  subst hz
  have z1 : IntKind.i64.wrap (32 - (n : Int)) = 32 - (n : Int) := IntWalk.i64_in _ (by omega)
  have z2 : (0 : Int) ≤ 32 - (n : Int) := by omega
  have z3 : (32 - (n : Int)).toNat = 32 - n := by omega
  have z4 : min n 32 = n := by omega
  have z5 : min (32 - n) 32 = 32 - n := by omega
  have z6 : (n : Int) ≤ 32 := by omega
  go_enter Try.func40, Try.ntmps40
  go_wp2_with fail
  go_quiet (fail)
  go_wp2_with fail
  go_ret
  refine ⟨?_, _, rfl⟩
  have e2 := q_shl x (32 - n) (by omega)
  have e3 := q_shr x n (by omega)
  rw [IntKind.wrap_u32'] at e2
  show Ending.returned (Value.int IntKind.u32 (bits BinOp.or IntKind.u32 (↑x.toNat / 2 ^ n) (↑x.toNat * 2 ^ (32 - n) % 4294967296))) = _
  rw [e2, e3, q_or]
  rfl
theorem rot_2 (x : UInt32) (w : World) : Calls Try.prog 40 #[.int .u32 (x.toNat : Int), .int .i64 2] w fun e w' => e = .returned (.int .u32 ((rotr x 2).toNat : Int)) ∧ ∃ k, w' = w.drewN k := rot_at x 2 2 rfl (by decide) (by decide) w
theorem rot_6 (x : UInt32) (w : World) : Calls Try.prog 40 #[.int .u32 (x.toNat : Int), .int .i64 6] w fun e w' => e = .returned (.int .u32 ((rotr x 6).toNat : Int)) ∧ ∃ k, w' = w.drewN k := rot_at x 6 6 rfl (by decide) (by decide) w
theorem rot_7 (x : UInt32) (w : World) : Calls Try.prog 40 #[.int .u32 (x.toNat : Int), .int .i64 7] w fun e w' => e = .returned (.int .u32 ((rotr x 7).toNat : Int)) ∧ ∃ k, w' = w.drewN k := rot_at x 7 7 rfl (by decide) (by decide) w
theorem rot_11 (x : UInt32) (w : World) : Calls Try.prog 40 #[.int .u32 (x.toNat : Int), .int .i64 11] w fun e w' => e = .returned (.int .u32 ((rotr x 11).toNat : Int)) ∧ ∃ k, w' = w.drewN k := rot_at x 11 11 rfl (by decide) (by decide) w
theorem rot_13 (x : UInt32) (w : World) : Calls Try.prog 40 #[.int .u32 (x.toNat : Int), .int .i64 13] w fun e w' => e = .returned (.int .u32 ((rotr x 13).toNat : Int)) ∧ ∃ k, w' = w.drewN k := rot_at x 13 13 rfl (by decide) (by decide) w
theorem rot_17 (x : UInt32) (w : World) : Calls Try.prog 40 #[.int .u32 (x.toNat : Int), .int .i64 17] w fun e w' => e = .returned (.int .u32 ((rotr x 17).toNat : Int)) ∧ ∃ k, w' = w.drewN k := rot_at x 17 17 rfl (by decide) (by decide) w
theorem rot_18 (x : UInt32) (w : World) : Calls Try.prog 40 #[.int .u32 (x.toNat : Int), .int .i64 18] w fun e w' => e = .returned (.int .u32 ((rotr x 18).toNat : Int)) ∧ ∃ k, w' = w.drewN k := rot_at x 18 18 rfl (by decide) (by decide) w
theorem rot_19 (x : UInt32) (w : World) : Calls Try.prog 40 #[.int .u32 (x.toNat : Int), .int .i64 19] w fun e w' => e = .returned (.int .u32 ((rotr x 19).toNat : Int)) ∧ ∃ k, w' = w.drewN k := rot_at x 19 19 rfl (by decide) (by decide) w
theorem rot_22 (x : UInt32) (w : World) : Calls Try.prog 40 #[.int .u32 (x.toNat : Int), .int .i64 22] w fun e w' => e = .returned (.int .u32 ((rotr x 22).toNat : Int)) ∧ ∃ k, w' = w.drewN k := rot_at x 22 22 rfl (by decide) (by decide) w
theorem rot_25 (x : UInt32) (w : World) : Calls Try.prog 40 #[.int .u32 (x.toNat : Int), .int .i64 25] w fun e w' => e = .returned (.int .u32 ((rotr x 25).toNat : Int)) ∧ ∃ k, w' = w.drewN k := rot_at x 25 25 rfl (by decide) (by decide) w

set_option maxHeartbeats 2000000 in
set_option maxRecDepth 100000 in
theorem rounds_calls (w : World) : Calls Try.prog 39 #[] w fun e w' => e = .returned (.agg (Ks.map qv).toArray) ∧ Below w.heap.size w w' := by
  go_enter Try.func39, Try.ntmps39
  go_wp2_with (refine wpList_store_arr rfl 59 (.tmp 0) (.tmp 1) rfl w.heap.size (Ks.map qv).toArray _ 59 rfl (by kernel_rfl) (heap_new rfl) (by kernel_rfl) info_u32x64 (one_qv _) ?_; intro w' hg' hgr')
  refine bodyPost_ret (v := .agg (Ks.map qv).toArray) (results_cell_row rfl _ _ w.heap.size 59 _ (0, 0) _ rfl hg' Try.underlying59 rfl info_u32x64) rfl ⟨rfl, ?_⟩
  exact ((Below.refl _ _).alloc (Nat.le_refl _) _).grown hgr' (by simp) (fun k hk => by cases hk; exact Nat.le_refl _)
end Go.Proofs.Ytjoljmkedghcbaa
