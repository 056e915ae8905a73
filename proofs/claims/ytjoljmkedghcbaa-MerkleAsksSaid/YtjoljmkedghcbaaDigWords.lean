/-
  Words of 32 bits: sums, turns and shifts as the walk spells them. No condition.
-/
import Derived.Test.YtjoljmkedghcbaaProg
import Derived.Test.YtjoljmkedghcbaaBase
import Derived.Laws.BitsAllLaws
import Derived.Laws.ShiftsVarLaws
import Derived.RegionTactic
import Derived.ChangeAlike
namespace Go.Proofs.Ytjoljmkedghcbaa
open Go.RowKit
set_option linter.unusedVariables false
set_option linter.unusedSimpArgs false

/-- A word's value. -/
def qv (x : UInt32) : Value := .int .u32 (x.toNat : Int)
/-- A word turned to the right. -/
def rotr (x : UInt32) (n : Nat) : UInt32 := x >>> UInt32.ofNat n ||| x <<< UInt32.ofNat (32 - n)

theorem u32_lt (x : UInt32) : x.toNat < 4294967296 := x.toNat_lt
theorem q_add (x y : UInt32) : IntKind.u32.wrap ((x.toNat : Int) + (y.toNat : Int)) = ((x + y).toNat : Int) := by
  rw [IntKind.wrap_u32', UInt32.toNat_add]; omega
theorem q_xor (x y : UInt32) : bits .xor .u32 (x.toNat : Int) (y.toNat : Int) = ((x ^^^ y).toNat : Int) := by
  rw [u32_xor_nat _ _ (u32_lt x) (u32_lt y), UInt32.toNat_xor]
theorem q_and (x y : UInt32) : bits .and .u32 (x.toNat : Int) (y.toNat : Int) = ((x &&& y).toNat : Int) := by
  rw [u32_and_nat _ _ (u32_lt x) (u32_lt y), UInt32.toNat_and]
theorem q_or (x y : UInt32) : bits .or .u32 (x.toNat : Int) (y.toNat : Int) = ((x ||| y).toNat : Int) := by
  rw [u32_or_nat _ _ (u32_lt x) (u32_lt y), UInt32.toNat_or]
theorem q_not (x : UInt32) : bits .xor .u32 4294967295 (x.toNat : Int) = ((~~~x).toNat : Int) := by
  have := u32_xor_nat 4294967295 x.toNat (by omega) (u32_lt x)
  rw [show ((4294967295 : Nat) : Int) = 4294967295 from rfl] at this
  rw [this]
  congr 1
theorem q_shr (x : UInt32) (n : Nat) (h : n < 32) : (x.toNat : Int) / 2 ^ n = ((x >>> UInt32.ofNat n).toNat : Int) := by
  rw [UInt32.toNat_shiftRight, UInt32.toNat_ofNat', Nat.mod_eq_of_lt (a := n % _) (by omega), Nat.mod_eq_of_lt (a := n) (by omega), Nat.shiftRight_eq_div_pow]
  simp
theorem q_shl (x : UInt32) (n : Nat) (h : n < 32) : IntKind.u32.wrap ((x.toNat : Int) * 2 ^ n) = ((x <<< UInt32.ofNat n).toNat : Int) := by
  rw [IntKind.wrap_u32', UInt32.toNat_shiftLeft, UInt32.toNat_ofNat', Nat.mod_eq_of_lt (a := n % _) (by omega), Nat.mod_eq_of_lt (a := n) (by omega), Nat.shiftLeft_eq]
  simp

theorem q_byte (x : UInt8) (n : Nat) (h : n < 32) : (x.toNat : Int) % 4294967296 * 2 ^ n % 4294967296 = ((x.toUInt32 <<< UInt32.ofNat n).toNat : Int) := by
  have := q_shl x.toUInt32 n h
  rw [IntKind.wrap_u32', UInt8.toNat_toUInt32] at this
  have h1 : (x.toNat : Int) % 4294967296 = x.toNat := by have := x.toNat_lt; omega
  rw [← this, h1]

theorem rot_count (n : Nat) (h1 : 1 ≤ n) (h2 : n ≤ 31) : bits .and .u64 (IntKind.u64.wrap (-(n : Int))) 31 = 32 - (n : Int) := by
  have : ∀ n : Fin 32, 1 ≤ n.val → bits .and .u64 (IntKind.u64.wrap (-(n.val : Int))) 31 = 32 - (n.val : Int) := by decide
  exact this ⟨n, by omega⟩ h1

set_option maxHeartbeats 400000 in
theorem rotl_calls (x : UInt32) (n : Nat) (h1 : 1 ≤ n) (h2 : n ≤ 31) (w : World) :
    Calls Try.prog 51 #[.int .u32 (x.toNat : Int), .int .i64 (-(n : Int))] w fun e w' => e = .returned (.int .u32 ((rotr x n).toNat : Int)) ∧ w = w' := by
  have e1 := rot_count n h1 h2
  go_enter Try.func51, Try.ntmps51
  go_wp2
  go_ret
  refine ⟨?_, rfl⟩
  have e2 := q_shl x (32 - n) (by omega)
  have e3 := q_shr x n (by omega)
  rw [IntKind.wrap_u32'] at e2
  show Ending.returned (Value.int IntKind.u32 (bits BinOp.or IntKind.u32 (↑x.toNat * 2 ^ (32 - n) % 4294967296) (↑x.toNat / 2 ^ (32 - (32 - n))))) = _
  rw [show 32 - (32 - n) = n by omega, e2, e3, q_or, UInt32.or_comm]
  rfl
theorem turn_calls (x : UInt32) (n : Nat) (h1 : 1 ≤ n) (h2 : n ≤ 31) (w : World) :
    Calls Try.prog 49 #[.int .u32 (x.toNat : Int), .int .i64 (n : Int)] w fun e w' => e = .returned (.int .u32 ((rotr x n).toNat : Int)) ∧ w = w' := by
  go_enter Try.func49, Try.ntmps49
  go_wp2_with (go_at_call 51; refine (rotl_calls x n h1 h2 _).mono ?_; rintro e w' ⟨rfl, rfl⟩)
  go_ret
  exact ⟨rfl, rfl⟩

/-- The same, at a number as the text has it, as a region that stands still wants it. -/
theorem turn_at (x : UInt32) (n : Nat) (z : Int) (hz : z = (n : Int)) (h1 : 1 ≤ n) (h2 : n ≤ 31) (w : World) :
    Calls Try.prog 49 #[.int .u32 (x.toNat : Int), .int .i64 z] w fun e w'' => e = .returned (.int .u32 ((rotr x n).toNat : Int)) ∧ w'' = w := by
  subst hz
  exact (turn_calls x n h1 h2 w).mono fun _ _ ⟨h1, h2⟩ => ⟨h1, h2.symm⟩
theorem turn_2 (x : UInt32) (w : World) : Calls Try.prog 49 #[.int .u32 (x.toNat : Int), .int .i64 2] w fun e w'' => e = .returned (.int .u32 ((rotr x 2).toNat : Int)) ∧ w'' = w := turn_at x 2 2 rfl (by decide) (by decide) w
theorem turn_6 (x : UInt32) (w : World) : Calls Try.prog 49 #[.int .u32 (x.toNat : Int), .int .i64 6] w fun e w'' => e = .returned (.int .u32 ((rotr x 6).toNat : Int)) ∧ w'' = w := turn_at x 6 6 rfl (by decide) (by decide) w
theorem turn_7 (x : UInt32) (w : World) : Calls Try.prog 49 #[.int .u32 (x.toNat : Int), .int .i64 7] w fun e w'' => e = .returned (.int .u32 ((rotr x 7).toNat : Int)) ∧ w'' = w := turn_at x 7 7 rfl (by decide) (by decide) w
theorem turn_11 (x : UInt32) (w : World) : Calls Try.prog 49 #[.int .u32 (x.toNat : Int), .int .i64 11] w fun e w'' => e = .returned (.int .u32 ((rotr x 11).toNat : Int)) ∧ w'' = w := turn_at x 11 11 rfl (by decide) (by decide) w
theorem turn_13 (x : UInt32) (w : World) : Calls Try.prog 49 #[.int .u32 (x.toNat : Int), .int .i64 13] w fun e w'' => e = .returned (.int .u32 ((rotr x 13).toNat : Int)) ∧ w'' = w := turn_at x 13 13 rfl (by decide) (by decide) w
theorem turn_17 (x : UInt32) (w : World) : Calls Try.prog 49 #[.int .u32 (x.toNat : Int), .int .i64 17] w fun e w'' => e = .returned (.int .u32 ((rotr x 17).toNat : Int)) ∧ w'' = w := turn_at x 17 17 rfl (by decide) (by decide) w
theorem turn_18 (x : UInt32) (w : World) : Calls Try.prog 49 #[.int .u32 (x.toNat : Int), .int .i64 18] w fun e w'' => e = .returned (.int .u32 ((rotr x 18).toNat : Int)) ∧ w'' = w := turn_at x 18 18 rfl (by decide) (by decide) w
theorem turn_19 (x : UInt32) (w : World) : Calls Try.prog 49 #[.int .u32 (x.toNat : Int), .int .i64 19] w fun e w'' => e = .returned (.int .u32 ((rotr x 19).toNat : Int)) ∧ w'' = w := turn_at x 19 19 rfl (by decide) (by decide) w
theorem turn_22 (x : UInt32) (w : World) : Calls Try.prog 49 #[.int .u32 (x.toNat : Int), .int .i64 22] w fun e w'' => e = .returned (.int .u32 ((rotr x 22).toNat : Int)) ∧ w'' = w := turn_at x 22 22 rfl (by decide) (by decide) w
theorem turn_25 (x : UInt32) (w : World) : Calls Try.prog 49 #[.int .u32 (x.toNat : Int), .int .i64 25] w fun e w'' => e = .returned (.int .u32 ((rotr x 25).toNat : Int)) ∧ w'' = w := turn_at x 25 25 rfl (by decide) (by decide) w

/-- Four bytes as a word, the greatest first. -/
def wordL (a b c d : UInt8) : UInt32 := a.toUInt32 <<< UInt32.ofNat 24 ||| b.toUInt32 <<< UInt32.ofNat 16 ||| c.toUInt32 <<< UInt32.ofNat 8 ||| d.toUInt32

set_option maxHeartbeats 400000 in
theorem word_calls (ad : Addr) (n c : Nat) (hn : 4 ≤ n) (hc : n ≤ 4611686018427387904) (x0 x1 x2 x3 : UInt8) (w : World)
    (h0 : w.cell? ad = some (.int .u8 (x0.toNat : Int))) (h1 : w.cell? ⟨ad.block, ad.off + 1, none⟩ = some (.int .u8 (x1.toNat : Int))) (h2 : w.cell? ⟨ad.block, ad.off + 2, none⟩ = some (.int .u8 (x2.toNat : Int))) (h3 : w.cell? ⟨ad.block, ad.off + 3, none⟩ = some (.int .u8 (x3.toNat : Int))) :
    Calls Try.prog 50 #[.slice (some ad) n c] w fun e w' => e = .returned (.int .u32 ((wordL x0 x1 x2 x3).toNat : Int)) ∧ ∃ k, w' = w.drewN k := by
  have hn0 : (0 : Int) < (n : Int) := by omega
  have hm0 : 0 < n := by omega
  have hm1 : 1 < n := by omega
  have hm2 : 2 < n := by omega
  have hm3 : 3 < n := by omega
  have hn1 : (1 : Int) < (n : Int) := by omega
  have hn2 : (2 : Int) < (n : Int) := by omega
  have hn3 : (3 : Int) < (n : Int) := by omega
  go_enter Try.func50, Try.ntmps50
  go_wp2
  go_quiet (fail)
  go_wp2
  go_ret
  refine ⟨?_, _, rfl⟩
  have e0 := q_byte x0 24 (by omega)
  have e1 := q_byte x1 16 (by omega)
  have e2 := q_byte x2 8 (by omega)
  have e3 : (x3.toNat : Int) % 4294967296 = (x3.toUInt32.toNat : Int) := by rw [UInt8.toNat_toUInt32]; have := x3.toNat_lt; omega
  show Ending.returned (Value.int IntKind.u32 (bits BinOp.or IntKind.u32 (bits BinOp.or IntKind.u32 (bits BinOp.or IntKind.u32 (↑x0.toNat % 4294967296 * 16777216 % 4294967296) (↑x1.toNat % 4294967296 * 65536 % 4294967296)) (↑x2.toNat % 4294967296 * 256 % 4294967296)) (↑x3.toNat % 4294967296))) = _
  rw [show (16777216 : Int) = 2 ^ 24 from rfl, show (65536 : Int) = 2 ^ 16 from rfl, show (256 : Int) = 2 ^ 8 from rfl, e0, e1, e2, e3, q_or, q_or, q_or]
  rfl
end Go.Proofs.Ytjoljmkedghcbaa
