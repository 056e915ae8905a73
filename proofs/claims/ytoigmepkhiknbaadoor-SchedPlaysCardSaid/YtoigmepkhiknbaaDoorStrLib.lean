/-
  strings: Count, Index, LastIndex, HasPrefix, Split at one byte; cmp.Compare. No condition but lengths.
-/
import Derived.Test.YtoigmepkhiknbaaDoorProg
import Derived.Test.YtoigmepkhiknbaaDoorBase
import Derived.Test.YtoigmepkhiknbaaDoorPathPure
import Derived.Lib.Strings
import Derived.Lib.Slices
import Derived.Lib.Walk
import Derived.Lib.Bytealg
import Derived.RegionTactic
namespace Go.Proofs.YtoigmepkhiknbaaDoor
open Go.RowKit
set_option linter.unusedVariables false
set_option linter.unusedSimpArgs false

set_option maxHeartbeats 1000000 in
set_option maxRecDepth 100000 in
theorem count_one (s : ByteArray) (c : UInt8) (w : World) :
    Calls Tryd.prog 52 #[.string s, .string ⟨#[c]⟩] w fun e w' => e = .returned (.int .i64 (s.data.toList.count c)) ∧ w = w' := by
  go_enter Tryd.func52, Tryd.ntmps52
  go_wp2
  rw [run_callFunc_extern Tryd.func66 (by kernel_rfl) (by kernel_rfl) (by kernel_rfl) (e := Extern.BytealgCount.count) (by kernel_rfl), Lib.run_countString]
  simp only [Result.andThen]
  rw [Oper.upon_value]
  go_wp2
  go_ret
  exact ⟨rfl, rfl⟩

set_option maxHeartbeats 1000000 in
set_option maxRecDepth 100000 in
theorem indexbyte_calls (s : ByteArray) (c : Int) (w : World) :
    Calls Tryd.prog 74 #[.string s, .int .u8 c] w fun e w' => e = .returned (.int .i64 (Lib.indexByte s.data.toList c.toNat.toUInt8)) ∧ w = w' := by
  go_enter Tryd.func74, Tryd.ntmps74
  go_wp2
  rw [run_callFunc_extern Tryd.func79 (by kernel_rfl) (by kernel_rfl) (by kernel_rfl) (e := Extern.BytealgIndexByte.indexByte) (by kernel_rfl), Lib.run_indexByteString]
  simp only [Result.andThen]
  rw [Oper.upon_value]
  go_wp2
  go_ret
  exact ⟨rfl, rfl⟩

set_option maxHeartbeats 2000000 in
set_option maxRecDepth 100000 in
theorem lindex_one (s : ByteArray) (c : UInt8) (w : World) :
    Calls Tryd.prog 67 #[.string s, .string ⟨#[c]⟩] w fun e w' => e = .returned (.int .i64 (Lib.indexByte s.data.toList c)) ∧ w = w' := by
  go_enter Tryd.func67, Tryd.ntmps67
  go_wp2_with (go_at_call 74; refine (indexbyte_calls _ _ _).mono ?_; rintro e w' ⟨rfl, rfl⟩)
  · have h : ([c] == s.toList) = true := by assumption
    go_ret
    refine ⟨?_, rfl⟩
    have e : s.data.toList = [c] := by rw [← Lib.toList_data]; exact (beq_iff_eq.1 h).symm
    rw [e]
    simp [Lib.indexByte]
  · go_ret
    exact ⟨rfl, rfl⟩
set_option maxHeartbeats 1000000 in
theorem index_one (s : ByteArray) (c : UInt8) (w : World) :
    Calls Tryd.prog 53 #[.string s, .string ⟨#[c]⟩] w fun e w' => e = .returned (.int .i64 (Lib.indexByte s.data.toList c)) ∧ w = w' := by
  go_enter Tryd.func53, Tryd.ntmps53
  go_wp2_with (go_at_call 67; refine (lindex_one _ _ _).mono ?_; rintro e w' ⟨rfl, rfl⟩)
  go_ret
  exact ⟨rfl, rfl⟩

/-- The last place of a byte among the first k; else -1. -/
def lastI (s : List UInt8) (c : UInt8) : Nat → Int
  | 0 => -1
  | k + 1 => if s.getD k 0 = c then k else lastI s c k

theorem bytesLess_eq : ∀ a b : List UInt8, Op.bytesLess a b = ltS a b
  | [], [] => rfl
  | [], _ :: _ => rfl
  | _ :: _, [] => rfl
  | x :: a, y :: b => by
    show _ = lexB ltU (x :: a) (y :: b)
    rw [lexB]
    have ih := bytesLess_eq a b
    show (decide (x < y) || (x == y && Op.bytesLess a b)) = _
    have e1 : decide (x < y) = ltU x y := by simp [ltU, UInt8.lt_iff_toNat_lt]
    rw [e1, ih]
    cases h1 : ltU x y with
    | true => simp
    | false =>
      cases h2 : ltU y x with
      | true =>
        have : x ≠ y := by rintro rfl; rw [ltU_strict.irr] at h2; cases h2
        simp [this]
      | false =>
        have : x = y := ltU_strict.tri _ _ h1 h2
        subst this
        simp [ltS]

set_option maxHeartbeats 1000000 in
theorem cmps_calls (a b : ByteArray) (w : World) :
    Calls Tryd.prog 42 #[.string a, .string b] w fun e w' => e = .returned (.int .i64 (if ltS a.data.toList b.data.toList = true then -1 else if ltS b.data.toList a.data.toList = true then 1 else 0)) ∧ w = w' := by
  have e1 := bytesLess_eq a.data.toList b.data.toList
  rw [← toList_eq, ← toList_eq] at e1
  rcases h1 : ltS a.data.toList b.data.toList with _ | _
  · rw [← toList_eq, ← toList_eq] at h1
    rw [h1] at e1
    rcases h2 : ltS b.data.toList a.data.toList with _ | _
    · rw [← toList_eq, ← toList_eq] at h2
      have e2 : (a.toList == b.toList) = true := by rw [beq_iff_eq]; exact ltS_strict.tri _ _ h1 h2
      clear h1 h2
      go_enter Tryd.func42, Tryd.ntmps42
      go_wp2
      go_ret
      exact ⟨rfl, rfl⟩
    · have e2 : (a.toList == b.toList) = false := by
        rw [beq_eq_false_iff_ne, toList_eq, toList_eq]; intro e
        rw [e, ltS_strict.irr] at h2; cases h2
      clear h1 h2
      go_enter Tryd.func42, Tryd.ntmps42
      go_wp2
      go_ret
      exact ⟨rfl, rfl⟩
  · rw [← toList_eq, ← toList_eq] at h1
    rw [h1] at e1
    clear h1
    go_enter Tryd.func42, Tryd.ntmps42
    go_wp2
    go_ret
    exact ⟨rfl, rfl⟩

set_option maxHeartbeats 1000000 in
theorem cmpi_calls (a b : Int) (w : World) :
    Calls Tryd.prog 43 #[.int .i64 a, .int .i64 b] w fun e w' => e = .returned (.int .i64 (if a < b then -1 else if b < a then 1 else 0)) ∧ w = w' := by
  rcases Int.lt_or_le a b with h | h
  · have d1 : decide (a < b) = true := decide_eq_true h
    have HS : Aside0 ((if a < b then (-1 : Int) else if b < a then 1 else 0) = -1) := ⟨if_pos h⟩
    rw [HS.out]
    go_enter Tryd.func43, Tryd.ntmps43
    go_wp2
    go_ret
    exact ⟨rfl, rfl⟩
  · have d1 : decide (a < b) = false := decide_eq_false (by omega)
    rcases Int.lt_or_le b a with h2 | h2
    · have d2 : decide (b < a) = true := decide_eq_true h2
      have HS : Aside0 ((if a < b then (-1 : Int) else if b < a then 1 else 0) = 1) := ⟨by rw [if_neg (by omega), if_pos h2]⟩
      rw [HS.out]
      go_enter Tryd.func43, Tryd.ntmps43
      go_wp2
      go_ret
      exact ⟨rfl, rfl⟩
    · have d2 : decide (b < a) = false := decide_eq_false (by omega)
      have HS : Aside0 ((if a < b then (-1 : Int) else if b < a then 1 else 0) = 0) := ⟨by rw [if_neg (by omega), if_neg (by omega)]⟩
      rw [HS.out]
      go_enter Tryd.func43, Tryd.ntmps43
      go_wp2
      go_ret
      exact ⟨rfl, rfl⟩

theorem lastI_none (s : List UInt8) (c : UInt8) : ∀ k, lastI s c k = -1 → ∀ j, j < k → s.getD j 0 ≠ c
  | 0, _, j, h => by omega
  | k + 1, h, j, hj => by
    rw [lastI] at h
    by_cases hc : s.getD k 0 = c
    · rw [if_pos hc] at h; omega
    · rw [if_neg hc] at h
      rcases Nat.lt_or_ge j k with h1 | h1
      · exact lastI_none s c k h j h1
      · have : j = k := by omega
        subst this; exact hc
theorem lastI_some (s : List UInt8) (c : UInt8) : ∀ k, lastI s c k ≠ -1 → ∃ i : Nat, i < k ∧ lastI s c k = i ∧ s.getD i 0 = c ∧ ∀ j, i < j → j < k → s.getD j 0 ≠ c
  | 0, h => absurd rfl h
  | k + 1, h => by
    rw [lastI] at h ⊢
    by_cases hc : s.getD k 0 = c
    · rw [if_pos hc]; exact ⟨k, by omega, rfl, hc, fun j h1 h2 => by omega⟩
    · rw [if_neg hc] at h ⊢
      obtain ⟨i, h1, h2, h3, h4⟩ := lastI_some s c k h
      refine ⟨i, by omega, h2, h3, fun j h5 h6 => ?_⟩
      rcases Nat.lt_or_ge j k with h7 | h7
      · exact h4 j h5 h7
      · have : j = k := by omega
        subst this; exact hc

theorem ext_list (s : ByteArray) (a b : Nat) : (s.extract a b).data.toList = (s.data.toList.drop a).take (b - a) := by
  rw [ByteArray.data_extract, Array.toList_extract, List.extract_eq_take_drop]
end Go.Proofs.YtoigmepkhiknbaaDoor
