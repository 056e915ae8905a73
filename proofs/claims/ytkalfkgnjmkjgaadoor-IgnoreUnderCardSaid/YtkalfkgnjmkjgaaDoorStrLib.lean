/-
  strings: Count, Index, LastIndex, HasPrefix, Split at one byte; cmp.Compare. No condition but lengths.
-/
import Derived.Test.YtkalfkgnjmkjgaaDoorProg
import Derived.Test.YtkalfkgnjmkjgaaDoorBase
import Derived.Test.YtkalfkgnjmkjgaaDoorPathPure
import Derived.Lib.Strings
import Derived.Lib.Slices
import Derived.Lib.Walk
import Derived.Lib.Bytealg
import Derived.RegionTactic
namespace Go.Proofs.YtkalfkgnjmkjgaaDoor
open Go.RowKit
set_option linter.unusedVariables false
set_option linter.unusedSimpArgs false

set_option maxHeartbeats 1000000 in
set_option maxRecDepth 100000 in
theorem count_one (s : ByteArray) (c : UInt8) (w : World) :
    Calls Tryd.prog 60 #[.string s, .string ⟨#[c]⟩] w fun e w' => e = .returned (.int .i64 (s.data.toList.count c)) ∧ w = w' := by
  go_enter Tryd.func60, Tryd.ntmps60
  go_wp2
  rw [run_callFunc_extern Tryd.func70 (by kernel_rfl) (by kernel_rfl) (by kernel_rfl) (e := Extern.BytealgCount.count) (by kernel_rfl), Lib.run_countString]
  simp only [Result.andThen]
  rw [Oper.upon_value]
  go_wp2
  go_ret
  exact ⟨rfl, rfl⟩

set_option maxHeartbeats 1000000 in
set_option maxRecDepth 100000 in
theorem indexbyte_calls (s : ByteArray) (c : Int) (w : World) :
    Calls Tryd.prog 62 #[.string s, .int .u8 c] w fun e w' => e = .returned (.int .i64 (Lib.indexByte s.data.toList c.toNat.toUInt8)) ∧ w = w' := by
  go_enter Tryd.func62, Tryd.ntmps62
  go_wp2
  rw [run_callFunc_extern Tryd.func71 (by kernel_rfl) (by kernel_rfl) (by kernel_rfl) (e := Extern.BytealgIndexByte.indexByte) (by kernel_rfl), Lib.run_indexByteString]
  simp only [Result.andThen]
  rw [Oper.upon_value]
  go_wp2
  go_ret
  exact ⟨rfl, rfl⟩

set_option maxHeartbeats 2000000 in
set_option maxRecDepth 100000 in
theorem lindex_one (s : ByteArray) (c : UInt8) (w : World) :
    Calls Tryd.prog 54 #[.string s, .string ⟨#[c]⟩] w fun e w' => e = .returned (.int .i64 (Lib.indexByte s.data.toList c)) ∧ w = w' := by
  go_enter Tryd.func54, Tryd.ntmps54
  go_wp2_with (go_at_call 62; refine (indexbyte_calls _ _ _).mono ?_; rintro e w' ⟨rfl, rfl⟩)
  · have h : ([c] == s.toList) = true := by assumption
    go_ret
    refine ⟨?_, rfl⟩
    have e : s.data.toList = [c] := by rw [← Lib.toList_data]; exact (beq_iff_eq.1 h).symm
    rw [e]
    simp [Lib.indexByte]
  · go_ret
    exact ⟨rfl, rfl⟩
set_option maxHeartbeats 1000000 in
theorem index_one (s : ByteArray) (c : UInt8) (w : World) :
    Calls Tryd.prog 45 #[.string s, .string ⟨#[c]⟩] w fun e w' => e = .returned (.int .i64 (Lib.indexByte s.data.toList c)) ∧ w = w' := by
  go_enter Tryd.func45, Tryd.ntmps45
  go_wp2_with (go_at_call 54; refine (lindex_one _ _ _).mono ?_; rintro e w' ⟨rfl, rfl⟩)
  go_ret
  exact ⟨rfl, rfl⟩

/-- The last place of a byte among the first k; else -1. -/
def lastI (s : List UInt8) (c : UInt8) : Nat → Int
  | 0 => -1
  | k + 1 => if s.getD k 0 = c then k else lastI s c k

set_option maxHeartbeats 1000000 in
theorem lastbyte_calls (s : ByteArray) (c : UInt8) (w : World) (hs : s.size ≤ 9223372036854775807) :
    Calls Tryd.prog 49 #[.string s, .int .u8 (c.toNat : Int)] w fun e w' => e = .returned (.int .i64 (lastI s.data.toList c s.size)) ∧ w = w' := by
  have HL : Aside0 (∀ k (hk : k < s.size), s.data.toList.getD k 0 = s[k]) := ⟨fun k hk => by
    have h : k < s.data.toList.length := by rw [Array.length_toList]; exact hk
    rw [List.getD_eq_getElem?_getD, List.getElem?_eq_getElem h]; rfl⟩
  go_enter Tryd.func49, Tryd.ntmps49
  go_wp2
  go_loop [5] (fun i => ∃ k : Nat, k ≤ s.size ∧ i = .int .i64 ((k : Int) - 1) ∧ Aside0 (lastI s.data.toList c k = lastI s.data.toList c s.size)) (fun i => (intOf i + 1).toNat)
  case atStart => exact ⟨s.size, Nat.le_refl _, rfl, ⟨rfl⟩⟩
  case round =>
    obtain ⟨k, hk, rfl, hs2⟩ := hrel
    rcases Nat.eq_zero_or_pos k with rfl | hk0
    · go_wp2
      go_ret
      exact ⟨ret_i hs2.out, rfl⟩
    · obtain ⟨j, rfl⟩ : ∃ j, k = j + 1 := ⟨k - 1, by omega⟩
      have e1 : ((j + 1 : Nat) : Int) - 1 = (j : Int) := by omega
      rw [e1]
      have hj : j < s.size := by omega
      have HS := Aside0.mk (show lastI s.data.toList c (j + 1) = if s[j] = c then (j : Int) else lastI s.data.toList c j by rw [lastI, HL.out j hj])
      go_wp2
      · have h : ((s[j].toNat : Int) == (c.toNat : Int)) = true := by assumption
        have hc : s[j] = c := UInt8.toNat_inj.1 (by rw [beq_iff_eq] at h; omega)
        go_ret
        exact ⟨ret_i (by rw [← hs2.out, HS.out, if_pos hc]), rfl⟩
      · have h : ((s[j].toNat : Int) == (c.toNat : Int)) = false := by assumption
        have hc : ¬ s[j] = c := fun e => by rw [e] at h; simp at h
        go_round
        case rel => exact ⟨j, by omega, rfl, ⟨by rw [← hs2.out, HS.out, if_neg hc]⟩⟩
        case measure => simp [intOf]

theorem bytesLess_eq : ∀ a b : List UInt8, Op.bytesLess a b = ltS a b
  | [], [] => rfl
  | [], _ :: _ => rfl
  | _ :: _, [] => rfl
  | x :: a, y :: b => by
    show _ = lexB ltU (x :: a) (y :: b)
    rw [lexB]
    have ih := bytesLess_eq a b
    show (decide (x < y) || (x == y && Op.bytesLess a b)) = _
    have e1 : decide (x < y) = ltU x y := by simp [ltU, UInt8.lt_iff_toNat_lt]
    rw [e1, ih]
    cases h1 : ltU x y with
    | true => simp
    | false =>
      cases h2 : ltU y x with
      | true =>
        have : x ≠ y := by rintro rfl; rw [ltU_strict.irr] at h2; cases h2
        simp [this]
      | false =>
        have : x = y := ltU_strict.tri _ _ h1 h2
        subst this
        simp [ltS]

theorem lastI_none (s : List UInt8) (c : UInt8) : ∀ k, lastI s c k = -1 → ∀ j, j < k → s.getD j 0 ≠ c
  | 0, _, j, h => by omega
  | k + 1, h, j, hj => by
    rw [lastI] at h
    by_cases hc : s.getD k 0 = c
    · rw [if_pos hc] at h; omega
    · rw [if_neg hc] at h
      rcases Nat.lt_or_ge j k with h1 | h1
      · exact lastI_none s c k h j h1
      · have : j = k := by omega
        subst this; exact hc
theorem lastI_some (s : List UInt8) (c : UInt8) : ∀ k, lastI s c k ≠ -1 → ∃ i : Nat, i < k ∧ lastI s c k = i ∧ s.getD i 0 = c ∧ ∀ j, i < j → j < k → s.getD j 0 ≠ c
  | 0, h => absurd rfl h
  | k + 1, h => by
    rw [lastI] at h ⊢
    by_cases hc : s.getD k 0 = c
    · rw [if_pos hc]; exact ⟨k, by omega, rfl, hc, fun j h1 h2 => by omega⟩
    · rw [if_neg hc] at h ⊢
      obtain ⟨i, h1, h2, h3, h4⟩ := lastI_some s c k h
      refine ⟨i, by omega, h2, h3, fun j h5 h6 => ?_⟩
      rcases Nat.lt_or_ge j k with h7 | h7
      · exact h4 j h5 h7
      · have : j = k := by omega
        subst this; exact hc

set_option maxHeartbeats 1000000 in
theorem lastindex_one (s : ByteArray) (c : UInt8) (w : World) (hs : s.size ≤ 9223372036854775807) :
    Calls Tryd.prog 40 #[.string s, .string ⟨#[c]⟩] w fun e w' => e = .returned (.int .i64 (lastI s.data.toList c s.size)) ∧ w = w' := by
  go_enter Tryd.func40, Tryd.ntmps40
  go_wp2_with (go_at_call 49; refine (lastbyte_calls _ _ _ hs).mono ?_; rintro e w' ⟨rfl, rfl⟩)
  go_ret
  exact ⟨rfl, rfl⟩

theorem ext_list (s : ByteArray) (a b : Nat) : (s.extract a b).data.toList = (s.data.toList.drop a).take (b - a) := by
  rw [ByteArray.data_extract, Array.toList_extract, List.extract_eq_take_drop]
end Go.Proofs.YtkalfkgnjmkjgaaDoor
