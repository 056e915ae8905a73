/-
  The reference's block. No condition but that the slice can be read.
-/
import Derived.Test.YtdikconhdbopdaaBlock
import Derived.Test.YtdikconhdbopdaaRCount
namespace Go.Proofs.Ytdikconhdbopdaa
open Go.RowKit
set_option linter.unusedVariables false
set_option linter.unusedSimpArgs false

set_option maxHeartbeats 400000 in
theorem rblock_none {e b0 : Nat} {v : Value} {data : List UInt8} (block k : Int) (w : World) (hv : Sl bv e w b0 v data) (hb : -9223372036854775808 ≤ block ∧ block ≤ 9223372036854775807) (h : k < 0 ∨ cnt data.length block ≤ k) :
    Calls Try.prog 30 #[v, .int .i64 block, .int .i64 k] w fun e w' => e = .returned (.slice none 0 0) ∧ w = w' := by
  obtain ⟨A, c, rfl, hc, hl, hR⟩ := hv
  clear hR
  by_cases h1 : k < 0
  · have d1 : decide (k < 0) = true := by simpa using h1
    clear h
    go_enter Try.func30, Try.ntmps30
    go_wp2_with fail
    go_ret
    exact ⟨rfl, rfl⟩
  · have d1 : decide (k < 0) = false := by simpa using h1
    have HH := Aside0.mk (h.resolve_left h1)
    clear h
    go_enter Try.func30, Try.ntmps30
    go_wp2_with fail
    refine (rcount_calls _ _ _ (by omega) hb).mono ?_
    rintro e w' ⟨rfl, rfl⟩
    have hh := HH.out
    generalize cnt (data.length : Int) block = q at *
    have d2 : decide (q ≤ k) = true := by simpa using hh
    go_wp2_with fail
    go_ret
    exact ⟨rfl, rfl⟩

set_option maxHeartbeats 400000 in
theorem rblock_some {e0 b0 : Nat} {v : Value} {data : List UInt8} (block k : Int) (w : World) (hv : Sl bv e0 w b0 v data) (h0 : 0 ≤ k) (h : k < cnt data.length block) :
    Calls Try.prog 30 #[v, .int .i64 block, .int .i64 k] w fun e w' => ∃ v', e = .returned v' ∧ Sl bv e0 w b0 v' ((data.drop (k * block).toNat).take block.toNat) ∧ w = w' := by
  have HV := Aside0.mk hv
  obtain ⟨hs0, hs1, hb0, hb1, hkb, hk1⟩ := cnt_pos h0 h
  obtain ⟨A, c, rfl, hc, hl, hR⟩ := hv
  have hp : k * block + block = (k + 1) * block := by rw [Int.add_mul]; omega
  have hp0 : 0 ≤ k * block := Int.mul_nonneg h0 (by omega)
  have d1 : decide (k < 0) = false := by simpa using h0
  obtain ⟨ad, rfl⟩ : ∃ ad, A = some ad := by
    obtain ⟨ad, h1, _⟩ := hR.cell 0 _ (List.getElem?_eq_getElem (by rw [List.length_map]; omega))
    exact ⟨ad, h1⟩
  clear hR
  have HH := Aside0.mk h
  have HP := Aside0.mk hp
  have hq0 : 0 ≤ (k + 1) * block := by omega
  have hq1 : (k + 1) * block ≤ 9223372036854775807 := by omega
  have hq2 : k * block ≤ (k + 1) * block := by omega
  clear h hp
  go_enter Try.func30, Try.ntmps30
  go_wp2_with fail
  refine (rcount_calls _ _ _ (by omega) (by omega)).mono ?_
  rintro e w' ⟨rfl, rfl⟩
  have hh := HH.out
  generalize cnt (data.length : Int) block = q at *
  have d2 : decide (q ≤ k) = false := by simpa using hh
  go_wp2_with fail
  all_goals
    have hcmp : (data.drop (k * block).toNat).take (data.length - (k * block).toNat) = (data.drop (k * block).toNat).take block.toNat ∨ (k + 1) * block ≤ data.length := by
      by_cases hx : (k + 1) * block ≤ data.length
      · exact .inr hx
      · have := HP.out
        refine .inl ?_
        rw [List.take_of_length_le (by rw [List.length_drop]; omega), List.take_of_length_le (by rw [List.length_drop]; omega)]
  · have hlt : (data.length : Int) ≤ (k + 1) * block := by omega
    have e1 : (data.drop (k * block).toNat).take block.toNat = (data.drop (k * block).toNat).take (data.length - (k * block).toNat) := by
      have := HP.out
      rw [List.take_of_length_le (by rw [List.length_drop]; omega), List.take_of_length_le (by rw [List.length_drop]; omega)]
    have E1 := Aside0.mk e1
    clear hcmp e1
    go_ret
    exact ⟨_, rfl, by rw [E1.out]; exact HV.out.cut (k * block).toNat data.length (by omega) (by omega), rfl⟩
  · have e1 : ((k + 1) * block).toNat - (k * block).toNat = block.toNat := by have := HP.out; omega
    clear hcmp
    have hcl := (HV.out.cut (k * block).toNat ((k + 1) * block).toNat (by omega) (by omega))
    have E1 := Aside0.mk e1
    have hcl2 : Sl bv e0 w b0 (.slice (some (ad.add (k * block).toNat)) (((k + 1) * block).toNat - (k * block).toNat) (c - (k * block).toNat)) ((data.drop (k * block).toNat).take block.toNat) := by rw [← e1]; exact hcl
    have HCL := Aside0.mk hcl2
    clear e1 hcl hcl2
    go_ret
    refine ⟨_, rfl, HCL.out, rfl⟩

theorem rblock_calls {e0 b0 : Nat} {v : Value} {data : List UInt8} (block k : Int) (w : World) (hv : Sl bv e0 w b0 v data) (hb : -9223372036854775808 ≤ block ∧ block ≤ 9223372036854775807) :
    Calls Try.prog 30 #[v, .int .i64 block, .int .i64 k] w fun e w' => ∃ v', e = .returned v' ∧ Sl bv e0 w b0 v' (blockL data block k) ∧ w = w' := by
  by_cases h : k < 0 ∨ cnt data.length block ≤ k
  · refine (rblock_none block k w hv hb h).mono ?_
    rintro e w' ⟨rfl, rfl⟩
    unfold blockL
    rw [if_pos h]
    exact ⟨_, rfl, Sl.nil _ _ _ _, rfl⟩
  · unfold blockL
    rw [if_neg h]
    exact rblock_some block k w hv (by omega) (by omega)
end Go.Proofs.Ytdikconhdbopdaa
