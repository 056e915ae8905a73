/-
  The reference reads a rule: all roads.
-/
import Derived.Test.YtkalfkgnjmkjgaaDoorIgnRRule
namespace Go.Proofs.YtkalfkgnjmkjgaaDoor
open Go.RowKit
set_option linter.unusedVariables false
set_option linter.unusedSimpArgs false

theorem byte_beq (x c : UInt8) : ((x.toNat : Int) == (c.toNat : Int)) = (x == c) := by
  rw [Bool.eq_iff_iff, beq_iff_eq, beq_iff_eq]
  exact ⟨fun h => UInt8.toNat_inj.1 (by omega), fun h => by rw [h]⟩
/-- What is cut off at the end. -/
theorem rr_suf {S : List UInt8} {s1 : ByteArray} {n : Nat} (h1 : s1.data.toList = par1 S) (hn : s1.size = n + 1) (b : Bool) (e : (((s1[n]'(by omega)).toNat : Int) == 47) = b) :
    parD S = b ∧ parT S = if b = true then s1.data.toList.take n else s1.data.toList := by
  have hl : s1.data.toList.length = n + 1 := by rw [len_data]; exact hn
  have hg : s1.data.toList.getD n 0 = s1[n]'(by omega) := getD_str s1 n (by omega)
  have he : (s1[n]'(by omega) == 47) = b := by rw [← byte_beq]; exact e
  rw [← hg] at he
  cases b with
  | true =>
    have h := suf_yes hl (by simpa using he)
    unfold parD parT
    rw [← h1, h.1, h.2]
    exact ⟨rfl, rfl⟩
  | false =>
    have h := suf_no (T := s1.data.toList) (.inr (by rw [hl, Nat.add_sub_cancel]; simpa using he))
    unfold parD parT
    rw [← h1, h.1, h.2]
    exact ⟨rfl, rfl⟩
theorem okR_zero {S : List UInt8} (h : parT S = []) : okR S = false := by unfold okR; rw [h]; rfl
theorem okR_big {S : List UInt8} (h : 60 < (parT S).length) : okR S = false := by unfold okR; rw [decide_eq_false (show ¬ (parT S).length ≤ 60 by omega)]; simp

theorem rrule_calls (s : ByteArray) (w : World) (hs : s.size ≤ 1000000000) :
    Calls Tryd.prog 32 #[.string s] w fun e w' => RRulA s.data.toList w e w' := by
  rcases Nat.eq_zero_or_pos s.size with h0 | h0
  · have hS : s.data.toList = [] := List.eq_nil_of_length_eq_zero (by rw [len_data]; exact h0)
    exact rrule_e s w h0 (by rw [hS]; rfl)
  · obtain ⟨m, hm⟩ : ∃ m, s.size = m + 1 := ⟨s.size - 1, by omega⟩
    have hg0 : s.data.toList.getD 0 0 = s[0] := getD_str s 0 h0
    cases e0 : (((s[0]'h0).toNat : Int) == 33) with
    | true =>
      have h33 : s.data.toList.getD 0 0 = 33 := by rw [hg0]; exact beq_iff_eq.1 ((byte_beq _ 33).symm.trans e0)
      obtain ⟨hp1, hpn⟩ := par1_yes h33
      have hx : (s.extract 1 (m + 1)).data.toList = par1 s.data.toList := by rw [ext_list, hp1, List.take_of_length_le (by rw [List.length_drop, len_data]; omega)]
      have hxs : (s.extract 1 (m + 1)).size = m := by rw [ByteArray.size_extract]; omega
      rcases Nat.eq_zero_or_pos m with hm0 | hm0
      · subst hm0
        refine rrule_ye s w hm e0 (okR_zero ?_)
        have h1 : par1 s.data.toList = [] := by rw [← hx]; exact List.eq_nil_of_length_eq_zero (by rw [len_data]; exact hxs)
        have h2 := suf_no (T := par1 s.data.toList) (.inl h1)
        unfold parT
        rw [h2.2, h1]
      · obtain ⟨k, rfl⟩ : ∃ k, m = k + 1 := ⟨m - 1, by omega⟩
        cases e1 : ((((s.extract 1 (k + 1 + 1))[k]'(by omega)).toNat : Int) == 47) with
        | true =>
          obtain ⟨hd, ht⟩ := rr_suf hx hxs true e1
          rw [if_pos rfl] at ht
          have htl : (parT s.data.toList).length = k := by rw [ht, List.length_take, len_data, hxs]; omega
          rcases Nat.eq_zero_or_pos k with hk0 | hk0
          · subst hk0
            exact rrule_yy0 s w hm e0 hxs e1 (okR_zero (List.eq_nil_of_length_eq_zero htl))
          · obtain ⟨j, rfl⟩ : ∃ j, k = j + 1 := ⟨k - 1, by omega⟩
            by_cases hb : j < 60
            · exact rrule_yy s w j hm e0 hxs e1 (by rw [ext_list, List.drop_zero, Nat.sub_zero, ht]) hpn hd hb
            · exact rrule_big_yy s w j (by omega) hs hm e0 hxs e1 (okR_big (by omega))
        | false =>
          obtain ⟨hd, ht⟩ := rr_suf hx hxs false e1
          rw [if_neg (by decide)] at ht
          have htl : (parT s.data.toList).length = k + 1 := by rw [ht, len_data, hxs]
          by_cases hb : k < 60
          · exact rrule_yn s w k hm e0 hxs e1 ht.symm hpn hd hb
          · exact rrule_big_yn s w k (by omega) hs hm e0 hxs e1 (okR_big (by omega))
    | false =>
      have h33 : s.data.toList.getD 0 0 ≠ 33 := by
        rw [hg0]; intro h
        rw [h] at e0; exact absurd e0 (by decide)
      obtain ⟨hp1, hpn⟩ := par1_no h33
      cases e1 : (((s[m]'(by omega)).toNat : Int) == 47) with
      | true =>
        obtain ⟨hd, ht⟩ := rr_suf hp1.symm hm true e1
        rw [if_pos rfl] at ht
        have htl : (parT s.data.toList).length = m := by rw [ht, List.length_take, len_data, hm]; omega
        rcases Nat.eq_zero_or_pos m with hk0 | hk0
        · subst hk0
          exact rrule_ny0 s w hm e0 e1 (okR_zero (List.eq_nil_of_length_eq_zero htl))
        · obtain ⟨j, rfl⟩ : ∃ j, m = j + 1 := ⟨m - 1, by omega⟩
          by_cases hb : j < 60
          · exact rrule_ny s w j hm e0 hm e1 (by rw [ext_list, List.drop_zero, Nat.sub_zero, ht]) hpn hd hb
          · exact rrule_big_ny s w j (by omega) hs hm e0 hm e1 (okR_big (by omega))
      | false =>
        obtain ⟨hd, ht⟩ := rr_suf hp1.symm hm false e1
        rw [if_neg (by decide)] at ht
        have htl : (parT s.data.toList).length = m + 1 := by rw [ht, len_data, hm]
        by_cases hb : m < 60
        · exact rrule_nn s w m hm e0 hm e1 ht.symm hpn hd hb
        · exact rrule_big_nn s w m (by omega) hs hm e0 hm e1 (okR_big (by omega))
end Go.Proofs.YtkalfkgnjmkjgaaDoor
