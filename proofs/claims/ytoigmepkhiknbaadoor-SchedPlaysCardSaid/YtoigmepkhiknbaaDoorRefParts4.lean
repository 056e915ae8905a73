/-
  The reference's parts of a path. No condition but a length.
-/
import Derived.Test.YtoigmepkhiknbaaDoorPathFns3
import Derived.Test.YtoigmepkhiknbaaDoorRowApp
namespace Go.Proofs.YtoigmepkhiknbaaDoor
open Go.RowKit
set_option linter.unusedVariables false
set_option linter.unusedSimpArgs false

theorem part_end {S : List UInt8} {m k : Nat} (hm : m ≤ k) (hk : k = S.length) (h : 47 ∉ (S.drop m).take (k - m)) : splitP (S.drop m) = [(S.drop m).take (k - m)] := by
  have h1 : (S.drop m).take (k - m) = S.drop m := List.take_of_length_le (by simp; omega)
  rw [h1] at h ⊢
  exact splitP_no h
theorem drop_cut {S : List UInt8} {m k : Nat} (hm : m ≤ k) (hk : k < S.length) : S.drop m = (S.drop m).take (k - m) ++ S.getD k 0 :: S.drop (k + 1) := by
  have h1 : (S.drop m).drop (k - m) = S.getD k 0 :: S.drop (k + 1) := by
    rw [List.drop_drop, show m + (k - m) = k by omega, List.drop_eq_getElem_cons hk]
    simp [List.getElem?_eq_getElem hk]
  rw [← h1, List.take_append_drop]
theorem part_mid {S : List UInt8} {m k : Nat} (hm : m ≤ k) (hk : k < S.length) (hc : S.getD k 0 = 47) (h : 47 ∉ (S.drop m).take (k - m)) : splitP (S.drop m) = (S.drop m).take (k - m) :: splitP (S.drop (k + 1)) := by
  have h1 := drop_cut hm hk
  rw [hc] at h1
  obtain ⟨x, hx⟩ : ∃ x, x = (S.drop m).take (k - m) := ⟨_, rfl⟩
  rw [← hx] at h h1 ⊢
  rw [h1, splitP_app, splitP_no h]
  rfl
theorem part_next {S : List UInt8} {m k : Nat} (hm : m ≤ k) (hk : k < S.length) (hc : S.getD k 0 ≠ 47) (h : 47 ∉ (S.drop m).take (k - m)) : 47 ∉ (S.drop m).take (k + 1 - m) := by
  have h1 : (S.drop m).take (k + 1 - m) = (S.drop m).take (k - m) ++ [S.getD k 0] := by
    have h2 := drop_cut hm hk
    have h3 : ((S.drop m).take (k - m)).length = k - m := by simp; omega
    obtain ⟨x, hx⟩ : ∃ x, x = (S.drop m).take (k - m) := ⟨_, rfl⟩
    rw [← hx] at h2 h3 ⊢
    rw [h2, List.take_append, h3, show k + 1 - m - (k - m) = 1 by omega, List.take_of_length_le (by omega)]
    rfl
  rw [h1, List.mem_append]
  rintro (h2 | h2)
  · exact h h2
  · exact hc (List.mem_singleton.1 h2).symm

def PtS (S : List UInt8) (base : Nat) (v : Value) (w : World) (k m : Nat) : Prop :=
  ∃ L : List (List UInt8), L.length ≤ k ∧ w.ownsRow base 9 1 v L.length (L.map tv) ∧ ((k ≤ S.length ∧ m ≤ k ∧ splitP S = L ++ splitP (S.drop m) ∧ 47 ∉ (S.drop m).take (k - m)) ∨ (k = S.length + 1 ∧ splitP S = L))
theorem own_str {w : World} {base g e : Nat} {x : ByteArray} (h : w.heap[g]? = some (.cells #[.string x] e (0, 0))) (hb : base ≤ g) : w.ownsRow base e 1 (.slice (some ⟨g, 0, none⟩) 1 1) [x.data.toList].length ([x.data.toList].map tv) :=
  ⟨by simp, .inr ⟨g, 1, _, rfl, hb, h, Nat.le_refl _, by simp [maxLen], by simp, by simp [tv, str_of]⟩⟩

set_option maxHeartbeats 4000000 in
theorem rparts_calls (s : ByteArray) (w : World) (hs : s.size ≤ 1000000000) :
    Calls Tryd.prog 33 #[.string s] w fun e w' => ∃ v, e = .returned v ∧ SlS w' 0 v (splitP s.data.toList) ∧ (∃ A n c, v = .slice A n c) ∧ Below w.heap.size w w' := by
  have HL : Aside0 (∀ k (hk : k < s.size), s.data.toList.getD k 0 = s[k]) := ⟨fun k hk => by
    have h : k < s.data.toList.length := by rw [Array.length_toList]; exact hk
    rw [List.getD_eq_getElem?_getD, List.getElem?_eq_getElem h]; rfl⟩
  have HZ := Aside0.mk (len_data s)
  go_enter Tryd.func33, Tryd.ntmps33
  go_wp2_with fail
  go_loopw [3, 4, 5] (fun v f i wr => ∃ (k m c : Nat) (A : Option Addr) (n : Nat), k ≤ s.size + 1 ∧ m ≤ k ∧ i = .int .i64 k ∧ f = .int .i64 m ∧ v = .slice A n c ∧ Aside0 (PtS s.data.toList w.heap.size v wr k m ∧ Below w.heap.size w wr)) (fun v f i wr => s.size + 1 - (intOf i).toNat)
  case atStart => exact ⟨0, 0, 0, none, 0, by omega, by omega, rfl, rfl, rfl, ⟨⟨[], by simp, World.ownsRow_nil _ _ _ _, .inl ⟨by omega, by omega, rfl, by simp⟩⟩, Below.refl _ _⟩⟩
  case round =>
    obtain ⟨k, m, c, A, n, hk, hm, rfl, rfl, rfl, hs2⟩ := hrel
    obtain ⟨L, hL, hown, hst⟩ := hs2.out.1
    have HO := Aside0.mk hown
    have HB := Aside0.mk hs2.out.2
    have HST := Aside0.mk hst
    clear hown hst hs2
    by_cases hend : k ≤ s.size
    · have hcut : (k = s.size ∨ (k < s.size ∧ s.data.toList.getD k 0 = 47)) ∨ (k < s.size ∧ s.data.toList.getD k 0 ≠ 47) := by
        by_cases h1 : k = s.size
        · exact .inl (.inl h1)
        · by_cases h2 : s.data.toList.getD k 0 = 47
          · exact .inl (.inr ⟨by omega, h2⟩)
          · exact .inr ⟨by omega, h2⟩
      have HX : Aside0 ((s.extract m k).data.toList = (s.data.toList.drop m).take (k - m)) := ⟨by rw [ext_str, str_data]⟩
      have HIN : Aside0 (k ≤ s.data.toList.length ∧ splitP s.data.toList = L ++ splitP (s.data.toList.drop m) ∧ 47 ∉ (s.data.toList.drop m).take (k - m)) := ⟨by
        rcases HST.out with ⟨h1, h2, h3, h4⟩ | ⟨h1, _⟩
        · exact ⟨h1, h3, h4⟩
        · rw [HZ.out] at h1; omega⟩
      clear HST
      rcases hcut with (h1 | ⟨h1, h2⟩) | ⟨h1, h2⟩
      · have e1 : ((k : Int) == (s.size : Int)) = true := by rw [beq_iff_eq]; omega
        have HN : Aside0 (splitP s.data.toList = L ++ [(s.extract m k).data.toList]) := ⟨by rw [HX.out, HIN.out.2.1, part_end hm (by rw [HZ.out]; exact h1) HIN.out.2.2]⟩
        have HK := Aside0.mk h1
        clear h1
        go_wp2_with (at_builtin; go_must (refine append_row tv (fun _ => rfl) rfl (.tmp 22) (.tmp 27) 26 rfl w.heap.size 9 9 wr.heap.size _ _ Tryd.underlying26 info_str rfl (by decide) _ L [(s.extract m k).data.toList] _ rfl rfl (own_below HO.out ((Below.refl _ _).alloc (Nat.le_refl _) _)) (Sl.of_own (own_str (base := wr.heap.size) (heap_new rfl) (Nat.le_refl _))) (by simp; omega) (by have := HB.out.size; simp; omega) ?_); intro v2 w2 hown2 hg _)
        obtain ⟨A2, c2, rfl, _⟩ := Sl.of_own (b := 0) hown2
        have H3 := Aside0.mk (show PtS s.data.toList w.heap.size _ w2 (k + 1) (k + 1) ∧ Below w.heap.size w w2 from ⟨⟨L ++ [(s.extract m k).data.toList], by simp; exact hL, hown2, .inr ⟨by rw [HZ.out, HK.out], HN.out⟩⟩, (HB.out.alloc HB.out.size _).grown hg (by have := HB.out.size; simp; omega) (own_base HO.out)⟩)
        clear hown2 hg
        go_wp2_with fail
        go_roundw
        case rel => exact ⟨k + 1, k + 1, _, _, _, by omega, by omega, by go_num, by go_num, rfl, H3⟩
        case measure => simp [intOf]; omega
      · have e1 : ((k : Int) == (s.size : Int)) = false := by rw [beq_eq_false_iff_ne]; omega
        have e2 : ((s[k].toNat : Int) == 47) = true := by rw [beq_iff_eq, ← HL.out k h1, h2]; rfl
        have HN : Aside0 (splitP s.data.toList = L ++ [(s.extract m k).data.toList] ++ splitP (s.data.toList.drop (k + 1))) := ⟨by rw [HX.out, HIN.out.2.1, part_mid hm (by rw [HZ.out]; exact h1) h2 HIN.out.2.2, List.append_assoc]; rfl⟩
        clear h2
        go_wp2_with (at_builtin; go_must (refine append_row tv (fun _ => rfl) rfl (.tmp 22) (.tmp 27) 26 rfl w.heap.size 9 9 wr.heap.size _ _ Tryd.underlying26 info_str rfl (by decide) _ L [(s.extract m k).data.toList] _ rfl rfl (own_below HO.out ((Below.refl _ _).alloc (Nat.le_refl _) _)) (Sl.of_own (own_str (base := wr.heap.size) (heap_new rfl) (Nat.le_refl _))) (by simp; omega) (by have := HB.out.size; simp; omega) ?_); intro v2 w2 hown2 hg _)
        obtain ⟨A2, c2, rfl, _⟩ := Sl.of_own (b := 0) hown2
        have H3 := Aside0.mk (show PtS s.data.toList w.heap.size _ w2 (k + 1) (k + 1) ∧ Below w.heap.size w w2 from ⟨⟨L ++ [(s.extract m k).data.toList], by simp; exact hL, hown2, .inl ⟨by rw [HZ.out]; omega, Nat.le_refl _, HN.out, by simp⟩⟩, (HB.out.alloc HB.out.size _).grown hg (by have := HB.out.size; simp; omega) (own_base HO.out)⟩)
        clear hown2 hg
        go_wp2_with fail
        go_roundw
        case rel => exact ⟨k + 1, k + 1, _, _, _, by omega, by omega, by go_num, by go_num, rfl, H3⟩
        case measure => simp [intOf]; omega
      · have e1 : ((k : Int) == (s.size : Int)) = false := by rw [beq_eq_false_iff_ne]; omega
        have e2 : ((s[k].toNat : Int) == 47) = false := by
          rw [beq_eq_false_iff_ne, ← HL.out k h1]; intro h; exact h2 (UInt8.toNat_inj.1 (by have : (47 : UInt8).toNat = 47 := rfl; omega))
        have H3 := Aside0.mk (show PtS s.data.toList w.heap.size (.slice A n c) wr (k + 1) m ∧ Below w.heap.size w wr from ⟨⟨L, by omega, HO.out, .inl ⟨by rw [HZ.out]; omega, by omega, HIN.out.2.1, part_next hm (by rw [HZ.out]; exact h1) h2 HIN.out.2.2⟩⟩, HB.out⟩)
        clear h2
        go_wp2_with fail
        go_roundw
        case rel => exact ⟨k + 1, m, _, _, _, by omega, by omega, by go_num, rfl, rfl, H3⟩
        case measure => simp [intOf]; omega
    · have HN : Aside0 (splitP s.data.toList = L) := ⟨by
        rcases HST.out with ⟨h1, _⟩ | ⟨_, h2⟩
        · rw [HZ.out] at h1; omega
        · exact h2⟩
      go_wp2_with fail
      go_ret
      exact ⟨_, rfl, by rw [HN.out]; exact Sl.of_own HO.out, ⟨_, _, _, rfl⟩, HB.out⟩
end Go.Proofs.YtoigmepkhiknbaaDoor
