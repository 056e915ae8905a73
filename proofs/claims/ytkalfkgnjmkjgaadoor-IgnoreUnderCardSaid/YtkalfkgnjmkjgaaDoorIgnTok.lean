/-
  A pattern's pieces. No condition but a length.
-/
import Derived.Test.YtkalfkgnjmkjgaaDoorIgnFns
import Derived.Test.YtkalfkgnjmkjgaaDoorPathFns3
namespace Go.Proofs.YtkalfkgnjmkjgaaDoor
open Go.RowKit Go.Joins
set_option linter.unusedVariables false
set_option linter.unusedSimpArgs false

theorem drop_two {S : List UInt8} {k : Nat} (h : k + 1 < S.length) : S.drop k = S.getD k 0 :: S.getD (k + 1) 0 :: S.drop (k + 2) := by
  rw [List.drop_eq_getElem_cons (by omega : k < S.length), List.drop_eq_getElem_cons (by omega : k + 1 < S.length)]
  simp [List.getElem?_eq_getElem, h, (by omega : k < S.length)]
theorem drop_one {S : List UInt8} {k : Nat} (h : k < S.length) : S.drop k = S.getD k 0 :: S.drop (k + 1) := by
  rw [List.drop_eq_getElem_cons h]
  simp [List.getElem?_eq_getElem, h]
theorem tokL_wide {S : List UInt8} {k : Nat} (h : k + 1 < S.length) (h1 : S.getD k 0 = 42) (h2 : S.getD (k + 1) 0 = 42) : tokL (S.drop k) = ⟨0, true, true, false⟩ :: tokL (S.drop (k + 2)) := by
  rw [drop_two h, h1, h2, tokL]; rfl
theorem tokL_star {S : List UInt8} {k : Nat} (h : k < S.length) (h1 : S.getD k 0 = 42) (h2 : ¬ (k + 1 < S.length ∧ S.getD (k + 1) 0 = 42)) : tokL (S.drop k) = ⟨0, true, false, false⟩ :: tokL (S.drop (k + 1)) := by
  by_cases hk : k + 1 < S.length
  · have hn : S.getD (k + 1) 0 ≠ 42 := fun e => h2 ⟨hk, e⟩
    rw [drop_two hk, h1, tokL, if_pos rfl, if_neg hn, drop_one hk]
  · rw [drop_one h, List.drop_of_length_le (by omega), h1]; rfl
theorem tokL_sign {S : List UInt8} {k : Nat} (h : k < S.length) (h1 : S.getD k 0 ≠ 42) : tokL (S.drop k) = ⟨S.getD k 0, false, false, S.getD k 0 == 63⟩ :: tokL (S.drop (k + 1)) := by
  by_cases hk : k + 1 < S.length
  · rw [drop_two hk, tokL, if_neg h1, drop_one hk]
  · rw [drop_one h, List.drop_of_length_le (by omega), tokL, if_neg h1]; rfl

theorem info_tok : (Tryd.prog.info? 51).map (fun i => (i.zero, i.size, i.bytes)) = some (some (.agg #[.int .u8 0, .bool false, .bool false, .bool false]), 4, 4) := by kernel_rfl
theorem tokC_one (t : Tok) : ∀ c ∈ tokC t, c.oneCell' = true := by
  intro c hc
  simp only [tokC, List.mem_cons, List.not_mem_nil, or_false] at hc
  rcases hc with rfl | rfl | rfl | rfl <;> rfl
theorem slc_tok {w : World} {b g : Nat} {t : Tok} (h : w.heap[g]? = some (.cells #[.int .u8 (t.c.toNat : Int), .bool t.star, .bool t.wide, .bool t.any] 51 (0, 0))) : SlC tokC 51 w b (.slice (some ⟨g, 0, none⟩) 1 1) [t] :=
  SlC.of_own (cells := tokC) (xs := [t]) (k := 4) (base := 0) ⟨by simp [tokC_len], .inr ⟨g, 1, _, rfl, Nat.zero_le _, h, Nat.le_refl _, by simp [maxLen], by simp, by simp [tokC]⟩⟩ b

def TkS (S : List UInt8) (base : Nat) (v : Value) (w : World) (k : Nat) : Prop :=
  ∃ L : List Tok, L.length ≤ k ∧ w.ownsRow base 51 4 v L.length (L.flatMap tokC) ∧ tokL S = L ++ tokL (S.drop k)

set_option maxHeartbeats 4000000 in
theorem tokens_calls (s : ByteArray) (w : World) (hs : s.size ≤ 1000000000) :
    Calls Tryd.prog 23 #[.string s] w fun e w' => ∃ v, e = .returned v ∧ w'.ownsRow w.heap.size 51 4 v (tokL s.data.toList).length ((tokL s.data.toList).flatMap tokC) ∧ (∃ A n c, v = .slice A n c) ∧ Below w.heap.size w w' := by
  have HL : Aside0 (∀ k (hk : k < s.size), s.data.toList.getD k 0 = s[k]) := ⟨fun k hk => by
    have h : k < s.data.toList.length := by rw [Array.length_toList]; exact hk
    rw [List.getD_eq_getElem?_getD, List.getElem?_eq_getElem h]; rfl⟩
  have HZ := Aside0.mk (len_data s)
  go_enter Tryd.func23, Tryd.ntmps23
  go_wp2_with fail
  go_loopw [2, 3] (fun v i wr => ∃ (k c : Nat) (A : Option Addr) (n : Nat), k ≤ s.size ∧ i = .int .i64 k ∧ v = .slice A n c ∧ Aside0 (TkS s.data.toList w.heap.size v wr k ∧ Below w.heap.size w wr)) (fun v i wr => s.size - (intOf i).toNat)
  case atStart => exact ⟨0, 0, none, 0, by omega, rfl, rfl, ⟨⟨[], by simp, World.ownsRow_nil _ _ _ _, rfl⟩, Below.refl _ _⟩⟩
  case round =>
    obtain ⟨k, c, A, n, hk, rfl, rfl, hs2⟩ := hrel
    obtain ⟨L, hL, hown, hst⟩ := hs2.out.1
    have HO := Aside0.mk hown
    have HB := Aside0.mk hs2.out.2
    have HST := Aside0.mk hst
    clear hown hst hs2
    by_cases hend : k < s.size
    · by_cases hc : s.data.toList.getD k 0 = 42
      · have e2 : ((s[k].toNat : Int) == 42) = true := by rw [beq_iff_eq, ← HL.out k hend, hc]; rfl
        by_cases hw : k + 1 < s.size ∧ s.data.toList.getD (k + 1) 0 = 42
        · obtain ⟨hw1, hw2⟩ := hw
          have e3 : ((s[k + 1].toNat : Int) == 42) = true := by rw [beq_iff_eq, ← HL.out (k + 1) hw1, hw2]; rfl
          have HN : Aside0 (tokL s.data.toList = (L ++ [⟨0, true, true, false⟩]) ++ tokL (s.data.toList.drop (k + 2))) := ⟨by rw [HST.out, tokL_wide (by rw [HZ.out]; exact hw1) hc hw2, List.append_assoc]; rfl⟩
          clear hc hw2
          go_wp2_with (at_builtin
                       go_must (refine wpList_append_rows tokC 4 tokC_len (by decide) rfl (.tmp 40) (.tmp 42) 45 rfl w.heap.size 51 51 0 (.agg #[.int .u8 0, .bool false, .bool false, .bool false]) 4 Tryd.underlying45 info_tok rfl (by decide) (.slice A n c) L [⟨0, true, true, false⟩] (.slice (some ⟨wr.heap.size, 0, none⟩) 1 1) rfl rfl (own_below HO.out ((Below.refl _ _).alloc (Nat.le_refl _) _)) (slc_tok (heap_new rfl)) (fun y hy => tokC_one y) (by simp; omega) (by have := HB.out.size; simp; omega) ?_)
                       intro v2 w2 hown2 hgr2 hsh2
                       obtain ⟨A2, n2, c2, rfl⟩ := hsh2
                       have H3 := Aside0.mk (show TkS s.data.toList w.heap.size _ w2 (k + 2) ∧ Below w.heap.size w w2 from ⟨⟨L ++ [⟨0, true, true, false⟩], by simp; omega, hown2, HN.out⟩, (HB.out.alloc HB.out.size _).grown hgr2 (by have := HB.out.size; simp; omega) (own_base HO.out)⟩)
                       clear hown2 hgr2)
          go_roundw
          case rel => exact ⟨k + 2, _, _, _, by omega, by go_num, rfl, H3⟩
          case measure => simp [intOf]; omega
        · have HN : Aside0 (tokL s.data.toList = (L ++ [⟨0, true, false, false⟩]) ++ tokL (s.data.toList.drop (k + 1))) := ⟨by rw [HST.out, tokL_star (by rw [HZ.out]; exact hend) hc (by rw [HZ.out]; exact hw), List.append_assoc]; rfl⟩
          have hw' : s.size ≤ k + 1 ∨ (k + 1 < s.size ∧ s.data.toList.getD (k + 1) 0 ≠ 42) := by
            by_cases h1 : k + 1 < s.size
            · exact .inr ⟨h1, fun e => hw ⟨h1, e⟩⟩
            · exact .inl (by omega)
          clear hc hw
          have HB0 : Aside0 (∀ o, Below wr.heap.size wr (wr.alloc o)) := ⟨fun o => (Below.refl _ _).alloc (Nat.le_refl _) o⟩
          rcases hw' with hw1 | ⟨hw1, hw2⟩
          · have hw3 : ¬ (k + 1 < s.size) := by omega
            go_wp2_with (at_builtin
                         go_must (refine wpList_append_rows tokC 4 tokC_len (by decide) rfl (.tmp 51) (.tmp 53) 45 rfl w.heap.size 51 51 0 (.agg #[.int .u8 0, .bool false, .bool false, .bool false]) 4 Tryd.underlying45 info_tok rfl (by decide) (.slice A n c) L [⟨0, true, false, false⟩] (.slice (some ⟨wr.heap.size, 0, none⟩) 1 1) rfl rfl (own_below HO.out ((Below.refl _ _).alloc (Nat.le_refl _) _)) (slc_tok (heap_new rfl)) (fun y hy => tokC_one y) (by simp; omega) (by have := HB.out.size; simp; omega) ?_)
                         intro v2 w2 hown2 hgr2 hsh2
                         obtain ⟨A2, n2, c2, rfl⟩ := hsh2
                         have H3 := Aside0.mk (show TkS s.data.toList w.heap.size _ w2 (k + 1) ∧ Below w.heap.size w w2 from ⟨⟨L ++ [⟨0, true, false, false⟩], by simp; omega, hown2, HN.out⟩, (HB.out.alloc HB.out.size _).grown hgr2 (by have := HB.out.size; simp; omega) (own_base HO.out)⟩)
                         clear hown2 hgr2)
            go_roundw
            case rel => exact ⟨k + 1, _, _, _, by omega, by go_num, rfl, H3⟩
            case measure => simp [intOf]; omega
          · have e3 : ((s[k + 1].toNat : Int) == 42) = false := by
              rw [beq_eq_false_iff_ne, ← HL.out (k + 1) hw1]; intro h; exact hw2 (UInt8.toNat_inj.1 (by have : (42 : UInt8).toNat = 42 := rfl; omega))
            clear hw2
            go_wp2_with (at_builtin
                         go_must (refine wpList_append_rows tokC 4 tokC_len (by decide) rfl (.tmp 51) (.tmp 53) 45 rfl w.heap.size 51 51 0 (.agg #[.int .u8 0, .bool false, .bool false, .bool false]) 4 Tryd.underlying45 info_tok rfl (by decide) (.slice A n c) L [⟨0, true, false, false⟩] (.slice (some ⟨wr.heap.size, 0, none⟩) 1 1) rfl rfl (own_below HO.out ((Below.refl _ _).alloc (Nat.le_refl _) _)) (slc_tok (heap_new rfl)) (fun y hy => tokC_one y) (by simp; omega) (by have := HB.out.size; simp; omega) ?_)
                         intro v2 w2 hown2 hgr2 hsh2
                         obtain ⟨A2, n2, c2, rfl⟩ := hsh2
                         have H3 := Aside0.mk (show TkS s.data.toList w.heap.size _ w2 (k + 1) ∧ Below w.heap.size w w2 from ⟨⟨L ++ [⟨0, true, false, false⟩], by simp; omega, hown2, HN.out⟩, (HB.out.alloc HB.out.size _).grown hgr2 (by have := HB.out.size; simp; omega) (own_base HO.out)⟩)
                         clear hown2 hgr2)
            go_roundw
            case rel => exact ⟨k + 1, _, _, _, by omega, by go_num, rfl, H3⟩
            case measure => simp [intOf]; omega
      · have e2 : ((s[k].toNat : Int) == 42) = false := by
          rw [beq_eq_false_iff_ne, ← HL.out k hend]; intro h; exact hc (UInt8.toNat_inj.1 (by have : (42 : UInt8).toNat = 42 := rfl; omega))
        have e4 : ((s[k].toNat : Int) == 63) = (s[k] == 63) := by
          rw [Bool.eq_iff_iff, beq_iff_eq, beq_iff_eq]
          exact ⟨fun h => UInt8.toNat_inj.1 (by have : (63 : UInt8).toNat = 63 := rfl; omega), fun h => by rw [h]; rfl⟩
        have HN : Aside0 (tokL s.data.toList = (L ++ [⟨s[k], false, false, s[k] == 63⟩]) ++ tokL (s.data.toList.drop (k + 1))) := ⟨by rw [HST.out, tokL_sign (by rw [HZ.out]; exact hend) hc, HL.out k hend, List.append_assoc]; rfl⟩
        clear hc
        go_upto_region 4 with fail
        go_region_law
          (refine step_append_rows tokC 4 tokC_len (by decide) rfl (.tmp 10) (.tmp 19) 45 rfl w.heap.size 51 51 0 (.agg #[.int .u8 0, .bool false, .bool false, .bool false]) 4 Tryd.underlying45 info_tok rfl (by decide) (.slice A n c) L [⟨s[k], false, false, s[k] == 63⟩] (.slice (some ⟨wr.heap.size, 0, none⟩) 1 1) rfl rfl (own_below (own_below HO.out ((Below.refl _ _).alloc (Nat.le_refl _) _)) (Below.refl _ _).drew) ((slc_tok (heap_new rfl)).below (Below.refl _ _).drew) (fun y hy => tokC_one y) (by simp; omega) (by have := HB.out.size; simp; omega) ?_
           intro v2 w2 hown2 hgr2 hsh2
           obtain ⟨A2, n2, c2, rfl⟩ := hsh2
           have H3 := Aside0.mk (show TkS s.data.toList w.heap.size _ w2 (k + 1) ∧ Below w.heap.size w w2 from ⟨⟨L ++ [⟨s[k], false, false, s[k] == 63⟩], by simp; omega, hown2, HN.out⟩, ((HB.out.alloc HB.out.size _).drew).grown hgr2 (by have := HB.out.size; simp; omega) (own_base HO.out)⟩)
           clear hown2 hgr2)
        all_goals
          go_wp2_with fail
          go_roundw
          case rel => exact ⟨k + 1, _, _, _, by omega, by go_num, rfl, H3⟩
          case measure => simp [intOf]; omega
    · have hkk : k = s.size := by omega
      have HN : Aside0 (tokL s.data.toList = L) := ⟨by rw [HST.out, List.drop_of_length_le (by rw [HZ.out]; omega)]; show L ++ [] = L; rw [List.append_nil]⟩
      go_wp2_with fail
      go_ret
      exact ⟨_, rfl, by rw [HN.out]; exact HO.out, ⟨_, _, _, rfl⟩, HB.out⟩
end Go.Proofs.YtkalfkgnjmkjgaaDoor
