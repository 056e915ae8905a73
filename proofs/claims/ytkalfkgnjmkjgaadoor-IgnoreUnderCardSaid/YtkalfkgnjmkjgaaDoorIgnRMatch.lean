/-
  The reference's Match. No condition.
-/
import Derived.Test.YtkalfkgnjmkjgaaDoorIgnMatch
namespace Go.Proofs.YtkalfkgnjmkjgaaDoor
open Go.RowKit Go.Joins
set_option linter.unusedVariables false
set_option linter.unusedSimpArgs false

/-- A row of the reference's, the first k being set. -/
def rowP (l : List Tok) (S : List UInt8) (j k : Nat) : List Bool := (List.range (S.length + 1)).map fun m => decide (m < k) && pre l S j m
theorem rowP_length (l : List Tok) (S : List UInt8) (j k : Nat) : (rowP l S j k).length = S.length + 1 := by simp [rowP]
theorem rowP_zero (l : List Tok) (S : List UInt8) (j : Nat) : rowP l S j 0 = List.replicate (S.length + 1) false := by
  apply List.ext_getElem
  · simp [rowP]
  · intro i h1 h2
    simp [rowP]
theorem rowP_at {l : List Tok} {S : List UInt8} {j k : Nat} (h : k ≤ S.length) : (rowP l S j (S.length + 1)).getD k false = pre l S j k := by
  simp [rowP, List.getD_eq_getElem?_getD, List.getElem?_map, List.getElem?_range (show k < S.length + 1 by omega)]
  omega
theorem rowP_set {l : List Tok} {S : List UInt8} {j k : Nat} (h : k ≤ S.length) : rowP l S j (k + 1) = (rowP l S j k).set k (pre l S j k) := by
  refine set_range _ _ _ _ _ (by omega) (fun m hm hne => ?_) ?_
  · have : decide (m < k + 1) = decide (m < k) := by rw [decide_eq_decide]; omega
    rw [this]
  · simp
theorem rowP_no {l : List Tok} {S : List UInt8} {j k : Nat} (h : pre l S j k = false) : rowP l S j (k + 1) = rowP l S j k := by
  unfold rowP
  congr 1
  funext m
  by_cases hm : m = k
  · subst hm; rw [h, Bool.and_false, Bool.and_false]
  · have : decide (m < k + 1) = decide (m < k) := by rw [decide_eq_decide]; omega
    rw [this]
theorem rowP_first (l : List Tok) (S : List UInt8) : (List.replicate (S.length + 1) false).set 0 true = rowP l S 0 (S.length + 1) := by
  apply List.ext_getElem
  · simp [rowP]
  · intro i h1 h2
    rw [List.length_set, List.length_replicate] at h1
    rw [List.getElem_set]
    simp only [rowP, List.getElem_map, List.getElem_range, pre_zero, List.getElem_replicate]
    split
    · rename_i h; subst h; simp
    · rename_i h
      have : (i == 0) = false := by rw [beq_eq_false_iff_ne]; omega
      rw [this, Bool.and_false]
theorem tk_app (L : List Tok) (t : Tok) (r : List Tok) : tk (L ++ t :: r) L.length = t := by
  unfold tk
  rw [List.getD_eq_getElem?_getD, List.getElem?_append_right (Nat.le_refl _), Nat.sub_self]; rfl
def onB (l : List Tok) (S : List UInt8) (j k : Nat) : Bool := decide (0 < k) && pre l S (j + 1) (k - 1)
theorem onB_zero (l : List Tok) (S : List UInt8) (j : Nat) : onB l S j 0 = false := rfl
theorem onB_succ (l : List Tok) (S : List UInt8) (j k : Nat) : onB l S j (k + 1) = pre l S (j + 1) k := by simp [onB]

theorem rmatch_big (p s : ByteArray) (w : World) (h : 200 < p.size ∨ 200 < s.size) :
    Calls Tryd.prog 10 #[.string p, .string s] w fun e w' => e = .returned (.bool (matchL p.data.toList s.data.toList)) ∧ Below w.heap.size w w' := by
  have hm : matchL p.data.toList s.data.toList = false := by unfold matchL; rw [if_pos (by rw [len_data, len_data]; exact h)]
  rw [hm]
  by_cases h1 : 200 < p.size
  · clear h
    go_enter Tryd.func10, Tryd.ntmps10
    go_wp2_with fail
    go_ret
    exact ⟨rfl, Below.refl _ _⟩
  · have h2 : 200 < s.size := by omega
    clear h
    go_enter Tryd.func10, Tryd.ntmps10
    go_wp2_with fail
    go_ret
    exact ⟨rfl, Below.refl _ _⟩

set_option maxRecDepth 4000 in
set_option maxHeartbeats 8000000 in
theorem rmatch_calls (p s : ByteArray) (w : World) (hp : p.size ≤ 200) (hs : s.size ≤ 200) :
    Calls Tryd.prog 10 #[.string p, .string s] w fun e w' => e = .returned (.bool (matchL p.data.toList s.data.toList)) ∧ Below w.heap.size w w' := by
  have hm : matchL p.data.toList s.data.toList = pre (tokL p.data.toList) s.data.toList (tokL p.data.toList).length s.data.toList.length := by unfold matchL; rw [if_neg (by rw [len_data, len_data]; omega)]
  rw [hm]
  have HP : Aside0 (∀ k (hk : k < p.size), p.data.toList.getD k 0 = p[k]) := ⟨fun k hk => by
    have h : k < p.data.toList.length := by rw [Array.length_toList]; exact hk
    rw [List.getD_eq_getElem?_getD, List.getElem?_eq_getElem h]; rfl⟩
  have HL : Aside0 (∀ k (hk : k < s.size), s.data.toList.getD k 0 = s[k]) := ⟨fun k hk => by
    have h : k < s.data.toList.length := by rw [Array.length_toList]; exact hk
    rw [List.getD_eq_getElem?_getD, List.getElem?_eq_getElem h]; rfl⟩
  have HZ := Aside0.mk (len_data s)
  have HZP := Aside0.mk (len_data p)
  obtain ⟨l, hl⟩ : ∃ l, l = tokL p.data.toList := ⟨_, rfl⟩
  have HT := Aside0.mk hl
  rw [← hl] at ⊢
  obtain ⟨S, hS⟩ : ∃ S, S = s.data.toList := ⟨_, rfl⟩
  rw [← hS] at HZ HL ⊢
  obtain ⟨P, hP⟩ : ∃ P, P = p.data.toList := ⟨_, rfl⟩
  rw [← hP] at HZP HP HT
  clear hm hl hS hP
  obtain ⟨i0, hi, hz0, hz1, hz2⟩ := info_parts info_bool
  go_enter Tryd.func10, Tryd.ntmps10
  go_wp2_with (at_make; go_must (refine wpList_make_full _ rfl _ _ 47 rfl w.heap.size 4 i0 _ 1 Tryd.underlying47 hi hz0 hz1 _ _ _ _ (s.size + 1) rfl rfl rfl rfl (by rw [hz2]; omega) (by simp only [maxLen]; omega) (Nat.le_refl _) ?_); intro w2 hown2 hgrow2
               have hz := made_bools (s.size + 1); simp only [Value.cells, Nat.mul_one] at hown2; rw [hz] at hown2; clear hz
               have H2 := Aside0.mk (show OwnT w2 w.heap.size (.slice (some ⟨w.heap.size, 0, none⟩) (s.size + 1) (s.size + 1)) (List.replicate (s.size + 1) false) ∧ Below w.heap.size w w2 from ⟨by unfold OwnT; simpa using hown2, below_none hgrow2⟩); clear hown2 hgrow2
               obtain ⟨q1, q2⟩ := ownT_at H2.out.1 0 (by simp))
  obtain ⟨hs1, hs2⟩ := ownT_set H2.out.1 0 true
  have H3 := Aside0.mk (show OwnT (w2.setCell ⟨w.heap.size, 0, none⟩ (.bool true)) w.heap.size (.slice (some ⟨w.heap.size, 0, none⟩) (s.size + 1) (s.size + 1)) (rowP l S 0 (S.length + 1)) ∧ Below w.heap.size w (w2.setCell ⟨w.heap.size, 0, none⟩ (.bool true)) from ⟨by rw [← rowP_first, HZ.out]; exact hs1, below_grown H2.out.2 H2.out.2.size hs2 (by rintro k hk; cases hk; exact Nat.le_refl _)⟩)
  clear hs1 hs2 q1 q2
  go_loopw [5, 6] (fun v i wr => ∃ (q j g cap : Nat), q ≤ p.size ∧ i = .int .i64 q ∧ v = .slice (some ⟨g, 0, none⟩) (s.size + 1) cap ∧ Aside0 (OwnT wr w.heap.size (.slice (some ⟨g, 0, none⟩) (s.size + 1) cap) (rowP l S j (S.length + 1)) ∧ Below w.heap.size w wr ∧ ∃ L, L.length = j ∧ l = L ++ tokL (P.drop q))) (fun v i wr => p.size - (intOf i).toNat)
  case atStart => exact ⟨0, 0, _, _, Nat.zero_le _, rfl, rfl, ⟨H3.out.1, H3.out.2, [], rfl, HT.out⟩⟩
  case round =>
    rename World => wo
    obtain ⟨q, j, g, cap, hq, rfl, rfl, hs2⟩ := hrel
    obtain ⟨L, hL, hst⟩ := hs2.out.2.2
    have HO := Aside0.mk (And.intro hs2.out.1 hs2.out.2.1)
    have HST := Aside0.mk (And.intro hL hst)
    clear hL hst hs2
    by_cases hend : q < p.size
    · by_cases hc : P.getD q 0 = 42
      · have e2 : ((p[q].toNat : Int) == 42) = true := by rw [beq_iff_eq, ← HP.out q hend, hc]; rfl
        by_cases hw : q + 1 < p.size ∧ P.getD (q + 1) 0 = 42
        · obtain ⟨hw1, hw2⟩ := hw
          have e3 : ((p[q + 1].toNat : Int) == 42) = true := by rw [beq_iff_eq, ← HP.out (q + 1) hw1, hw2]; rfl
          have HN : Aside0 (l = L ++ ⟨0, true, true, false⟩ :: tokL (P.drop (q + 2))) := ⟨by rw [HST.out.2, tokL_wide (by rw [HZP.out]; exact hw1) hc hw2]⟩
          have HTK : Aside0 (tk l j = ⟨0, true, true, false⟩) := ⟨by rw [HN.out, ← HST.out.1]; exact tk_app _ _ _⟩
          clear hc hw2
          have HS1 : Aside0 ((tk l j).star = true) := ⟨by rw [HTK.out]⟩
          have HQ : Aside0 (∀ x : UInt8, fitB (tk l j) x = (true || !decide ((x.toNat : Int) = 47))) := ⟨fun x => by
            rw [HTK.out]
            have h2 : (x != 47) = !decide ((x.toNat : Int) = 47) := by
              rw [bne]; congr 1
              rw [Bool.eq_iff_iff, beq_iff_eq, decide_eq_true_eq]
              exact ⟨fun h => by rw [h]; rfl, fun h => UInt8.toNat_inj.1 (by have : (47 : UInt8).toNat = 47 := rfl; omega)⟩
            show (if true = true then (true || x != 47) else _) = _
            rw [h2]; rfl⟩
          go_wp2_with (at_make; go_must (refine wpList_make_full _ rfl _ _ 47 rfl wo.heap.size 4 i0 _ 1 Tryd.underlying47 hi hz0 hz1 _ _ _ _ (s.size + 1) rfl rfl rfl rfl (by rw [hz2]; omega) (by simp only [maxLen]; omega) (Nat.le_refl _) ?_); intro w5 hown5 hgrow5
                       have hz := made_bools (s.size + 1); simp only [Value.cells, Nat.mul_one] at hown5; rw [hz] at hown5; clear hz
                       have H5 := Aside0.mk (show OwnT w5 wo.heap.size (.slice (some ⟨wo.heap.size, 0, none⟩) (s.size + 1) (s.size + 1)) (List.replicate (s.size + 1) false) ∧ Below wo.heap.size wo w5 from ⟨by unfold OwnT; simpa using hown5, below_none hgrow5⟩); clear hown5 hgrow5)
          go_loopw [10, 11] (fun o m wr => ∃ k : Nat, k ≤ s.size + 1 ∧ m = .int .i64 k ∧ o = .bool (onB l S j k) ∧ Aside0 (OwnT wr wo.heap.size (.slice (some ⟨wo.heap.size, 0, none⟩) (s.size + 1) (s.size + 1)) (rowP l S (j + 1) k) ∧ Below wo.heap.size wo wr)) (fun o m wr => s.size + 1 - (intOf m).toNat)
          case atStart => exact ⟨0, Nat.zero_le _, rfl, rfl, ⟨by rw [rowP_zero, HZ.out]; exact H5.out.1, H5.out.2⟩⟩
          case round =>
            obtain ⟨k, hk, rfl, rfl, hs3⟩ := hrel
            by_cases hkk : k ≤ s.size
            · obtain ⟨o1, o2⟩ := ownT_at (own_below HO.out.1 hs3.out.2) k (by rw [rowP_length, HZ.out]; omega)
              rw [rowP_at (by rw [HZ.out]; omega)] at o1
              obtain ⟨p1, p2⟩ := ownT_at hs3.out.1 k (by rw [rowP_length, HZ.out]; omega)
              rcases Nat.eq_zero_or_pos k with hk0 | hk0
              · subst hk0
                rw [onB_zero]
                have HV : Aside0 (pre l S (j + 1) 0 = pre l S j 0) := ⟨pre_star0 HS1.out⟩
                obtain ⟨b, hb⟩ : ∃ b, b = pre l S j 0 := ⟨_, rfl⟩
                rw [← hb] at HV o1
                clear hb
                go_wp2_with fail
                go_roundw
                case rel => exact ⟨1, by omega, rfl, by rw [onB_succ, HV.out], ⟨by rw [rowP_set (by omega), HV.out]; exact (ownT_set hs3.out.1 0 b).1, below_grown hs3.out.2 hs3.out.2.size (ownT_set hs3.out.1 0 b).2 (by rintro k hk; cases hk; exact Nat.le_refl _)⟩⟩
                case measure => simp [intOf]
              · obtain ⟨d, rfl⟩ : ∃ d, k = d + 1 := ⟨k - 1, by omega⟩
                rw [onB_succ]
                have hd : d < s.size := by omega
                have HV : Aside0 (pre l S (j + 1) (d + 1) = (pre l S j (d + 1) || ((true || !decide ((s[d].toNat : Int) = 47)) && pre l S (j + 1) d))) := ⟨by rw [pre_star HS1.out, HQ.out, HL.out d hd]⟩
                obtain ⟨b, hb⟩ : ∃ b, b = pre l S j (d + 1) := ⟨_, rfl⟩
                obtain ⟨o, ho⟩ : ∃ o, o = pre l S (j + 1) d := ⟨_, rfl⟩
                rw [← hb] at o1
                rw [← ho]
                rw [← hb, ← ho] at HV
                clear hb ho
                have hdd : ((d + 1 : Nat) : Int) - 1 = (d : Int) := by omega
                by_cases hz : (s[d].toNat : Int) = 47
                · have y1 : ((s[d].toNat : Int) == 47) = true := by rw [beq_iff_eq]; exact hz
                  have HV2 : Aside0 (pre l S (j + 1) (d + 1) = (b || (true && o))) := ⟨by rw [HV.out, decide_eq_true hz]; simp⟩
                  clear hz HV
                  cases o
                  all_goals
                    go_wp2_with fail
                    go_roundw
                    case rel => exact ⟨d + 2, by omega, by go_num, by rw [onB_succ, HV2.out]; simp, ⟨by rw [rowP_set (by rw [HZ.out]; omega), HV2.out]; simpa using (ownT_set hs3.out.1 (d + 1) _).1, below_grown hs3.out.2 hs3.out.2.size (ownT_set hs3.out.1 (d + 1) _).2 (by rintro k hk; cases hk; exact Nat.le_refl _)⟩⟩
                    case measure => simp [intOf]; omega
                · have y1 : ((s[d].toNat : Int) == 47) = false := by rw [beq_eq_false_iff_ne]; exact hz
                  have HV2 : Aside0 (pre l S (j + 1) (d + 1) = (b || o)) := ⟨by rw [HV.out, decide_eq_false hz]; simp⟩
                  clear hz HV
                  cases o
                  all_goals
                    go_wp2_with fail
                    go_roundw
                    case rel => exact ⟨d + 2, by omega, by go_num, by rw [onB_succ, HV2.out]; simp, ⟨by rw [rowP_set (by rw [HZ.out]; omega), HV2.out]; simpa using (ownT_set hs3.out.1 (d + 1) _).1, below_grown hs3.out.2 hs3.out.2.size (ownT_set hs3.out.1 (d + 1) _).2 (by rintro k hk; cases hk; exact Nat.le_refl _)⟩⟩
                    case measure => simp [intOf]; omega
            · have hkn : k = s.size + 1 := by omega
              have H7 := Aside0.mk (show OwnT wr w.heap.size (.slice (some ⟨wo.heap.size, 0, none⟩) (s.size + 1) (s.size + 1)) (rowP l S (j + 1) (S.length + 1)) ∧ Below w.heap.size w wr from ⟨by
                have h := own_mono (base' := w.heap.size) hs3.out.1 HO.out.2.size
                rw [hkn, ← HZ.out] at h
                rw [← HZ.out]; exact h, below_then HO.out.2 HO.out.2.size hs3.out.2⟩)
              clear hkn
              go_wp2_with fail
              go_roundw
              case rel => exact ⟨q + 2, j + 1, _, _, by omega, by go_num, rfl, ⟨H7.out.1, H7.out.2, L ++ [⟨0, true, true, false⟩], by simp [HST.out.1], by rw [List.append_assoc]; exact HN.out⟩⟩
              case measure => simp [intOf]; omega
        · have HN : Aside0 (l = L ++ ⟨0, true, false, false⟩ :: tokL (P.drop (q + 1))) := ⟨by rw [HST.out.2, tokL_star (by rw [HZP.out]; exact hend) hc (by rw [HZP.out]; exact hw)]⟩
          have HTK : Aside0 (tk l j = ⟨0, true, false, false⟩) := ⟨by rw [HN.out, ← HST.out.1]; exact tk_app _ _ _⟩
          have hw' : p.size ≤ q + 1 ∨ (q + 1 < p.size ∧ P.getD (q + 1) 0 ≠ 42) := by
            by_cases h1 : q + 1 < p.size
            · exact .inr ⟨h1, fun e => hw ⟨h1, e⟩⟩
            · exact .inl (by omega)
          clear hc hw
          rcases hw' with hw1 | ⟨hw1, hw2⟩
          · have hw3 : ¬ (q + 1 < p.size) := by omega
            have HS1 : Aside0 ((tk l j).star = true) := ⟨by rw [HTK.out]⟩
            have HQ : Aside0 (∀ x : UInt8, fitB (tk l j) x = (false || !decide ((x.toNat : Int) = 47))) := ⟨fun x => by
              rw [HTK.out]
              have h2 : (x != 47) = !decide ((x.toNat : Int) = 47) := by
                rw [bne]; congr 1
                rw [Bool.eq_iff_iff, beq_iff_eq, decide_eq_true_eq]
                exact ⟨fun h => by rw [h]; rfl, fun h => UInt8.toNat_inj.1 (by have : (47 : UInt8).toNat = 47 := rfl; omega)⟩
              show (if true = true then (false || x != 47) else _) = _
              rw [h2]; rfl⟩
            go_wp2_with (at_make; go_must (refine wpList_make_full _ rfl _ _ 47 rfl wo.heap.size 4 i0 _ 1 Tryd.underlying47 hi hz0 hz1 _ _ _ _ (s.size + 1) rfl rfl rfl rfl (by rw [hz2]; omega) (by simp only [maxLen]; omega) (Nat.le_refl _) ?_); intro w5 hown5 hgrow5
                         have hz := made_bools (s.size + 1); simp only [Value.cells, Nat.mul_one] at hown5; rw [hz] at hown5; clear hz
                         have H5 := Aside0.mk (show OwnT w5 wo.heap.size (.slice (some ⟨wo.heap.size, 0, none⟩) (s.size + 1) (s.size + 1)) (List.replicate (s.size + 1) false) ∧ Below wo.heap.size wo w5 from ⟨by unfold OwnT; simpa using hown5, below_none hgrow5⟩); clear hown5 hgrow5)
            go_loopw [10, 11] (fun o m wr => ∃ k : Nat, k ≤ s.size + 1 ∧ m = .int .i64 k ∧ o = .bool (onB l S j k) ∧ Aside0 (OwnT wr wo.heap.size (.slice (some ⟨wo.heap.size, 0, none⟩) (s.size + 1) (s.size + 1)) (rowP l S (j + 1) k) ∧ Below wo.heap.size wo wr)) (fun o m wr => s.size + 1 - (intOf m).toNat)
            case atStart => exact ⟨0, Nat.zero_le _, rfl, rfl, ⟨by rw [rowP_zero, HZ.out]; exact H5.out.1, H5.out.2⟩⟩
            case round =>
              obtain ⟨k, hk, rfl, rfl, hs3⟩ := hrel
              by_cases hkk : k ≤ s.size
              · obtain ⟨o1, o2⟩ := ownT_at (own_below HO.out.1 hs3.out.2) k (by rw [rowP_length, HZ.out]; omega)
                rw [rowP_at (by rw [HZ.out]; omega)] at o1
                obtain ⟨p1, p2⟩ := ownT_at hs3.out.1 k (by rw [rowP_length, HZ.out]; omega)
                rcases Nat.eq_zero_or_pos k with hk0 | hk0
                · subst hk0
                  rw [onB_zero]
                  have HV : Aside0 (pre l S (j + 1) 0 = pre l S j 0) := ⟨pre_star0 HS1.out⟩
                  obtain ⟨b, hb⟩ : ∃ b, b = pre l S j 0 := ⟨_, rfl⟩
                  rw [← hb] at HV o1
                  clear hb
                  go_wp2_with fail
                  go_roundw
                  case rel => exact ⟨1, by omega, rfl, by rw [onB_succ, HV.out], ⟨by rw [rowP_set (by omega), HV.out]; exact (ownT_set hs3.out.1 0 b).1, below_grown hs3.out.2 hs3.out.2.size (ownT_set hs3.out.1 0 b).2 (by rintro k hk; cases hk; exact Nat.le_refl _)⟩⟩
                  case measure => simp [intOf]
                · obtain ⟨d, rfl⟩ : ∃ d, k = d + 1 := ⟨k - 1, by omega⟩
                  rw [onB_succ]
                  have hd : d < s.size := by omega
                  have HV : Aside0 (pre l S (j + 1) (d + 1) = (pre l S j (d + 1) || ((false || !decide ((s[d].toNat : Int) = 47)) && pre l S (j + 1) d))) := ⟨by rw [pre_star HS1.out, HQ.out, HL.out d hd]⟩
                  obtain ⟨b, hb⟩ : ∃ b, b = pre l S j (d + 1) := ⟨_, rfl⟩
                  obtain ⟨o, ho⟩ : ∃ o, o = pre l S (j + 1) d := ⟨_, rfl⟩
                  rw [← hb] at o1
                  rw [← ho]
                  rw [← hb, ← ho] at HV
                  clear hb ho
                  have hdd : ((d + 1 : Nat) : Int) - 1 = (d : Int) := by omega
                  by_cases hz : (s[d].toNat : Int) = 47
                  · have y1 : ((s[d].toNat : Int) == 47) = true := by rw [beq_iff_eq]; exact hz
                    have HV2 : Aside0 (pre l S (j + 1) (d + 1) = (b || (false && o))) := ⟨by rw [HV.out, decide_eq_true hz]; simp⟩
                    clear hz HV
                    cases o
                    all_goals
                      go_wp2_with fail
                      go_roundw
                      case rel => exact ⟨d + 2, by omega, by go_num, by rw [onB_succ, HV2.out]; simp, ⟨by rw [rowP_set (by rw [HZ.out]; omega), HV2.out]; simpa using (ownT_set hs3.out.1 (d + 1) _).1, below_grown hs3.out.2 hs3.out.2.size (ownT_set hs3.out.1 (d + 1) _).2 (by rintro k hk; cases hk; exact Nat.le_refl _)⟩⟩
                      case measure => simp [intOf]; omega
                  · have y1 : ((s[d].toNat : Int) == 47) = false := by rw [beq_eq_false_iff_ne]; exact hz
                    have HV2 : Aside0 (pre l S (j + 1) (d + 1) = (b || o)) := ⟨by rw [HV.out, decide_eq_false hz]; simp⟩
                    clear hz HV
                    cases o
                    all_goals
                      go_wp2_with fail
                      go_roundw
                      case rel => exact ⟨d + 2, by omega, by go_num, by rw [onB_succ, HV2.out]; simp, ⟨by rw [rowP_set (by rw [HZ.out]; omega), HV2.out]; simpa using (ownT_set hs3.out.1 (d + 1) _).1, below_grown hs3.out.2 hs3.out.2.size (ownT_set hs3.out.1 (d + 1) _).2 (by rintro k hk; cases hk; exact Nat.le_refl _)⟩⟩
                      case measure => simp [intOf]; omega
              · have hkn : k = s.size + 1 := by omega
                have H7 := Aside0.mk (show OwnT wr w.heap.size (.slice (some ⟨wo.heap.size, 0, none⟩) (s.size + 1) (s.size + 1)) (rowP l S (j + 1) (S.length + 1)) ∧ Below w.heap.size w wr from ⟨by
                  have h := own_mono (base' := w.heap.size) hs3.out.1 HO.out.2.size
                  rw [hkn, ← HZ.out] at h
                  rw [← HZ.out]; exact h, below_then HO.out.2 HO.out.2.size hs3.out.2⟩)
                clear hkn
                go_wp2_with fail
                go_roundw
                case rel => exact ⟨q + 1, j + 1, _, _, by omega, by go_num, rfl, ⟨H7.out.1, H7.out.2, L ++ [⟨0, true, false, false⟩], by simp [HST.out.1], by rw [List.append_assoc]; exact HN.out⟩⟩
                case measure => simp [intOf]; omega
          · have e3 : ((p[q + 1].toNat : Int) == 42) = false := by
              rw [beq_eq_false_iff_ne, ← HP.out (q + 1) hw1]; intro h; exact hw2 (UInt8.toNat_inj.1 (by have : (42 : UInt8).toNat = 42 := rfl; omega))
            clear hw2
            have HS1 : Aside0 ((tk l j).star = true) := ⟨by rw [HTK.out]⟩
            have HQ : Aside0 (∀ x : UInt8, fitB (tk l j) x = (false || !decide ((x.toNat : Int) = 47))) := ⟨fun x => by
              rw [HTK.out]
              have h2 : (x != 47) = !decide ((x.toNat : Int) = 47) := by
                rw [bne]; congr 1
                rw [Bool.eq_iff_iff, beq_iff_eq, decide_eq_true_eq]
                exact ⟨fun h => by rw [h]; rfl, fun h => UInt8.toNat_inj.1 (by have : (47 : UInt8).toNat = 47 := rfl; omega)⟩
              show (if true = true then (false || x != 47) else _) = _
              rw [h2]; rfl⟩
            go_wp2_with (at_make; go_must (refine wpList_make_full _ rfl _ _ 47 rfl wo.heap.size 4 i0 _ 1 Tryd.underlying47 hi hz0 hz1 _ _ _ _ (s.size + 1) rfl rfl rfl rfl (by rw [hz2]; omega) (by simp only [maxLen]; omega) (Nat.le_refl _) ?_); intro w5 hown5 hgrow5
                         have hz := made_bools (s.size + 1); simp only [Value.cells, Nat.mul_one] at hown5; rw [hz] at hown5; clear hz
                         have H5 := Aside0.mk (show OwnT w5 wo.heap.size (.slice (some ⟨wo.heap.size, 0, none⟩) (s.size + 1) (s.size + 1)) (List.replicate (s.size + 1) false) ∧ Below wo.heap.size wo w5 from ⟨by unfold OwnT; simpa using hown5, below_none hgrow5⟩); clear hown5 hgrow5)
            go_loopw [10, 11] (fun o m wr => ∃ k : Nat, k ≤ s.size + 1 ∧ m = .int .i64 k ∧ o = .bool (onB l S j k) ∧ Aside0 (OwnT wr wo.heap.size (.slice (some ⟨wo.heap.size, 0, none⟩) (s.size + 1) (s.size + 1)) (rowP l S (j + 1) k) ∧ Below wo.heap.size wo wr)) (fun o m wr => s.size + 1 - (intOf m).toNat)
            case atStart => exact ⟨0, Nat.zero_le _, rfl, rfl, ⟨by rw [rowP_zero, HZ.out]; exact H5.out.1, H5.out.2⟩⟩
            case round =>
              obtain ⟨k, hk, rfl, rfl, hs3⟩ := hrel
              by_cases hkk : k ≤ s.size
              · obtain ⟨o1, o2⟩ := ownT_at (own_below HO.out.1 hs3.out.2) k (by rw [rowP_length, HZ.out]; omega)
                rw [rowP_at (by rw [HZ.out]; omega)] at o1
                obtain ⟨p1, p2⟩ := ownT_at hs3.out.1 k (by rw [rowP_length, HZ.out]; omega)
                rcases Nat.eq_zero_or_pos k with hk0 | hk0
                · subst hk0
                  rw [onB_zero]
                  have HV : Aside0 (pre l S (j + 1) 0 = pre l S j 0) := ⟨pre_star0 HS1.out⟩
                  obtain ⟨b, hb⟩ : ∃ b, b = pre l S j 0 := ⟨_, rfl⟩
                  rw [← hb] at HV o1
                  clear hb
                  go_wp2_with fail
                  go_roundw
                  case rel => exact ⟨1, by omega, rfl, by rw [onB_succ, HV.out], ⟨by rw [rowP_set (by omega), HV.out]; exact (ownT_set hs3.out.1 0 b).1, below_grown hs3.out.2 hs3.out.2.size (ownT_set hs3.out.1 0 b).2 (by rintro k hk; cases hk; exact Nat.le_refl _)⟩⟩
                  case measure => simp [intOf]
                · obtain ⟨d, rfl⟩ : ∃ d, k = d + 1 := ⟨k - 1, by omega⟩
                  rw [onB_succ]
                  have hd : d < s.size := by omega
                  have HV : Aside0 (pre l S (j + 1) (d + 1) = (pre l S j (d + 1) || ((false || !decide ((s[d].toNat : Int) = 47)) && pre l S (j + 1) d))) := ⟨by rw [pre_star HS1.out, HQ.out, HL.out d hd]⟩
                  obtain ⟨b, hb⟩ : ∃ b, b = pre l S j (d + 1) := ⟨_, rfl⟩
                  obtain ⟨o, ho⟩ : ∃ o, o = pre l S (j + 1) d := ⟨_, rfl⟩
                  rw [← hb] at o1
                  rw [← ho]
                  rw [← hb, ← ho] at HV
                  clear hb ho
                  have hdd : ((d + 1 : Nat) : Int) - 1 = (d : Int) := by omega
                  by_cases hz : (s[d].toNat : Int) = 47
                  · have y1 : ((s[d].toNat : Int) == 47) = true := by rw [beq_iff_eq]; exact hz
                    have HV2 : Aside0 (pre l S (j + 1) (d + 1) = (b || (false && o))) := ⟨by rw [HV.out, decide_eq_true hz]; simp⟩
                    clear hz HV
                    cases o
                    all_goals
                      go_wp2_with fail
                      go_roundw
                      case rel => exact ⟨d + 2, by omega, by go_num, by rw [onB_succ, HV2.out]; simp, ⟨by rw [rowP_set (by rw [HZ.out]; omega), HV2.out]; simpa using (ownT_set hs3.out.1 (d + 1) _).1, below_grown hs3.out.2 hs3.out.2.size (ownT_set hs3.out.1 (d + 1) _).2 (by rintro k hk; cases hk; exact Nat.le_refl _)⟩⟩
                      case measure => simp [intOf]; omega
                  · have y1 : ((s[d].toNat : Int) == 47) = false := by rw [beq_eq_false_iff_ne]; exact hz
                    have HV2 : Aside0 (pre l S (j + 1) (d + 1) = (b || o)) := ⟨by rw [HV.out, decide_eq_false hz]; simp⟩
                    clear hz HV
                    cases o
                    all_goals
                      go_wp2_with fail
                      go_roundw
                      case rel => exact ⟨d + 2, by omega, by go_num, by rw [onB_succ, HV2.out]; simp, ⟨by rw [rowP_set (by rw [HZ.out]; omega), HV2.out]; simpa using (ownT_set hs3.out.1 (d + 1) _).1, below_grown hs3.out.2 hs3.out.2.size (ownT_set hs3.out.1 (d + 1) _).2 (by rintro k hk; cases hk; exact Nat.le_refl _)⟩⟩
                      case measure => simp [intOf]; omega
              · have hkn : k = s.size + 1 := by omega
                have H7 := Aside0.mk (show OwnT wr w.heap.size (.slice (some ⟨wo.heap.size, 0, none⟩) (s.size + 1) (s.size + 1)) (rowP l S (j + 1) (S.length + 1)) ∧ Below w.heap.size w wr from ⟨by
                  have h := own_mono (base' := w.heap.size) hs3.out.1 HO.out.2.size
                  rw [hkn, ← HZ.out] at h
                  rw [← HZ.out]; exact h, below_then HO.out.2 HO.out.2.size hs3.out.2⟩)
                clear hkn
                go_wp2_with fail
                go_roundw
                case rel => exact ⟨q + 1, j + 1, _, _, by omega, by go_num, rfl, ⟨H7.out.1, H7.out.2, L ++ [⟨0, true, false, false⟩], by simp [HST.out.1], by rw [List.append_assoc]; exact HN.out⟩⟩
                case measure => simp [intOf]; omega
      · have e2 : ((p[q].toNat : Int) == 42) = false := by
          rw [beq_eq_false_iff_ne, ← HP.out q hend]; intro h; exact hc (UInt8.toNat_inj.1 (by have : (42 : UInt8).toNat = 42 := rfl; omega))
        have HN : Aside0 (l = L ++ ⟨p[q], false, false, p[q] == 63⟩ :: tokL (P.drop (q + 1))) := ⟨by rw [HST.out.2, tokL_sign (by rw [HZP.out]; exact hend) hc, HP.out q hend]⟩
        have HTK : Aside0 (tk l j = ⟨p[q], false, false, p[q] == 63⟩) := ⟨by rw [HN.out, ← HST.out.1]; exact tk_app _ _ _⟩
        clear hc
        have HQ : Aside0 (∀ x : UInt8, fitB (tk l j) x = if (p[q].toNat : Int) = 63 then !decide ((x.toNat : Int) = 47) else decide ((p[q].toNat : Int) = (x.toNat : Int))) := ⟨fun x => by
          rw [HTK.out]
          have h1 : (p[q] == 63) = decide ((p[q].toNat : Int) = 63) := by
            rw [Bool.eq_iff_iff, beq_iff_eq, decide_eq_true_eq]
            exact ⟨fun h => by rw [h]; rfl, fun h => UInt8.toNat_inj.1 (by have : (63 : UInt8).toNat = 63 := rfl; omega)⟩
          have h2 : (x != 47) = !decide ((x.toNat : Int) = 47) := by
            rw [bne]; congr 1
            rw [Bool.eq_iff_iff, beq_iff_eq, decide_eq_true_eq]
            exact ⟨fun h => by rw [h]; rfl, fun h => UInt8.toNat_inj.1 (by have : (47 : UInt8).toNat = 47 := rfl; omega)⟩
          have h3 : (p[q] == x) = decide ((p[q].toNat : Int) = (x.toNat : Int)) := by
            rw [Bool.eq_iff_iff, beq_iff_eq, decide_eq_true_eq]
            exact ⟨fun h => by rw [h], fun h => UInt8.toNat_inj.1 (by omega)⟩
          show (if false = true then _ else if (p[q] == 63) = true then x != 47 else p[q] == x) = _
          rw [h1, h2, h3]
          simp only [Bool.false_eq_true, if_false, decide_eq_true_eq]⟩
        have HS1 : Aside0 ((tk l j).star = false) := ⟨by rw [HTK.out]⟩
        go_wp2_with (at_make; go_must (refine wpList_make_full _ rfl _ _ 47 rfl wo.heap.size 4 i0 _ 1 Tryd.underlying47 hi hz0 hz1 _ _ _ _ (s.size + 1) rfl rfl rfl rfl (by rw [hz2]; omega) (by simp only [maxLen]; omega) (Nat.le_refl _) ?_); intro w5 hown5 hgrow5
                     have hz := made_bools (s.size + 1); simp only [Value.cells, Nat.mul_one] at hown5; rw [hz] at hown5; clear hz
                     have H5 := Aside0.mk (show OwnT w5 wo.heap.size (.slice (some ⟨wo.heap.size, 0, none⟩) (s.size + 1) (s.size + 1)) (List.replicate (s.size + 1) false) ∧ Below wo.heap.size wo w5 from ⟨by unfold OwnT; simpa using hown5, below_none hgrow5⟩); clear hown5 hgrow5)
        go_loopw [12] (fun m wr => ∃ k : Nat, k ≤ s.size ∧ m = .int .i64 k ∧ Aside0 (OwnT wr wo.heap.size (.slice (some ⟨wo.heap.size, 0, none⟩) (s.size + 1) (s.size + 1)) (rowP l S (j + 1) (k + 1)) ∧ Below wo.heap.size wo wr)) (fun m wr => s.size - (intOf m).toNat)
        case atStart => exact ⟨0, Nat.zero_le _, rfl, ⟨by rw [rowP_no (pre_one0 HS1.out), rowP_zero, HZ.out]; exact H5.out.1, H5.out.2⟩⟩
        case round =>
          obtain ⟨k, hk, rfl, hs3⟩ := hrel
          by_cases hkk : k < s.size
          · obtain ⟨o1, o2⟩ := ownT_at (own_below HO.out.1 hs3.out.2) k (by rw [rowP_length, HZ.out]; omega)
            rw [rowP_at (by rw [HZ.out]; omega)] at o1
            obtain ⟨p1, p2⟩ := ownT_at hs3.out.1 (k + 1) (by rw [rowP_length, HZ.out]; omega)
            have HR : Aside0 (pre l S (j + 1) (k + 1) = ((if (p[q].toNat : Int) = 63 then !decide ((s[k].toNat : Int) = 47) else decide ((p[q].toNat : Int) = (s[k].toNat : Int))) && pre l S j k)) := ⟨by rw [pre_one HS1.out, HQ.out, HL.out k hkk]⟩
            obtain ⟨b, hb⟩ : ∃ b, b = pre l S j k := ⟨_, rfl⟩
            rw [← hb] at HR o1
            clear hb
            cases b with
            | false =>
              have HV : Aside0 (pre l S (j + 1) (k + 1) = false) := ⟨by rw [HR.out, Bool.and_false]⟩
              go_wp2_with fail
              go_roundw
              case rel => exact ⟨k + 1, by omega, by go_num, ⟨by rw [rowP_no HV.out]; exact hs3.out.1, hs3.out.2⟩⟩
              case measure => simp [intOf]; omega
            | true =>
              by_cases hy : (p[q].toNat : Int) = 63
              · by_cases hz : (s[k].toNat : Int) = 47
                · have HV : Aside0 (pre l S (j + 1) (k + 1) = false) := ⟨by rw [HR.out, if_pos hy, decide_eq_true hz]; rfl⟩
                  have y1 : ((p[q].toNat : Int) == 63) = true := by rw [beq_iff_eq]; exact hy
                  have y2 : ((p[q].toNat : Int) == 47) = false := by rw [beq_eq_false_iff_ne, hy]; decide
                  have y3 : ((p[q].toNat : Int) == (s[k].toNat : Int)) = false := by rw [beq_eq_false_iff_ne, hy, hz]; decide
                  clear hy
                  go_wp2_with fail
                  go_roundw
                  case rel => exact ⟨k + 1, by omega, by go_num, ⟨by rw [rowP_no HV.out]; exact hs3.out.1, hs3.out.2⟩⟩
                  case measure => simp [intOf]; omega
                · have HV : Aside0 (pre l S (j + 1) (k + 1) = true) := ⟨by rw [HR.out, if_pos hy, decide_eq_false hz]; rfl⟩
                  have y1 : ((p[q].toNat : Int) == 63) = true := by rw [beq_iff_eq]; exact hy
                  clear hy
                  go_wp2_with fail
                  go_roundw
                  case rel => exact ⟨k + 1, by omega, by go_num, ⟨by rw [rowP_set (by rw [HZ.out]; omega), HV.out]; exact (ownT_set hs3.out.1 (k + 1) true).1, below_grown hs3.out.2 hs3.out.2.size (ownT_set hs3.out.1 (k + 1) true).2 (by rintro k hk; cases hk; exact Nat.le_refl _)⟩⟩
                  case measure => simp [intOf]; omega
              · by_cases hu : (p[q].toNat : Int) = (s[k].toNat : Int)
                · have HV : Aside0 (pre l S (j + 1) (k + 1) = true) := ⟨by rw [HR.out, if_neg hy, decide_eq_true hu]; rfl⟩
                  have y1 : ((p[q].toNat : Int) == 63) = false := by rw [beq_eq_false_iff_ne]; exact hy
                  have y3 : ((p[q].toNat : Int) == (s[k].toNat : Int)) = true := by rw [beq_iff_eq]; exact hu
                  clear hu
                  go_wp2_with fail
                  go_roundw
                  case rel => exact ⟨k + 1, by omega, by go_num, ⟨by rw [rowP_set (by rw [HZ.out]; omega), HV.out]; exact (ownT_set hs3.out.1 (k + 1) true).1, below_grown hs3.out.2 hs3.out.2.size (ownT_set hs3.out.1 (k + 1) true).2 (by rintro k hk; cases hk; exact Nat.le_refl _)⟩⟩
                  case measure => simp [intOf]; omega
                · have HV : Aside0 (pre l S (j + 1) (k + 1) = false) := ⟨by rw [HR.out, if_neg hy, decide_eq_false hu]; rfl⟩
                  have y1 : ((p[q].toNat : Int) == 63) = false := by rw [beq_eq_false_iff_ne]; exact hy
                  have y3 : ((p[q].toNat : Int) == (s[k].toNat : Int)) = false := by rw [beq_eq_false_iff_ne]; exact hu
                  go_wp2_with fail
                  go_roundw
                  case rel => exact ⟨k + 1, by omega, by go_num, ⟨by rw [rowP_no HV.out]; exact hs3.out.1, hs3.out.2⟩⟩
                  case measure => simp [intOf]; omega
          · have hkn : k = s.size := by omega
            have H7 := Aside0.mk (show OwnT wr w.heap.size (.slice (some ⟨wo.heap.size, 0, none⟩) (s.size + 1) (s.size + 1)) (rowP l S (j + 1) (S.length + 1)) ∧ Below w.heap.size w wr from ⟨by
              have h := own_mono (base' := w.heap.size) hs3.out.1 HO.out.2.size
              rw [hkn, ← HZ.out] at h
              rw [← HZ.out]; exact h, below_then HO.out.2 HO.out.2.size hs3.out.2⟩)
            clear hkn
            go_wp2_with fail
            go_roundw
            case rel => exact ⟨q + 1, j + 1, _, _, by omega, by go_num, rfl, ⟨H7.out.1, H7.out.2, L ++ [⟨p[q], false, false, p[q] == 63⟩], by simp [HST.out.1], by rw [List.append_assoc]; exact HN.out⟩⟩
            case measure => simp [intOf]; omega
    · have hqq : q = p.size := by omega
      have HJ : Aside0 (j = l.length) := ⟨by
        have h := HST.out.2
        rw [List.drop_of_length_le (by rw [HZP.out]; omega)] at h
        have h2 : l = L := by rw [h]; show L ++ [] = L; exact List.append_nil L
        rw [h2, HST.out.1]⟩
      obtain ⟨o1, o2⟩ := ownT_at HO.out.1 s.size (by rw [rowP_length, HZ.out]; omega)
      rw [rowP_at (by rw [HZ.out]; omega)] at o1
      go_wp2_with fail
      go_ret
      exact ⟨ret_b (by rw [HJ.out, HZ.out]), HO.out.2⟩
end Go.Proofs.YtkalfkgnjmkjgaaDoor
