/-
  What is asked of paths is answered as the reference answers. No condition.
-/
import Derived.Test.YtfjjaepchidcoaaDoorRefLess4
import Derived.Test.YtfjjaepchidcoaaDoorPathAwake
namespace Go.Proofs.YtfjjaepchidcoaaDoor
open Go.RowKit
set_option linter.unusedVariables false
set_option linter.unusedSimpArgs false

theorem parts4_calls (s : ByteArray) (w : World) (hs : s.size ≤ 1000000000) : Calls Tryd.prog 19 #[.string s] w fun e w' => ∃ v, e = .returned v ∧ SlS w' 0 v (partsL s.data.toList) ∧ (∃ A n c, v = .slice A n c) ∧ Below w.heap.size w w' := by
  rcases hv : validB s.data.toList with _ | _
  · refine (parts_no s w hs hv).mono ?_
    rintro e w1 ⟨rfl, hb⟩
    exact ⟨_, rfl, by rw [partsL, hv]; exact Sl.nil _ _ _ _, ⟨_, _, _, rfl⟩, hb⟩
  · refine (parts_yes s w hs hv).mono ?_
    rintro e w1 ⟨v, rfl, hsl, ⟨g, n, c, rfl⟩, hb⟩
    exact ⟨_, rfl, by rw [partsL, hv, if_pos rfl]; exact hsl, ⟨_, _, _, rfl⟩, hb⟩

theorem asks4_out (a b : ByteArray) (w : World) (ha : a.size ≤ 9223372036854775807) (hb : b.size ≤ 9223372036854775807) (hout : ¬ sumI a.size [(b.size : Int)] ≤ 500) :
    Calls Tryd.prog 3 #[.string a, .string b] w fun e w' => e = .returned (.bool true) ∧ Below w.heap.size w w' := by
  go_enter Tryd.func3, Tryd.ntmps3
  go_wp2_with fail
  refine (sum_calls (e := 3) (b0 := 0) (a.size : Int) _ [(b.size : Int)] _ (by omega) (by omega) (by intro x hx; simp at hx; omega) (Sl.at (heap_new rfl) rfl rfl (by simp) (by simp))).mono ?_
  rintro e w' ⟨rfl, rfl⟩
  obtain ⟨q, hq⟩ : ∃ q, q = sumI a.size [(b.size : Int)] := ⟨_, rfl⟩
  rw [← hq] at hout ⊢
  have d1 : decide (500 < q) = true := decide_eq_true (by omega)
  clear hq
  go_wp2_with fail
  refine (awake4_calls _).mono ?_
  rintro e w2 ⟨rfl, hb2⟩
  have HB := Aside0.mk (below_step ((Below.refl _ _).alloc (Nat.le_refl _) _) hb2)
  clear hb2
  go_wp2_with fail
  go_ret
  exact ⟨rfl, HB.out⟩

set_option maxHeartbeats 8000000 in
theorem asks4_in (a b : ByteArray) (w : World) (hin : sumI a.size [(b.size : Int)] ≤ 500) :
    Calls Tryd.prog 3 #[.string a, .string b] w fun e w' => e = .returned (.bool true) ∧ Below w.heap.size w w' := by
  have hsz := sumI_le 500 (by omega) _ _ hin
  simp only [List.sum_cons, List.sum_nil] at hsz
  have ha9 : a.size ≤ 500 := by omega
  have hb9 : b.size ≤ 500 := by omega
  have ha : a.size ≤ 1000000000 := by omega
  have hb : b.size ≤ 1000000000 := by omega
  clear hsz
  have HIN := Aside0.mk hin
  clear hin
  obtain ⟨vV, hV⟩ : ∃ v, validB a.data.toList = v := ⟨_, rfl⟩
  have HVV := Aside0.mk hV
  clear hV
  obtain ⟨vH, hH⟩ : ∃ v, hiddenB a.data.toList = v := ⟨_, rfl⟩
  have HHH := Aside0.mk hH
  clear hH
  obtain ⟨vP, hP⟩ : ∃ v, str (parentL a.data.toList) = v := ⟨_, rfl⟩
  have HPP := Aside0.mk hP
  clear hP
  obtain ⟨vN, hN⟩ : ∃ v, str (nameL a.data.toList) = v := ⟨_, rfl⟩
  have HNN := Aside0.mk hN
  clear hN
  obtain ⟨vU, hU⟩ : ∃ v, underB a.data.toList b.data.toList = v := ⟨_, rfl⟩
  have HUU := Aside0.mk hU
  clear hU
  obtain ⟨vL, hL⟩ : ∃ v, lessB a.data.toList b.data.toList = v := ⟨_, rfl⟩
  have HLL := Aside0.mk hL
  clear hL
  obtain ⟨vJ, hJ⟩ : ∃ v, str (joinL a.data.toList b.data.toList) = v := ⟨_, rfl⟩
  have HJJ := Aside0.mk hJ
  clear hJ
  go_enter Tryd.func3, Tryd.ntmps3
  go_wp2_with fail
  refine (sum_calls (e := 3) (b0 := 0) (a.size : Int) _ [(b.size : Int)] _ (by omega) (by omega) (by intro x hx; simp at hx; omega) (Sl.at (heap_new rfl) rfl rfl (by simp) (by simp))).mono ?_
  rintro e w' ⟨rfl, rfl⟩
  obtain ⟨q, hq⟩ : ∃ q, q = sumI a.size [(b.size : Int)] := ⟨_, rfl⟩
  have hin := HIN.out
  rw [← hq] at hin ⊢
  have d1 : decide (500 < q) = false := decide_eq_false (by omega)
  have HB := Aside0.mk (show Below w.heap.size w (w.alloc (.cells #[.int .i64 b.size] 3)) from (Below.refl _ _).alloc (Nat.le_refl _) _)
  clear hq hin
  go_wp2_with (first
    | (go_at_call 10; refine (valid_calls _ _ (by assumption)).mono ?_; rintro e w1 ⟨rfl, hb1⟩; rw [HVV.out]; have HB := Aside0.mk (below_step HB.out hb1); clear hb1)
    | (go_at_call 11; refine (rvalid_calls _ _ (by assumption)).mono ?_; rintro e w1 ⟨rfl, hb1⟩; rw [HVV.out]; have HB := Aside0.mk (below_step HB.out hb1); clear hb1)
    | (go_at_call 12; refine (hidden_calls _ _ (by assumption)).mono ?_; rintro e w1 ⟨rfl, hb1⟩; rw [HHH.out]; have HB := Aside0.mk (below_step HB.out hb1); clear hb1)
    | (go_at_call 13; refine (rhidden_calls _ _ (by assumption)).mono ?_; rintro e w1 ⟨rfl, hb1⟩; rw [HHH.out]; have HB := Aside0.mk (below_step HB.out hb1); clear hb1)
    | (go_at_call 14; refine (parent_calls _ _ (by assumption)).mono ?_; rintro e w1 ⟨rfl, hb1⟩; rw [HPP.out]; have HB := Aside0.mk (below_step HB.out hb1); clear hb1)
    | (go_at_call 15; refine (rparent_calls _ _ (by assumption)).mono ?_; rintro e w1 ⟨rfl, hb1⟩; rw [HPP.out]; have HB := Aside0.mk (below_step HB.out hb1); clear hb1)
    | (go_at_call 16; refine (name_calls _ _ (by assumption)).mono ?_; rintro e w1 ⟨rfl, hb1⟩; rw [HNN.out]; have HB := Aside0.mk (below_step HB.out hb1); clear hb1)
    | (go_at_call 17; refine (rname_calls _ _ (by assumption)).mono ?_; rintro e w1 ⟨rfl, hb1⟩; rw [HNN.out]; have HB := Aside0.mk (below_step HB.out hb1); clear hb1)
    | (go_at_call 21; refine (under_calls _ _ _ (by omega) (by omega)).mono ?_; rintro e w1 ⟨rfl, hb1⟩; rw [HUU.out]; have HB := Aside0.mk (below_step HB.out hb1); clear hb1)
    | (go_at_call 22; refine (runder_calls _ _ _ (by omega) (by omega)).mono ?_; rintro e w1 ⟨rfl, hb1⟩; rw [HUU.out]; have HB := Aside0.mk (below_step HB.out hb1); clear hb1)
    | (go_at_call 23; refine (less_calls _ _ _ (by assumption) (by assumption)).mono ?_; rintro e w1 ⟨rfl, hb1⟩; rw [HLL.out]; have HB := Aside0.mk (below_step HB.out hb1); clear hb1)
    | (go_at_call 24; refine (rless_calls _ _ _ (by assumption) (by assumption)).mono ?_; rintro e w1 ⟨rfl, hb1⟩; rw [HLL.out]; have HB := Aside0.mk (below_step HB.out hb1); clear hb1)
    | (go_at_call 25; refine (join_calls _ _ _ (by omega)).mono ?_; rintro e w1 ⟨rfl, hb1⟩; rw [HJJ.out]; have HB := Aside0.mk (below_step HB.out hb1); clear hb1)
    | (go_at_call 26; refine (rjoin_calls _ _ _ (by omega)).mono ?_; rintro e w1 ⟨rfl, hb1⟩; rw [HJJ.out]; have HB := Aside0.mk (below_step HB.out hb1); clear hb1)
    | (go_at_call 19; refine (parts4_calls _ _ (by assumption)).mono ?_; rintro e w1 ⟨x1, rfl, hs1, ⟨A1, n1, c1, rfl⟩, hb1⟩; have HS1 := Aside0.mk hs1; have HB := Aside0.mk (below_step HB.out hb1); clear hb1 hs1)
    | (go_at_call 20; refine (rpartsf_calls _ _ (by assumption)).mono ?_; rintro e w1 ⟨x2, rfl, hs2, ⟨A2, n2, c2, rfl⟩, hb1⟩; have HS2 := Aside0.mk (And.intro (Sl.below HS1.out hb1) hs2); have HB := Aside0.mk (below_step HB.out hb1); clear hb1 hs2)
    | (go_at_call 18; refine (texts_calls _ HS2.out.1 HS2.out.2).mono ?_; rintro e w1 ⟨rfl, hb1⟩; rw [decide_eq_true rfl]; have HB := Aside0.mk (below_step HB.out hb1); clear hb1)
    | (go_at_call 9; refine (awake4_calls _).mono ?_; rintro e w1 ⟨rfl, hb1⟩; have HB := Aside0.mk (below_step HB.out hb1); clear hb1))
  go_ret
  exact ⟨rfl, HB.out⟩
end Go.Proofs.YtfjjaepchidcoaaDoor
