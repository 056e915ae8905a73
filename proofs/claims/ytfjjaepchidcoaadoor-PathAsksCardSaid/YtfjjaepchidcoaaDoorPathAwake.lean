/-
  What the document fixes of path; the order's law. No condition.
-/
import Derived.Test.YtfjjaepchidcoaaDoorPathFns3
import Derived.Test.YtfjjaepchidcoaaDoorAlike
namespace Go.Proofs.YtfjjaepchidcoaaDoor
open Go.RowKit
set_option linter.unusedVariables false
set_option linter.unusedSimpArgs false

theorem aw1 : validB [97, 47, 98, 46, 99] = true := by decide
theorem aw2 : validB [97, 47, 47, 98] = false := by decide
theorem aw3 : validB [46, 46] = false := by decide
theorem aw4 : hiddenB [46, 120] = true := by decide
theorem aw5 : parentL [97, 47, 98] = [97] := by decide
theorem aw6 : nameL [97, 47, 98] = [98] := by decide
theorem aw7 : lessB [97, 47, 98] [97, 46, 98] = true := by decide
theorem aw8 : underB [97, 47, 98] [97] = true := by decide
theorem aw9 : joinL [97] [98] = [97, 47, 98] := by decide

set_option maxHeartbeats 4000000 in
theorem awake4_calls (w : World) : Calls Tryd.prog 9 #[] w fun e w' => e = .returned (.bool true) ∧ Below w.heap.size w w' := by
  have HB := Aside0.mk (Below.refl w.heap.size w)
  go_enter Tryd.func9, Tryd.ntmps9
  go_wp2_with (first
    | (go_at_call 10; refine (valid_calls _ _ (by decide)).mono ?_; rintro e w1 ⟨rfl, hb1⟩; (first | rw [show validB (ByteArray.mk #[97, 47, 98, 46, 99]).data.toList = true from aw1] | rw [show validB (ByteArray.mk #[97, 47, 47, 98]).data.toList = false from aw2] | rw [show validB (ByteArray.mk #[46, 46]).data.toList = false from aw3]); have HB := Aside0.mk (below_step HB.out hb1); clear hb1)
    | (go_at_call 12; refine (hidden_calls _ _ (by decide)).mono ?_; rintro e w1 ⟨rfl, hb1⟩; rw [show hiddenB (ByteArray.mk #[46, 120]).data.toList = true from aw4]; have HB := Aside0.mk (below_step HB.out hb1); clear hb1)
    | (go_at_call 14; refine (parent_calls _ _ (by decide)).mono ?_; rintro e w1 ⟨rfl, hb1⟩; rw [show str (parentL (ByteArray.mk #[97, 47, 98]).data.toList) = ⟨#[97]⟩ from congrArg str aw5]; have HB := Aside0.mk (below_step HB.out hb1); clear hb1)
    | (go_at_call 16; refine (name_calls _ _ (by decide)).mono ?_; rintro e w1 ⟨rfl, hb1⟩; rw [show str (nameL (ByteArray.mk #[97, 47, 98]).data.toList) = ⟨#[98]⟩ from congrArg str aw6]; have HB := Aside0.mk (below_step HB.out hb1); clear hb1)
    | (go_at_call 23; refine (less_calls _ _ _ (by decide) (by decide)).mono ?_; rintro e w1 ⟨rfl, hb1⟩; rw [show lessB (ByteArray.mk #[97, 47, 98]).data.toList (ByteArray.mk #[97, 46, 98]).data.toList = true from aw7]; have HB := Aside0.mk (below_step HB.out hb1); clear hb1)
    | (go_at_call 21; refine (under_calls _ _ _ (by decide) (by decide)).mono ?_; rintro e w1 ⟨rfl, hb1⟩; rw [show underB (ByteArray.mk #[97, 47, 98]).data.toList (ByteArray.mk #[97]).data.toList = true from aw8]; have HB := Aside0.mk (below_step HB.out hb1); clear hb1)
    | (go_at_call 25; refine (join_calls _ _ _ (by decide)).mono ?_; rintro e w1 ⟨rfl, hb1⟩; rw [show str (joinL (ByteArray.mk #[97]).data.toList (ByteArray.mk #[98]).data.toList) = ⟨#[97, 47, 98]⟩ from congrArg str aw9]; have HB := Aside0.mk (below_step HB.out hb1); clear hb1))
  go_ret
  exact ⟨rfl, HB.out⟩

/-- The texts are none too long, or they are not looked at. -/
theorem sum_over {n : Int} {l : List Int} (h0 : 0 ≤ n) (hl : ∀ x ∈ l, 0 ≤ x) (h : ¬ sumI n l ≤ 500) : decide (500 < sumI n l) = true := decide_eq_true (by omega)

set_option maxHeartbeats 4000000 in
theorem orders_out (a b c : ByteArray) (w : World) (ha : a.size ≤ 9223372036854775807) (hb : b.size ≤ 9223372036854775807) (hc : c.size ≤ 9223372036854775807) (hout : ¬ sumI a.size [(b.size : Int), (c.size : Int)] ≤ 500) :
    Calls Tryd.prog 4 #[.string a, .string b, .string c] w fun e w' => e = .returned (.bool true) ∧ Below w.heap.size w w' := by
  go_enter Tryd.func4, Tryd.ntmps4
  go_wp2_with fail
  refine (sum_calls (e := 3) (b0 := 0) (a.size : Int) _ [(b.size : Int), (c.size : Int)] _ (by omega) (by omega) (by intro x hx; simp at hx; omega) (Sl.at (heap_new rfl) rfl rfl (by simp) (by simp))).mono ?_
  rintro e w' ⟨rfl, rfl⟩
  obtain ⟨q, hq⟩ : ∃ q, q = sumI a.size [(b.size : Int), (c.size : Int)] := ⟨_, rfl⟩
  rw [← hq] at hout ⊢
  have d1 : decide (500 < q) = true := decide_eq_true (by omega)
  clear hq
  go_wp2_with fail
  refine (awake4_calls _).mono ?_
  rintro e w2 ⟨rfl, hb2⟩
  have HB := Aside0.mk (below_step ((Below.refl _ _).alloc (Nat.le_refl _) _) hb2)
  clear hb2
  go_wp2_with fail
  go_ret
  exact ⟨rfl, HB.out⟩

set_option maxHeartbeats 8000000 in
theorem orders_in (a b c : ByteArray) (w : World) (hin : sumI a.size [(b.size : Int), (c.size : Int)] ≤ 500) :
    Calls Tryd.prog 4 #[.string a, .string b, .string c] w fun e w' => e = .returned (.bool true) ∧ Below w.heap.size w w' := by
  have hsz := sumI_le 500 (by omega) _ _ hin
  simp only [List.sum_cons, List.sum_nil] at hsz
  have ha : a.size ≤ 1000000000 := by omega
  have hb : b.size ≤ 1000000000 := by omega
  have hc : c.size ≤ 1000000000 := by omega
  clear hsz
  have HAA := Aside0.mk (lessB_strict.irr a.data.toList)
  have HIN := Aside0.mk hin
  clear hin
  have key : (lessB a.data.toList b.data.toList = true ∧ lessB b.data.toList a.data.toList = false ∧ a ≠ b) ∨ (lessB a.data.toList b.data.toList = false ∧ lessB b.data.toList a.data.toList = true ∧ a ≠ b) ∨ (lessB a.data.toList b.data.toList = false ∧ lessB b.data.toList a.data.toList = false ∧ a = b) := by
    rcases h1 : lessB a.data.toList b.data.toList with _ | _ <;> rcases h2 : lessB b.data.toList a.data.toList with _ | _
    · refine .inr (.inr ⟨rfl, rfl, ?_⟩)
      have := lessB_strict.tri _ _ h1 h2
      rw [← str_of a, ← str_of b, this]
    · refine .inr (.inl ⟨rfl, rfl, ?_⟩)
      rintro rfl
      rw [lessB_strict.irr] at h2; cases h2
    · refine .inl ⟨rfl, rfl, ?_⟩
      rintro rfl
      rw [lessB_strict.irr] at h1; cases h1
    · rw [lessB_strict.asym _ _ h1] at h2; cases h2
  have HT := Aside0.mk (lessB_strict.trans a.data.toList b.data.toList c.data.toList)
  rcases key with ⟨hab, hba, hne⟩ | ⟨hab, hba, hne⟩ | ⟨hab, hba, hne⟩
  · have e1 : (a.toList == b.toList) = false := by rw [beq_eq_false_iff_ne]; exact fun e => hne (toList_inj e)
    have e2 : (a.toList != b.toList) = true := by rw [bne_iff_ne]; exact fun e => hne (toList_inj e)
    have HAB := Aside0.mk hab
    have HBA := Aside0.mk hba
    rcases hbc : lessB b.data.toList c.data.toList with _ | _
    · have HBC := Aside0.mk hbc
      clear hab hba hne hbc
      go_enter Tryd.func4, Tryd.ntmps4
      go_wp2_with fail
      refine (sum_calls (e := 3) (b0 := 0) (a.size : Int) _ [(b.size : Int), (c.size : Int)] _ (by omega) (by omega) (by intro x hx; simp at hx; omega) (Sl.at (heap_new rfl) rfl rfl (by simp) (by simp))).mono ?_
      rintro e w' ⟨rfl, rfl⟩
      obtain ⟨q, hq⟩ : ∃ q, q = sumI a.size [(b.size : Int), (c.size : Int)] := ⟨_, rfl⟩
      have hin := HIN.out
      rw [← hq] at hin ⊢
      have d1 : decide (500 < q) = false := decide_eq_false (by omega)
      have HB := Aside0.mk (show Below w.heap.size w (w.alloc (.cells #[.int .i64 b.size, .int .i64 c.size] 3)) from (Below.refl _ _).alloc (Nat.le_refl _) _)
      clear hq hin
      go_wp2_with (first
        | (go_at_call 23; refine (less_calls _ _ _ (by assumption) (by assumption)).mono ?_; rintro e w1 ⟨rfl, hb1⟩; (first | rw [HAA.out] | rw [HAB.out] | rw [HBA.out] | rw [HBC.out]); have HB := Aside0.mk (below_step HB.out hb1); clear hb1)
        | (go_at_call 9; refine (awake4_calls _).mono ?_; rintro e w1 ⟨rfl, hb1⟩; have HB := Aside0.mk (below_step HB.out hb1); clear hb1))
      go_ret
      exact ⟨rfl, HB.out⟩
    · have HBC := Aside0.mk hbc
      have HAC := Aside0.mk (HT.out hab hbc)
      clear hab hba hne hbc
      go_enter Tryd.func4, Tryd.ntmps4
      go_wp2_with fail
      refine (sum_calls (e := 3) (b0 := 0) (a.size : Int) _ [(b.size : Int), (c.size : Int)] _ (by omega) (by omega) (by intro x hx; simp at hx; omega) (Sl.at (heap_new rfl) rfl rfl (by simp) (by simp))).mono ?_
      rintro e w' ⟨rfl, rfl⟩
      obtain ⟨q, hq⟩ : ∃ q, q = sumI a.size [(b.size : Int), (c.size : Int)] := ⟨_, rfl⟩
      have hin := HIN.out
      rw [← hq] at hin ⊢
      have d1 : decide (500 < q) = false := decide_eq_false (by omega)
      have HB := Aside0.mk (show Below w.heap.size w (w.alloc (.cells #[.int .i64 b.size, .int .i64 c.size] 3)) from (Below.refl _ _).alloc (Nat.le_refl _) _)
      clear hq hin
      go_wp2_with (first
        | (go_at_call 23; refine (less_calls _ _ _ (by assumption) (by assumption)).mono ?_; rintro e w1 ⟨rfl, hb1⟩; (first | rw [HAA.out] | rw [HAB.out] | rw [HBA.out] | rw [HBC.out] | rw [HAC.out]); have HB := Aside0.mk (below_step HB.out hb1); clear hb1)
        | (go_at_call 9; refine (awake4_calls _).mono ?_; rintro e w1 ⟨rfl, hb1⟩; have HB := Aside0.mk (below_step HB.out hb1); clear hb1))
      go_ret
      exact ⟨rfl, HB.out⟩
  · have e1 : (a.toList == b.toList) = false := by rw [beq_eq_false_iff_ne]; exact fun e => hne (toList_inj e)
    have e2 : (a.toList != b.toList) = true := by rw [bne_iff_ne]; exact fun e => hne (toList_inj e)
    have HAB := Aside0.mk hab
    have HBA := Aside0.mk hba
    clear hab hba hne
    go_enter Tryd.func4, Tryd.ntmps4
    go_wp2_with fail
    refine (sum_calls (e := 3) (b0 := 0) (a.size : Int) _ [(b.size : Int), (c.size : Int)] _ (by omega) (by omega) (by intro x hx; simp at hx; omega) (Sl.at (heap_new rfl) rfl rfl (by simp) (by simp))).mono ?_
    rintro e w' ⟨rfl, rfl⟩
    obtain ⟨q, hq⟩ : ∃ q, q = sumI a.size [(b.size : Int), (c.size : Int)] := ⟨_, rfl⟩
    have hin := HIN.out
    rw [← hq] at hin ⊢
    have d1 : decide (500 < q) = false := decide_eq_false (by omega)
    have HB := Aside0.mk (show Below w.heap.size w (w.alloc (.cells #[.int .i64 b.size, .int .i64 c.size] 3)) from (Below.refl _ _).alloc (Nat.le_refl _) _)
    clear hq hin
    go_wp2_with (first
      | (go_at_call 23; refine (less_calls _ _ _ (by assumption) (by assumption)).mono ?_; rintro e w1 ⟨rfl, hb1⟩; (first | rw [HAA.out] | rw [HAB.out] | rw [HBA.out]); have HB := Aside0.mk (below_step HB.out hb1); clear hb1)
      | (go_at_call 9; refine (awake4_calls _).mono ?_; rintro e w1 ⟨rfl, hb1⟩; have HB := Aside0.mk (below_step HB.out hb1); clear hb1))
    go_ret
    exact ⟨rfl, HB.out⟩
  · have e1 : (a.toList == b.toList) = true := by rw [hne]; exact beq_self_eq_true _
    have e2 : (a.toList != b.toList) = false := by rw [hne]; simp
    have HAB := Aside0.mk hab
    have HBA := Aside0.mk hba
    clear hab hba hne
    go_enter Tryd.func4, Tryd.ntmps4
    go_wp2_with fail
    refine (sum_calls (e := 3) (b0 := 0) (a.size : Int) _ [(b.size : Int), (c.size : Int)] _ (by omega) (by omega) (by intro x hx; simp at hx; omega) (Sl.at (heap_new rfl) rfl rfl (by simp) (by simp))).mono ?_
    rintro e w' ⟨rfl, rfl⟩
    obtain ⟨q, hq⟩ : ∃ q, q = sumI a.size [(b.size : Int), (c.size : Int)] := ⟨_, rfl⟩
    have hin := HIN.out
    rw [← hq] at hin ⊢
    have d1 : decide (500 < q) = false := decide_eq_false (by omega)
    have HB := Aside0.mk (show Below w.heap.size w (w.alloc (.cells #[.int .i64 b.size, .int .i64 c.size] 3)) from (Below.refl _ _).alloc (Nat.le_refl _) _)
    clear hq hin
    go_wp2_with (first
      | (go_at_call 23; refine (less_calls _ _ _ (by assumption) (by assumption)).mono ?_; rintro e w1 ⟨rfl, hb1⟩; (first | rw [HAA.out] | rw [HAB.out] | rw [HBA.out]); have HB := Aside0.mk (below_step HB.out hb1); clear hb1)
      | (go_at_call 9; refine (awake4_calls _).mono ?_; rintro e w1 ⟨rfl, hb1⟩; have HB := Aside0.mk (below_step HB.out hb1); clear hb1))
    go_ret
    exact ⟨rfl, HB.out⟩
end Go.Proofs.YtfjjaepchidcoaaDoor
