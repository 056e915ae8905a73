/-
  What stands under a path stands directly behind it. No condition.
-/
import Derived.Test.YtfjjaepchidcoaaDoorPathAwake
namespace Go.Proofs.YtfjjaepchidcoaaDoor
open Go.RowKit
set_option linter.unusedVariables false
set_option linter.unusedSimpArgs false

set_option maxHeartbeats 4000000 in
theorem trees4_out (a b c : ByteArray) (w : World) (ha : a.size ≤ 9223372036854775807) (hb : b.size ≤ 9223372036854775807) (hc : c.size ≤ 9223372036854775807) (hout : ¬ sumI a.size [(b.size : Int), (c.size : Int)] ≤ 500) :
    Calls Tryd.prog 5 #[.string a, .string b, .string c] w fun e w' => e = .returned (.bool true) ∧ Below w.heap.size w w' := by
  go_enter Tryd.func5, Tryd.ntmps5
  go_wp2_with fail
  refine (sum_calls (e := 3) (b0 := 0) (a.size : Int) _ [(b.size : Int), (c.size : Int)] _ (by omega) (by omega) (by intro x hx; simp at hx; omega) (Sl.at (heap_new rfl) rfl rfl (by simp) (by simp))).mono ?_
  rintro e w' ⟨rfl, rfl⟩
  obtain ⟨q, hq⟩ : ∃ q, q = sumI a.size [(b.size : Int), (c.size : Int)] := ⟨_, rfl⟩
  rw [← hq] at hout ⊢
  have d1 : decide (500 < q) = true := decide_eq_true (by omega)
  clear hq
  go_wp2_with fail
  refine (awake4_calls _).mono ?_
  rintro e w2 ⟨rfl, hb2⟩
  have HB := Aside0.mk (below_step ((Below.refl _ _).alloc (Nat.le_refl _) _) hb2)
  clear hb2
  go_wp2_with fail
  go_ret
  exact ⟨rfl, HB.out⟩

theorem empties {C : ByteArray} (h : C.data.toList = []) : C.toList.isEmpty = true ∧ (C.toList == []) = true ∧ (C.toList != []) = false := by
  rw [toList_eq, h]; exact ⟨rfl, rfl, rfl⟩
theorem fulls {C : ByteArray} (h : C.data.toList ≠ []) : C.toList.isEmpty = false ∧ (C.toList == []) = false ∧ (C.toList != []) = true := by
  rw [toList_eq]
  cases hd : C.data.toList with
  | nil => exact absurd hd h
  | cons x l => exact ⟨rfl, rfl, rfl⟩

set_option maxHeartbeats 8000000 in
theorem trees4_in (a b c : ByteArray) (w : World) (hin : sumI a.size [(b.size : Int), (c.size : Int)] ≤ 500) :
    Calls Tryd.prog 5 #[.string a, .string b, .string c] w fun e w' => e = .returned (.bool true) ∧ Below w.heap.size w w' := by
  have hsz := sumI_le 500 (by omega) _ _ hin
  simp only [List.sum_cons, List.sum_nil] at hsz
  have ha : a.size ≤ 500 := by omega
  have hb : b.size ≤ 500 := by omega
  have hc : c.size ≤ 500 := by omega
  clear hsz
  have HIN := Aside0.mk hin
  clear hin
  obtain ⟨C, hC⟩ : ∃ C, C = str (joinL a.data.toList c.data.toList) := ⟨_, rfl⟩
  have hCd : C.data.toList = joinL a.data.toList c.data.toList := by rw [hC, str_data]
  have hCs : C.size ≤ 2000 := by
    rw [← len_data, hCd]
    have h1 := len_data a
    have h2 := len_data c
    have hr : (joinRaw a.data.toList c.data.toList).length ≤ 2000 := by
      by_cases h0 : a.data.toList = []
      · rw [joinRaw, if_pos h0]; omega
      · rw [joinRaw, if_neg h0, List.length_append, List.length_cons]; omega
    rw [joinL]
    split
    · exact hr
    · exact Nat.zero_le _
  have HCC := Aside0.mk hC
  clear hC
  have HLAW := Aside0.mk (fun h1 h2 => trees_law (a := a.data.toList) (n := c.data.toList) h1 h2)
  rw [← hCd] at HLAW
  clear hCd
  by_cases hC0 : C.data.toList = []
  · obtain ⟨e1, e2, e3⟩ := empties hC0
    clear hC0
    go_enter Tryd.func5, Tryd.ntmps5
    go_wp2_with fail
    refine (sum_calls (e := 3) (b0 := 0) (a.size : Int) _ [(b.size : Int), (c.size : Int)] _ (by omega) (by omega) (by intro x hx; simp at hx; omega) (Sl.at (heap_new rfl) rfl rfl (by simp) (by simp))).mono ?_
    rintro e w' ⟨rfl, rfl⟩
    obtain ⟨q, hq⟩ : ∃ q, q = sumI a.size [(b.size : Int), (c.size : Int)] := ⟨_, rfl⟩
    have hin := HIN.out
    rw [← hq] at hin ⊢
    have d1 : decide (500 < q) = false := decide_eq_false (by omega)
    have HB := Aside0.mk (show Below w.heap.size w (w.alloc (.cells #[.int .i64 b.size, .int .i64 c.size] 3)) from (Below.refl _ _).alloc (Nat.le_refl _) _)
    clear hq hin
    go_wp2_with fail
    refine (join_calls a c _ (by omega)).mono ?_
    rintro e w1 ⟨rfl, hb1⟩
    have HB := Aside0.mk (below_step HB.out hb1)
    rw [← HCC.out]
    clear hb1
    go_wp2_with (first
      | (go_at_call 9; refine (awake4_calls _).mono ?_; rintro e w1 ⟨rfl, hb1⟩; have HB := Aside0.mk (below_step HB.out hb1); clear hb1))
    go_ret
    exact ⟨rfl, HB.out⟩
  · by_cases ha0 : a.data.toList = []
    · obtain ⟨e1, e2, e3⟩ := fulls hC0
      obtain ⟨e4, e5, e6⟩ := empties ha0
      clear hC0 ha0
      go_enter Tryd.func5, Tryd.ntmps5
      go_wp2_with fail
      refine (sum_calls (e := 3) (b0 := 0) (a.size : Int) _ [(b.size : Int), (c.size : Int)] _ (by omega) (by omega) (by intro x hx; simp at hx; omega) (Sl.at (heap_new rfl) rfl rfl (by simp) (by simp))).mono ?_
      rintro e w' ⟨rfl, rfl⟩
      obtain ⟨q, hq⟩ : ∃ q, q = sumI a.size [(b.size : Int), (c.size : Int)] := ⟨_, rfl⟩
      have hin := HIN.out
      rw [← hq] at hin ⊢
      have d1 : decide (500 < q) = false := decide_eq_false (by omega)
      have HB := Aside0.mk (show Below w.heap.size w (w.alloc (.cells #[.int .i64 b.size, .int .i64 c.size] 3)) from (Below.refl _ _).alloc (Nat.le_refl _) _)
      clear hq hin
      go_wp2_with fail
      refine (join_calls a c _ (by omega)).mono ?_
      rintro e w1 ⟨rfl, hb1⟩
      have HB := Aside0.mk (below_step HB.out hb1)
      rw [← HCC.out]
      clear hb1
      go_wp2_with (first
        | (go_at_call 9; refine (awake4_calls _).mono ?_; rintro e w1 ⟨rfl, hb1⟩; have HB := Aside0.mk (below_step HB.out hb1); clear hb1))
      go_ret
      exact ⟨rfl, HB.out⟩
    · obtain ⟨hu1, hu2, hu4, hu3, hu5⟩ := HLAW.out hC0 ha0
      have HU1 := Aside0.mk hu1
      have HU2 := Aside0.mk hu2
      have HU3 := Aside0.mk hu3
      have HU4 := Aside0.mk hu4
      obtain ⟨e1, e2, e3⟩ := fulls hC0
      obtain ⟨e4, e5, e6⟩ := fulls ha0
      clear hC0 ha0 hu1 hu2 hu3 hu4
      rcases hv : validB b.data.toList with _ | _
      · have HV := Aside0.mk hv
        clear hv hu5
        go_enter Tryd.func5, Tryd.ntmps5
        go_wp2_with fail
        refine (sum_calls (e := 3) (b0 := 0) (a.size : Int) _ [(b.size : Int), (c.size : Int)] _ (by omega) (by omega) (by intro x hx; simp at hx; omega) (Sl.at (heap_new rfl) rfl rfl (by simp) (by simp))).mono ?_
        rintro e w' ⟨rfl, rfl⟩
        obtain ⟨q, hq⟩ : ∃ q, q = sumI a.size [(b.size : Int), (c.size : Int)] := ⟨_, rfl⟩
        have hin := HIN.out
        rw [← hq] at hin ⊢
        have d1 : decide (500 < q) = false := decide_eq_false (by omega)
        have HB := Aside0.mk (show Below w.heap.size w (w.alloc (.cells #[.int .i64 b.size, .int .i64 c.size] 3)) from (Below.refl _ _).alloc (Nat.le_refl _) _)
        clear hq hin
        go_wp2_with fail
        refine (join_calls a c _ (by omega)).mono ?_
        rintro e w1 ⟨rfl, hb1⟩
        have HB := Aside0.mk (below_step HB.out hb1)
        rw [← HCC.out]
        clear hb1
        go_wp2_with (first
          | (go_at_call 21; refine (under_calls _ _ _ (by omega) (by omega)).mono ?_; rintro e w1 ⟨rfl, hb1⟩; (first | rw [HU1.out] | rw [HU2.out] | rw [HU3.out]); have HB := Aside0.mk (below_step HB.out hb1); clear hb1)
          | (go_at_call 23; refine (less_calls _ _ _ (by omega) (by omega)).mono ?_; rintro e w1 ⟨rfl, hb1⟩; (first | rw [HU4.out]); have HB := Aside0.mk (below_step HB.out hb1); clear hb1)
          | (go_at_call 10; refine (valid_calls _ _ (by omega)).mono ?_; rintro e w1 ⟨rfl, hb1⟩; rw [HV.out]; have HB := Aside0.mk (below_step HB.out hb1); clear hb1)
          | (go_at_call 9; refine (awake4_calls _).mono ?_; rintro e w1 ⟨rfl, hb1⟩; have HB := Aside0.mk (below_step HB.out hb1); clear hb1))
        go_ret
        exact ⟨rfl, HB.out⟩
      · have HV := Aside0.mk hv
        rcases h1 : lessB a.data.toList b.data.toList with _ | _
        · have HAB := Aside0.mk h1
          clear hv hu5 h1
          go_enter Tryd.func5, Tryd.ntmps5
          go_wp2_with fail
          refine (sum_calls (e := 3) (b0 := 0) (a.size : Int) _ [(b.size : Int), (c.size : Int)] _ (by omega) (by omega) (by intro x hx; simp at hx; omega) (Sl.at (heap_new rfl) rfl rfl (by simp) (by simp))).mono ?_
          rintro e w' ⟨rfl, rfl⟩
          obtain ⟨q, hq⟩ : ∃ q, q = sumI a.size [(b.size : Int), (c.size : Int)] := ⟨_, rfl⟩
          have hin := HIN.out
          rw [← hq] at hin ⊢
          have d1 : decide (500 < q) = false := decide_eq_false (by omega)
          have HB := Aside0.mk (show Below w.heap.size w (w.alloc (.cells #[.int .i64 b.size, .int .i64 c.size] 3)) from (Below.refl _ _).alloc (Nat.le_refl _) _)
          clear hq hin
          go_wp2_with fail
          refine (join_calls a c _ (by omega)).mono ?_
          rintro e w1 ⟨rfl, hb1⟩
          have HB := Aside0.mk (below_step HB.out hb1)
          rw [← HCC.out]
          clear hb1
          go_wp2_with (first
            | (go_at_call 21; refine (under_calls _ _ _ (by omega) (by omega)).mono ?_; rintro e w1 ⟨rfl, hb1⟩; (first | rw [HU1.out] | rw [HU2.out] | rw [HU3.out]); have HB := Aside0.mk (below_step HB.out hb1); clear hb1)
            | (go_at_call 23; refine (less_calls _ _ _ (by omega) (by omega)).mono ?_; rintro e w1 ⟨rfl, hb1⟩; (first | rw [HU4.out] | rw [HAB.out]); have HB := Aside0.mk (below_step HB.out hb1); clear hb1)
            | (go_at_call 10; refine (valid_calls _ _ (by omega)).mono ?_; rintro e w1 ⟨rfl, hb1⟩; rw [HV.out]; have HB := Aside0.mk (below_step HB.out hb1); clear hb1)
            | (go_at_call 9; refine (awake4_calls _).mono ?_; rintro e w1 ⟨rfl, hb1⟩; have HB := Aside0.mk (below_step HB.out hb1); clear hb1))
          go_ret
          exact ⟨rfl, HB.out⟩
        · have HAB := Aside0.mk h1
          rcases h2 : lessB b.data.toList C.data.toList with _ | _
          · have HBC := Aside0.mk h2
            clear hv hu5 h1 h2
            go_enter Tryd.func5, Tryd.ntmps5
            go_wp2_with fail
            refine (sum_calls (e := 3) (b0 := 0) (a.size : Int) _ [(b.size : Int), (c.size : Int)] _ (by omega) (by omega) (by intro x hx; simp at hx; omega) (Sl.at (heap_new rfl) rfl rfl (by simp) (by simp))).mono ?_
            rintro e w' ⟨rfl, rfl⟩
            obtain ⟨q, hq⟩ : ∃ q, q = sumI a.size [(b.size : Int), (c.size : Int)] := ⟨_, rfl⟩
            have hin := HIN.out
            rw [← hq] at hin ⊢
            have d1 : decide (500 < q) = false := decide_eq_false (by omega)
            have HB := Aside0.mk (show Below w.heap.size w (w.alloc (.cells #[.int .i64 b.size, .int .i64 c.size] 3)) from (Below.refl _ _).alloc (Nat.le_refl _) _)
            clear hq hin
            go_wp2_with fail
            refine (join_calls a c _ (by omega)).mono ?_
            rintro e w1 ⟨rfl, hb1⟩
            have HB := Aside0.mk (below_step HB.out hb1)
            rw [← HCC.out]
            clear hb1
            go_wp2_with (first
              | (go_at_call 21; refine (under_calls _ _ _ (by omega) (by omega)).mono ?_; rintro e w1 ⟨rfl, hb1⟩; (first | rw [HU1.out] | rw [HU2.out] | rw [HU3.out]); have HB := Aside0.mk (below_step HB.out hb1); clear hb1)
              | (go_at_call 23; refine (less_calls _ _ _ (by omega) (by omega)).mono ?_; rintro e w1 ⟨rfl, hb1⟩; (first | rw [HU4.out] | rw [HAB.out] | rw [HBC.out]); have HB := Aside0.mk (below_step HB.out hb1); clear hb1)
              | (go_at_call 10; refine (valid_calls _ _ (by omega)).mono ?_; rintro e w1 ⟨rfl, hb1⟩; rw [HV.out]; have HB := Aside0.mk (below_step HB.out hb1); clear hb1)
              | (go_at_call 9; refine (awake4_calls _).mono ?_; rintro e w1 ⟨rfl, hb1⟩; have HB := Aside0.mk (below_step HB.out hb1); clear hb1))
            go_ret
            exact ⟨rfl, HB.out⟩
          · have HBC := Aside0.mk h2
            have HU6 := Aside0.mk (hu5 _ hv h1 h2)
            clear hv hu5 h1 h2
            go_enter Tryd.func5, Tryd.ntmps5
            go_wp2_with fail
            refine (sum_calls (e := 3) (b0 := 0) (a.size : Int) _ [(b.size : Int), (c.size : Int)] _ (by omega) (by omega) (by intro x hx; simp at hx; omega) (Sl.at (heap_new rfl) rfl rfl (by simp) (by simp))).mono ?_
            rintro e w' ⟨rfl, rfl⟩
            obtain ⟨q, hq⟩ : ∃ q, q = sumI a.size [(b.size : Int), (c.size : Int)] := ⟨_, rfl⟩
            have hin := HIN.out
            rw [← hq] at hin ⊢
            have d1 : decide (500 < q) = false := decide_eq_false (by omega)
            have HB := Aside0.mk (show Below w.heap.size w (w.alloc (.cells #[.int .i64 b.size, .int .i64 c.size] 3)) from (Below.refl _ _).alloc (Nat.le_refl _) _)
            clear hq hin
            go_wp2_with fail
            refine (join_calls a c _ (by omega)).mono ?_
            rintro e w1 ⟨rfl, hb1⟩
            have HB := Aside0.mk (below_step HB.out hb1)
            rw [← HCC.out]
            clear hb1
            go_wp2_with (first
              | (go_at_call 21; refine (under_calls _ _ _ (by omega) (by omega)).mono ?_; rintro e w1 ⟨rfl, hb1⟩; (first | rw [HU1.out] | rw [HU2.out] | rw [HU3.out] | rw [HU6.out]); have HB := Aside0.mk (below_step HB.out hb1); clear hb1)
              | (go_at_call 23; refine (less_calls _ _ _ (by omega) (by omega)).mono ?_; rintro e w1 ⟨rfl, hb1⟩; (first | rw [HU4.out] | rw [HAB.out] | rw [HBC.out]); have HB := Aside0.mk (below_step HB.out hb1); clear hb1)
              | (go_at_call 10; refine (valid_calls _ _ (by omega)).mono ?_; rintro e w1 ⟨rfl, hb1⟩; rw [HV.out]; have HB := Aside0.mk (below_step HB.out hb1); clear hb1)
              | (go_at_call 9; refine (awake4_calls _).mono ?_; rintro e w1 ⟨rfl, hb1⟩; have HB := Aside0.mk (below_step HB.out hb1); clear hb1))
            go_ret
            exact ⟨rfl, HB.out⟩
end Go.Proofs.YtfjjaepchidcoaaDoor
