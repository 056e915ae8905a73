/-
  A path is put together again of what stands above it and its name. No condition.
-/
import Derived.Test.YtfjjaepchidcoaaDoorPathTrees4
import Derived.Test.YtfjjaepchidcoaaDoorFlow
namespace Go.Proofs.YtfjjaepchidcoaaDoor
open Go.RowKit
set_option linter.unusedVariables false
set_option linter.unusedSimpArgs false

set_option maxHeartbeats 4000000 in
theorem back_out (a : ByteArray) (w : World) (h : 200 < a.size) :
    Calls Tryd.prog 6 #[.string a] w fun e w' => e = .returned (.bool true) ∧ Below w.heap.size w w' := by
  have d1 : decide ((200 : Int) < a.size) = true := decide_eq_true (by omega)
  have d2 : decide (200 < a.size) = true := decide_eq_true h
  go_enter Tryd.func6, Tryd.ntmps6
  go_wp2_with fail
  refine (awake4_calls _).mono ?_
  rintro e w2 ⟨rfl, hb2⟩
  have HB := Aside0.mk hb2
  clear hb2
  go_wp2_with fail
  go_ret
  exact ⟨rfl, HB.out⟩

set_option maxHeartbeats 4000000 in
theorem back_no (a : ByteArray) (w : World) (h : ¬ 200 < a.size) (hv : validB a.data.toList = false) :
    Calls Tryd.prog 6 #[.string a] w fun e w' => e = .returned (.bool true) ∧ Below w.heap.size w w' := by
  have d1 : decide ((200 : Int) < a.size) = false := decide_eq_false (by omega)
  have d2 : decide (200 < a.size) = false := decide_eq_false h
  have ha : a.size ≤ 1000000000 := by omega
  have HV := Aside0.mk hv
  have HP : Aside0 (str (parentL a.data.toList) = ⟨#[]⟩) := ⟨by rw [parentL, hv]; rfl⟩
  have HN : Aside0 (str (nameL a.data.toList) = ⟨#[]⟩) := ⟨by rw [nameL, hv]; rfl⟩
  have HH : Aside0 (hiddenB a.data.toList = false) := ⟨by rw [hiddenB, hv]; rfl⟩
  have HB := Aside0.mk (Below.refl w.heap.size w)
  clear hv
  go_enter Tryd.func6, Tryd.ntmps6
  go_wp2_with (first
    | (go_at_call 10; refine (valid_calls _ _ ha).mono ?_; rintro e w1 ⟨rfl, hb1⟩; rw [HV.out]; have HB := Aside0.mk (below_step HB.out hb1); clear hb1)
    | (go_at_call 14; refine (parent_calls _ _ ha).mono ?_; rintro e w1 ⟨rfl, hb1⟩; rw [HP.out]; have HB := Aside0.mk (below_step HB.out hb1); clear hb1)
    | (go_at_call 16; refine (name_calls _ _ ha).mono ?_; rintro e w1 ⟨rfl, hb1⟩; rw [HN.out]; have HB := Aside0.mk (below_step HB.out hb1); clear hb1)
    | (go_at_call 19; refine (parts_no _ _ ha HV.out).mono ?_; rintro e w1 ⟨rfl, hb1⟩; have HB := Aside0.mk (below_step HB.out hb1); clear hb1)
    | (go_at_call 12; refine (hidden_calls _ _ ha).mono ?_; rintro e w1 ⟨rfl, hb1⟩; rw [HH.out]; have HB := Aside0.mk (below_step HB.out hb1); clear hb1)
    | (go_at_call 9; refine (awake4_calls _).mono ?_; rintro e w1 ⟨rfl, hb1⟩; have HB := Aside0.mk (below_step HB.out hb1); clear hb1))
  go_ret
  exact ⟨rfl, HB.out⟩

section
set_option maxRecDepth 100000
/-- What each slot of the region holds. -/
def BackR (a : ByteArray) (g n c : Nat) : Nat → Value → World → Prop
  | 0, v, w => v = .slice (some ⟨g, 0, none⟩) (n + 1) c
  | 1, v, w => v = .int .i64 ((n + 1 : Nat) : Int)
  | 2, v, w => v = .bool false
  | 3, v, w => v = .bool false
  | 4, v, w => v = .string a
  | 5, v, w => v = .string (str (parentL a.data.toList))
  | 6, v, w => v = .string a
  | 7, v, w => v = .string (str (nameL a.data.toList))
  | 8, v, w => v = .string a
  | 9, v, w => v = .string a
  | 10, v, w => v = .bool false
  | 11, v, w => v = .bool false
  | 12, v, w => v = .bool false
  | 13, v, w => v = .string a
  | 14, v, w => v = .string (str (nameL a.data.toList))
  | 15, v, w => v = .slice (some ⟨g, 0, none⟩) (n + 1) c
  | 16, v, w => v = .slice (some ⟨g, 0, none⟩) (n + 1) c
  | 17, v, w => v = .int .i64 ((n + 1 : Nat) : Int)
  | 18, v, w => v = .int .i64 (n : Int)
  | 19, v, w => v = .pointer (some ⟨g, n, none⟩)
  | 20, v, w => v = .string (str (nameL a.data.toList))
  | 21, v, w => v = .bool false
  | 22, v, w => v = .bool false
  | _, _, _ => True
theorem BackR_st (a : ByteArray) (g n c : Nat) : ∀ i v w w', BackR a g n c i v w → Below w.heap.size w w' → BackR a g n c i v w'
  | 0, v, w, w', h, hb => h
  | 1, v, w, w', h, hb => h
  | 2, v, w, w', h, hb => h
  | 3, v, w, w', h, hb => h
  | 4, v, w, w', h, hb => h
  | 5, v, w, w', h, hb => h
  | 6, v, w, w', h, hb => h
  | 7, v, w, w', h, hb => h
  | 8, v, w, w', h, hb => h
  | 9, v, w, w', h, hb => h
  | 10, v, w, w', h, hb => h
  | 11, v, w, w', h, hb => h
  | 12, v, w, w', h, hb => h
  | 13, v, w, w', h, hb => h
  | 14, v, w, w', h, hb => h
  | 15, v, w, w', h, hb => h
  | 16, v, w, w', h, hb => h
  | 17, v, w, w', h, hb => h
  | 18, v, w, w', h, hb => h
  | 19, v, w, w', h, hb => h
  | 20, v, w, w', h, hb => h
  | 21, v, w, w', h, hb => h
  | 22, v, w, w', h, hb => h
  | _ + 23, _, _, _, _, _ => trivial
end
set_option maxHeartbeats 8000000 in
set_option maxRecDepth 100000 in
theorem back_yes (a : ByteArray) (w : World) (h : ¬ 200 < a.size) (hv : validB a.data.toList = true) :
    Calls Tryd.prog 6 #[.string a] w fun e w' => e = .returned (.bool true) ∧ Below w.heap.size w w' := by
  have d1 : decide ((200 : Int) < a.size) = false := decide_eq_false (by omega)
  have d2 : decide (200 < a.size) = false := decide_eq_false h
  have ha : a.size ≤ 200 := by omega
  have HV := Aside0.mk hv
  have hlaw := back_law hv
  have HJ : Aside0 (str (joinL (str (parentL a.data.toList)).data.toList (str (nameL a.data.toList)).data.toList) = a) := ⟨by rw [str_data, str_data, hlaw.1, str_of]⟩
  have HSZ : Aside0 ((str (parentL a.data.toList)).size + (str (nameL a.data.toList)).size ≤ 400) := ⟨by
    rw [str_size, str_size]
    have hl := len_data a
    have h1 : (parentL a.data.toList).length ≤ 200 := by
      rcases last_split a.data.toList with ⟨h1, _⟩ | ⟨k, h1, _, _⟩
      · rw [parent_none h1]; simp
      · rw [parent_some h1 hv, List.length_take]; omega
    have h2 : (nameL a.data.toList).length ≤ 200 := by rw [name_some hv, List.length_drop]; omega
    omega⟩
  obtain ⟨n, hn⟩ : ∃ n, (splitP a.data.toList).length = n + 1 := ⟨(splitP a.data.toList).length - 1, by have := List.length_pos_iff.2 (splitP_ne a.data.toList); omega⟩
  have HNL : Aside0 ((splitP a.data.toList).getD n [] = nameL a.data.toList) := ⟨by have := hlaw.2; rw [hn] at this; exact this.symm⟩
  have HSTEP : Aside0 (∀ i, i < n + 1 → joinL (joinP ((splitP a.data.toList).take i)) ((splitP a.data.toList).getD i []) = joinP ((splitP a.data.toList).take (i + 1))) := ⟨fun i hi => back_step hv i (by omega)⟩
  have HLEN : Aside0 (∀ i, (joinP ((splitP a.data.toList).take i)).length ≤ 200) := ⟨fun i => by
    rcases Nat.eq_zero_or_pos i with rfl | h0
    · simp [joinP]
    · have := valid_len (valid_take hv i h0).1; omega⟩
  have HPL : Aside0 (∀ i, ((splitP a.data.toList).getD i []).length ≤ 200) := ⟨fun i => by
    rw [List.getD_eq_getElem?_getD]
    cases hx : (splitP a.data.toList)[i]? with
    | none => simp
    | some x => have := split_size _ x (List.mem_of_getElem? hx); rw [len_data] at this; simp only [Option.getD_some]; omega⟩
  have HEND : Aside0 (str (joinP ((splitP a.data.toList).take (n + 1))) = a) := ⟨by rw [List.take_of_length_le (by omega), join_split, str_of]⟩
  have HU : Aside0 (underB a.data.toList [] = true) := ⟨by rw [underB, if_pos rfl]; exact hv⟩
  have hn9 : n ≤ 1000 := by
    have := (splitP a.data.toList).length
    have h1 : ∀ s : List UInt8, (splitP s).length ≤ s.length + 1 := by
      intro s
      induction s with
      | nil => simp [splitP]
      | cons c s ih =>
        rw [splitP]
        split
        · simp; omega
        · cases hs : splitP s with
          | nil => simp
          | cons p ps => rw [hs] at ih; simp at ih ⊢; omega
    have h2 := h1 a.data.toList
    rw [len_data] at h2
    omega
  have HBx := Aside0.mk (Below.refl w.heap.size w)
  clear hv hlaw
  go_enter Tryd.func6, Tryd.ntmps6
  go_wp2_with fail
  refine (valid_calls _ _ (by omega)).mono ?_
  rintro e w1 ⟨rfl, hb1⟩
  rw [HV.out]
  have HB1 := Aside0.mk hb1
  clear hb1
  go_wp2_with fail
  refine (parts_yes a w1 (by omega) HV.out).mono ?_
  rintro e w2 ⟨v2, rfl, hs2, ⟨g, n2, c, hv2⟩, hb2⟩
  subst hv2
  have HB2 := Aside0.mk (below_step HB1.out hb2)
  have HS2 := Aside0.mk hs2
  obtain ⟨A1, c1, he1, hc1, hm1, _⟩ := hs2
  cases he1
  rw [hn] at HS2 ⊢
  have HCELL : Aside0 (w2.cell? ⟨g, n, none⟩ = some (.string (str (nameL a.data.toList)))) := ⟨by
    obtain ⟨ad, c9, he, hcell⟩ := HS2.out.at n (by omega)
    rw [hn] at he
    cases he
    rw [at_zero, HNL.out] at hcell
    exact hcell⟩
  have HN := Aside0.mk hn
  clear hb2 hn
  go_wp2_with fail
  refine wp_region_flow (BackR a g n c) (by kernel_rfl) (by kernel_rfl) (BackR_st _ _ _ _) ?_ ?_
  · intro i o ho aa w' F
    have hlow := F.low
    match i, ho with
    | 0, ho =>
      obtain rfl := Option.some.inj ho
      refine flow_plain rfl rfl ?_
      have f3 : aa.tmps.getD 3 undef = .slice (some ⟨g, 0, none⟩) (n + 1) c := eval_out F 3 (by kernel_rfl) _ rfl
      exact op_move (.tmp 3) rfl ⟨_, rfl, Below.refl _ _, f3⟩
    | 1, ho =>
      obtain rfl := Option.some.inj ho
      refine flow_plain rfl rfl ?_
      have f37 : (aa.tmps.getD 37 undef) = .slice (some ⟨g, 0, none⟩) (n + 1) c := F.of 0 (by kernel_rfl)
      refine op_pure (.int .i64 ((n + 1 : Nat) : Int)) ?_ ⟨_, rfl, Below.refl _ _, rfl⟩
      simp [execOp, Act.eval, go_sem, f37]
    | 2, ho =>
      obtain rfl := Option.some.inj ho
      refine flow_plain rfl rfl ?_
      have f38 : (aa.tmps.getD 38 undef) = .int .i64 ((n + 1 : Nat) : Int) := F.of 1 (by kernel_rfl)
      refine op_pure (.bool false) ?_ ⟨_, rfl, Below.refl _ _, rfl⟩
      simp [execOp, Act.eval, go_sem, f38, show ¬ (n : Int) + 1 = 0 by omega]
    | 3, ho =>
      obtain rfl := Option.some.inj ho
      refine flow_plain rfl rfl ?_
      have f39 : (aa.tmps.getD 39 undef) = .bool false := F.of 2 (by kernel_rfl)
      exact op_move (.tmp 39) rfl ⟨_, rfl, Below.refl _ _, f39⟩
    | 4, ho =>
      obtain rfl := Option.some.inj ho
      have hg : aa.tmps.getD 40 undef = .bool false := F.of 3 (by kernel_rfl)
      refine flow_yes rfl rfl 40 rfl hg ?_
      have f0 : aa.tmps.getD 0 undef = .string a := eval_out F 0 (by kernel_rfl) _ rfl
      exact op_move (.tmp 0) rfl ⟨_, rfl, Below.refl _ _, f0⟩
    | 5, ho =>
      obtain rfl := Option.some.inj ho
      have hg : aa.tmps.getD 40 undef = .bool false := F.of 3 (by kernel_rfl)
      refine flow_yes rfl rfl 40 rfl hg ?_
      have f41 : (aa.tmps.getD 41 undef) = .string a := F.of 4 (by kernel_rfl)
      refine op_call 14 #[.tmp 41] #[9] rfl _ rfl rfl rfl #[.string a] (by simp [Act.eval, f41]) ?_
      refine (parent_calls _ _ (by omega)).mono ?_
      rintro e w7 ⟨rfl, hb7⟩
      exact ⟨_, rfl, _, rfl, hb7, rfl⟩
    | 6, ho =>
      obtain rfl := Option.some.inj ho
      have hg : aa.tmps.getD 40 undef = .bool false := F.of 3 (by kernel_rfl)
      refine flow_yes rfl rfl 40 rfl hg ?_
      have f0 : aa.tmps.getD 0 undef = .string a := eval_out F 0 (by kernel_rfl) _ rfl
      exact op_move (.tmp 0) rfl ⟨_, rfl, Below.refl _ _, f0⟩
    | 7, ho =>
      obtain rfl := Option.some.inj ho
      have hg : aa.tmps.getD 40 undef = .bool false := F.of 3 (by kernel_rfl)
      refine flow_yes rfl rfl 40 rfl hg ?_
      have f43 : (aa.tmps.getD 43 undef) = .string a := F.of 6 (by kernel_rfl)
      refine op_call 16 #[.tmp 43] #[9] rfl _ rfl rfl rfl #[.string a] (by simp [Act.eval, f43]) ?_
      refine (name_calls _ _ (by omega)).mono ?_
      rintro e w7 ⟨rfl, hb7⟩
      exact ⟨_, rfl, _, rfl, hb7, rfl⟩
    | 8, ho =>
      obtain rfl := Option.some.inj ho
      have hg : aa.tmps.getD 40 undef = .bool false := F.of 3 (by kernel_rfl)
      refine flow_yes rfl rfl 40 rfl hg ?_
      have f42 : (aa.tmps.getD 42 undef) = .string (str (parentL a.data.toList)) := F.of 5 (by kernel_rfl)
      have f44 : (aa.tmps.getD 44 undef) = .string (str (nameL a.data.toList)) := F.of 7 (by kernel_rfl)
      refine op_call 25 #[.tmp 42, .tmp 44] #[9, 9] rfl _ rfl rfl rfl #[.string (str (parentL a.data.toList)), .string (str (nameL a.data.toList))] (by simp [Act.eval, f42, f44]) ?_
      refine (join_calls _ _ _ (by have := HSZ.out; omega)).mono ?_
      rintro e w7 ⟨rfl, hb7⟩
      exact ⟨_, rfl, _, rfl, hb7, by rw [HJ.out]; rfl⟩
    | 9, ho =>
      obtain rfl := Option.some.inj ho
      have hg : aa.tmps.getD 40 undef = .bool false := F.of 3 (by kernel_rfl)
      refine flow_yes rfl rfl 40 rfl hg ?_
      have f0 : aa.tmps.getD 0 undef = .string a := eval_out F 0 (by kernel_rfl) _ rfl
      exact op_move (.tmp 0) rfl ⟨_, rfl, Below.refl _ _, f0⟩
    | 10, ho =>
      obtain rfl := Option.some.inj ho
      have hg : aa.tmps.getD 40 undef = .bool false := F.of 3 (by kernel_rfl)
      refine flow_yes rfl rfl 40 rfl hg ?_
      have f45 : (aa.tmps.getD 45 undef) = .string a := F.of 8 (by kernel_rfl)
      have f46 : (aa.tmps.getD 46 undef) = .string a := F.of 9 (by kernel_rfl)
      refine op_pure (.bool false) ?_ ⟨_, rfl, Below.refl _ _, rfl⟩
      simp [execOp, Act.eval, go_sem, f45, f46]
    | 11, ho =>
      obtain rfl := Option.some.inj ho
      refine flow_plain rfl rfl ?_
      have f40 : (aa.tmps.getD 40 undef) = .bool false := F.of 3 (by kernel_rfl)
      have f47 : (aa.tmps.getD 47 undef) = .bool false := F.of 10 (by kernel_rfl)
      refine op_pure (.bool false) ?_ ⟨_, rfl, Below.refl _ _, rfl⟩
      simp [execOp, Act.eval, go_sem, f40, f47]
    | 12, ho =>
      obtain rfl := Option.some.inj ho
      refine flow_plain rfl rfl ?_
      have f48 : (aa.tmps.getD 48 undef) = .bool false := F.of 11 (by kernel_rfl)
      exact op_move (.tmp 48) rfl ⟨_, rfl, Below.refl _ _, f48⟩
    | 13, ho =>
      obtain rfl := Option.some.inj ho
      have hg : aa.tmps.getD 49 undef = .bool false := F.of 12 (by kernel_rfl)
      refine flow_yes rfl rfl 49 rfl hg ?_
      have f0 : aa.tmps.getD 0 undef = .string a := eval_out F 0 (by kernel_rfl) _ rfl
      exact op_move (.tmp 0) rfl ⟨_, rfl, Below.refl _ _, f0⟩
    | 14, ho =>
      obtain rfl := Option.some.inj ho
      have hg : aa.tmps.getD 49 undef = .bool false := F.of 12 (by kernel_rfl)
      refine flow_yes rfl rfl 49 rfl hg ?_
      have f50 : (aa.tmps.getD 50 undef) = .string a := F.of 13 (by kernel_rfl)
      refine op_call 16 #[.tmp 50] #[9] rfl _ rfl rfl rfl #[.string a] (by simp [Act.eval, f50]) ?_
      refine (name_calls _ _ (by omega)).mono ?_
      rintro e w7 ⟨rfl, hb7⟩
      exact ⟨_, rfl, _, rfl, hb7, rfl⟩
    | 15, ho =>
      obtain rfl := Option.some.inj ho
      have hg : aa.tmps.getD 49 undef = .bool false := F.of 12 (by kernel_rfl)
      refine flow_yes rfl rfl 49 rfl hg ?_
      have f3 : aa.tmps.getD 3 undef = .slice (some ⟨g, 0, none⟩) (n + 1) c := eval_out F 3 (by kernel_rfl) _ rfl
      exact op_move (.tmp 3) rfl ⟨_, rfl, Below.refl _ _, f3⟩
    | 16, ho =>
      obtain rfl := Option.some.inj ho
      have hg : aa.tmps.getD 49 undef = .bool false := F.of 12 (by kernel_rfl)
      refine flow_yes rfl rfl 49 rfl hg ?_
      have f3 : aa.tmps.getD 3 undef = .slice (some ⟨g, 0, none⟩) (n + 1) c := eval_out F 3 (by kernel_rfl) _ rfl
      exact op_move (.tmp 3) rfl ⟨_, rfl, Below.refl _ _, f3⟩
    | 17, ho =>
      obtain rfl := Option.some.inj ho
      have hg : aa.tmps.getD 49 undef = .bool false := F.of 12 (by kernel_rfl)
      refine flow_yes rfl rfl 49 rfl hg ?_
      have f53 : (aa.tmps.getD 53 undef) = .slice (some ⟨g, 0, none⟩) (n + 1) c := F.of 16 (by kernel_rfl)
      refine op_pure (.int .i64 ((n + 1 : Nat) : Int)) ?_ ⟨_, rfl, Below.refl _ _, rfl⟩
      simp [execOp, Act.eval, go_sem, f53]
    | 18, ho =>
      obtain rfl := Option.some.inj ho
      have hg : aa.tmps.getD 49 undef = .bool false := F.of 12 (by kernel_rfl)
      refine flow_yes rfl rfl 49 rfl hg ?_
      have f54 : (aa.tmps.getD 54 undef) = .int .i64 ((n + 1 : Nat) : Int) := F.of 17 (by kernel_rfl)
      refine op_pure (.int .i64 (n : Int)) ?_ ⟨_, rfl, Below.refl _ _, rfl⟩
      have z1 : IntKind.i64.wrap (n : Int) = (n : Int) := IntWalk.i64_in _ (by omega)
      simp [execOp, Act.eval, go_sem, f54, z1]
      try omega
    | 19, ho =>
      obtain rfl := Option.some.inj ho
      have hg : aa.tmps.getD 49 undef = .bool false := F.of 12 (by kernel_rfl)
      refine flow_yes rfl rfl 49 rfl hg ?_
      have f52 : (aa.tmps.getD 52 undef) = .slice (some ⟨g, 0, none⟩) (n + 1) c := F.of 15 (by kernel_rfl)
      have f55 : (aa.tmps.getD 55 undef) = .int .i64 (n : Int) := F.of 18 (by kernel_rfl)
      refine op_pure (.pointer (some ⟨g, n, none⟩)) ?_ ⟨_, rfl, Below.refl _ _, rfl⟩
      simp [execOp, Act.eval, go_sem, f52, f55]
      intro h9; omega
    | 20, ho =>
      obtain rfl := Option.some.inj ho
      have hg : aa.tmps.getD 49 undef = .bool false := F.of 12 (by kernel_rfl)
      refine flow_yes rfl rfl 49 rfl hg ?_
      have f56 : (aa.tmps.getD 56 undef) = .pointer (some ⟨g, n, none⟩) := F.of 19 (by kernel_rfl)
      have hc := cell_keep hlow HCELL.out
      refine op_pure (.string (str (nameL a.data.toList))) ?_ ⟨_, rfl, Below.refl _ _, rfl⟩
      simp [execOp, Act.eval, go_sem, f56, hc]
    | 21, ho =>
      obtain rfl := Option.some.inj ho
      have hg : aa.tmps.getD 49 undef = .bool false := F.of 12 (by kernel_rfl)
      refine flow_yes rfl rfl 49 rfl hg ?_
      have f51 : (aa.tmps.getD 51 undef) = .string (str (nameL a.data.toList)) := F.of 14 (by kernel_rfl)
      have f57 : (aa.tmps.getD 57 undef) = .string (str (nameL a.data.toList)) := F.of 20 (by kernel_rfl)
      refine op_pure (.bool false) ?_ ⟨_, rfl, Below.refl _ _, rfl⟩
      simp [execOp, Act.eval, go_sem, f51, f57]
    | 22, ho =>
      obtain rfl := Option.some.inj ho
      refine flow_plain rfl rfl ?_
      have f49 : (aa.tmps.getD 49 undef) = .bool false := F.of 12 (by kernel_rfl)
      have f58 : (aa.tmps.getD 58 undef) = .bool false := F.of 21 (by kernel_rfl)
      refine op_pure (.bool false) ?_ ⟨_, rfl, Below.refl _ _, rfl⟩
      simp [execOp, Act.eval, go_sem, f49, f58]
    | j + 23, ho => exact absurd (Array.getElem?_eq_some_iff.1 ho).1 (by simp)
  · intro vs w' hlow hvs
    have h22 : vs 22 = .bool false := hvs 22 (by simp)
    have HB3 := Aside0.mk (below_step HB2.out hlow)
    have HL3 := Aside0.mk hlow
    rw [puts_eq _ vs _ [37, 38, 39, 40, 41, 42, 43, 44, 45, 46, 47, 48, 49, 50, 51, 52, 53, 54, 55, 56, 57, 58, 59] (by kernel_rfl)]
    simp only [putL, Act.put, List.setIfInBounds_toArray, List.set_cons_zero, List.set_cons_succ, Nat.reduceAdd]
    rw [h22]
    clear hvs hlow h22
    go_wp2_with fail
    have H0 : Aside0 ((⟨#[]⟩ : ByteArray) = str (joinP ((splitP a.data.toList).take 0))) := ⟨rfl⟩
    go_loopw [4, 5] (fun s i wr => ∃ (k : Nat) (u : ByteArray), k ≤ n + 1 ∧ i = .int .i64 k ∧ s = .string u ∧ Aside0 (u = str (joinP ((splitP a.data.toList).take k)) ∧ Below w'.heap.size w' wr)) (fun s i wr => n + 1 - (intOf i).toNat)
    case atStart => exact ⟨0, _, Nat.zero_le _, rfl, rfl, ⟨H0.out, Below.refl _ _⟩⟩
    case round =>
      obtain ⟨k, u, hk, rfl, rfl, hs⟩ := hrel
      by_cases hlt : k < n + 1
      · obtain ⟨ad, c9, he, hcell⟩ := HS2.out.at k (by rw [HN.out]; exact hlt)
        rw [HN.out] at he
        cases he
        rw [at_zero] at hcell
        have hcell := cell_keep (below_step HL3.out hs.out.2) hcell
        have HUS : Aside0 (u.size + (str ((splitP a.data.toList).getD k [])).size ≤ 999999999) := ⟨by
          rw [hs.out.1, str_size, str_size]
          have h1 := HLEN.out k
          have h2 := HPL.out k
          omega⟩
        have HX : Aside0 (str (joinL u.data.toList (str ((splitP a.data.toList).getD k [])).data.toList) = str (joinP ((splitP a.data.toList).take (k + 1)))) := ⟨by
          rw [hs.out.1, str_data, str_data, HSTEP.out k hlt]⟩
        obtain ⟨p, hp⟩ : ∃ p, p = str ((splitP a.data.toList).getD k []) := ⟨_, rfl⟩
        rw [← hp] at hcell HUS HX
        have z1 : (k : Int) < ((n + 1 : Nat) : Int) := by omega
        have z2 : (k : Int) < (n : Int) + 1 := by omega
        have z3 : 0 ≤ (k : Int) := by omega
        clear hp
        go_wp2_with fail
        refine (join_calls _ _ _ HUS.out).mono ?_
        rintro e w8 ⟨rfl, hb8⟩
        have HB8 := Aside0.mk (below_step hs.out.2 hb8)
        clear hb8
        go_wp2_with fail
        go_roundw
        case rel => exact ⟨k + 1, _, by omega, by go_num, rfl, ⟨HX.out, HB8.out⟩⟩
        case measure => simp [intOf]; omega
      · have hu : u = a := by
          have := hs.out.1
          rw [show k = n + 1 by omega, HEND.out] at this
          exact this
        subst hu
        have e1 : (u.toList == u.toList) = true := beq_self_eq_true _
        have HB9 := Aside0.mk (below_step HB3.out hs.out.2)
        have hu2 : u.size ≤ 999999999 := by omega
        clear hs
        go_wp2_with fail
        refine (under_calls _ _ _ hu2 (by decide)).mono ?_
        rintro e w8 ⟨rfl, hb8⟩
        rw [show underB u.data.toList (ByteArray.mk #[]).data.toList = true from HU.out]
        have HB8 := Aside0.mk (below_step HB9.out hb8)
        clear hb8
        go_wp2_with fail
        refine (awake4_calls _).mono ?_
        rintro e w9 ⟨rfl, hb9⟩
        have HB10 := Aside0.mk (below_step HB8.out hb9)
        clear hb9
        go_wp2_with fail
        go_ret
        exact ⟨rfl, HB10.out⟩
end Go.Proofs.YtfjjaepchidcoaaDoor
