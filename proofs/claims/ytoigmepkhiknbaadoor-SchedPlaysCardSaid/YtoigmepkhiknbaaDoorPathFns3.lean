/-
  path's functions: Join, Under, Compare, Less. No condition but lengths.
-/
import Derived.Test.YtoigmepkhiknbaaDoorPathFns2
namespace Go.Proofs.YtoigmepkhiknbaaDoor
open Go.RowKit
set_option linter.unusedVariables false
set_option linter.unusedSimpArgs false

theorem size_app (a b : ByteArray) : (a ++ b).size = a.size + b.size := ByteArray.size_append
theorem data_app (a b : ByteArray) : (a ++ b).data.toList = a.data.toList ++ b.data.toList := by rw [ByteArray.data_append, Array.toList_append]
theorem size_zero {s : ByteArray} : s.data.toList = [] ↔ s.size = 0 := by rw [← len_data]; exact List.length_eq_zero_iff.symm

/-! ### the order -/
def cmpS (a b : List UInt8) : Int := if ltS a b = true then -1 else if ltS b a = true then 1 else 0
def cmpP (a b : List (List UInt8)) : Int := if ltP a b = true then -1 else if ltP b a = true then 1 else 0
/-- Below nought, nought, or above. -/
def cmpL (a b : List UInt8) : Int :=
  match validB a, validB b with
  | true, true => cmpP (splitP a) (splitP b)
  | true, false => -1
  | false, true => 1
  | false, false => cmpS a b
theorem cmpL_less (a b : List UInt8) : decide (cmpL a b < 0) = lessB a b := by
  unfold cmpL lessB
  cases validB a <;> cases validB b
  · show decide (cmpS a b < 0) = ltS a b
    unfold cmpS
    cases h : ltS a b with
    | true => rfl
    | false => cases h2 : ltS b a <;> rfl
  · rfl
  · rfl
  · show decide (cmpP (splitP a) (splitP b) < 0) = ltP (splitP a) (splitP b)
    unfold cmpP
    cases h : ltP (splitP a) (splitP b) with
    | true => rfl
    | false => cases h2 : ltP (splitP b) (splitP a) <;> rfl
theorem cmpL_bd (a b : List UInt8) : -1 ≤ cmpL a b ∧ cmpL a b ≤ 1 := by
  unfold cmpL
  have h1 : ∀ x y : Bool, -1 ≤ (if x = true then (-1 : Int) else if y = true then 1 else 0) ∧ (if x = true then (-1 : Int) else if y = true then 1 else 0) ≤ 1 := by decide
  split
  · exact h1 _ _
  · decide
  · decide
  · exact h1 _ _
/-- Alike so far. -/
def AlikeTo (A B : List (List UInt8)) (k : Nat) : Prop := ltP A B = ltP (A.drop k) (B.drop k) ∧ ltP B A = ltP (B.drop k) (A.drop k)
theorem alike_zero (A B : List (List UInt8)) : AlikeTo A B 0 := ⟨rfl, rfl⟩
theorem drop_at {α : Type} {l : List α} {k : Nat} {d : α} (h : k < l.length) : l.drop k = l.getD k d :: l.drop (k + 1) := by
  rw [List.drop_eq_getElem_cons h]; simp [List.getElem?_eq_getElem h]
theorem alike_step {A B : List (List UInt8)} {k : Nat} (h : AlikeTo A B k) (ha : k < A.length) (hb : k < B.length) :
    cmpP A B = if cmpS (A.getD k []) (B.getD k []) = 0 then cmpP A B else cmpS (A.getD k []) (B.getD k []) := by
  obtain ⟨h1, h2⟩ := h
  rw [drop_at (d := []) ha, drop_at (d := []) hb] at h1 h2
  unfold cmpS
  cases h3 : ltS (A.getD k []) (B.getD k []) with
  | true =>
    have : ltP A B = true := by rw [h1]; show lexB ltS _ _ = _; rw [lexB, h3]; rfl
    simp [cmpP, this]
  | false =>
    cases h4 : ltS (B.getD k []) (A.getD k []) with
    | true =>
      have e1 : ltP A B = false := by rw [h1]; show lexB ltS _ _ = _; rw [lexB, h3, h4]; rfl
      have e2 : ltP B A = true := by rw [h2]; show lexB ltS _ _ = _; rw [lexB, h4]; rfl
      simp [cmpP, e1, e2]
    | false => simp
theorem alike_succ {A B : List (List UInt8)} {k : Nat} (h : AlikeTo A B k) (ha : k < A.length) (hb : k < B.length) (hc : cmpS (A.getD k []) (B.getD k []) = 0) : AlikeTo A B (k + 1) := by
  obtain ⟨h1, h2⟩ := h
  rw [drop_at (d := []) ha, drop_at (d := []) hb] at h1 h2
  have h3 : ltS (A.getD k []) (B.getD k []) = false := by
    cases h3 : ltS (A.getD k []) (B.getD k []) with
    | false => rfl
    | true => unfold cmpS at hc; rw [h3] at hc; simp at hc
  have h4 : ltS (B.getD k []) (A.getD k []) = false := by
    cases h4 : ltS (B.getD k []) (A.getD k []) with
    | false => rfl
    | true => unfold cmpS at hc; rw [h3, h4] at hc; simp at hc
  refine ⟨h1.trans ?_, h2.trans ?_⟩
  · show lexB ltS _ _ = _; rw [lexB, h3, h4]; rfl
  · show lexB ltS _ _ = _; rw [lexB, h3, h4]; rfl
theorem alike_end {A B : List (List UInt8)} {k : Nat} (h : AlikeTo A B k) (hk : A.length ≤ k ∨ B.length ≤ k) (ha : k ≤ A.length) (hb : k ≤ B.length) :
    cmpP A B = if (A.length : Int) < B.length then -1 else if (B.length : Int) < A.length then 1 else 0 := by
  obtain ⟨h1, h2⟩ := h
  rcases Nat.lt_trichotomy A.length B.length with h3 | h3 | h3
  · have e1 : A.drop k = [] := List.drop_eq_nil_of_le (by omega)
    have e2 : B.drop k ≠ [] := by intro e; have := congrArg List.length e; simp at this; omega
    rw [e1] at h1
    have : ltP A B = true := by rw [h1]; cases hd : B.drop k with
      | nil => exact absurd hd e2
      | cons x l => rfl
    rw [cmpP, if_pos this, if_pos (by omega)]
  · have e1 : A.drop k = [] := List.drop_eq_nil_of_le (by omega)
    have e2 : B.drop k = [] := List.drop_eq_nil_of_le (by omega)
    rw [e1, e2] at h1 h2
    rw [cmpP, if_neg (by rw [h1]; decide), if_neg (by rw [h2]; decide), if_neg (by omega), if_neg (by omega)]
  · have e1 : B.drop k = [] := List.drop_eq_nil_of_le (by omega)
    have e2 : A.drop k ≠ [] := by intro e; have := congrArg List.length e; simp at this; omega
    rw [e1] at h1 h2
    have g1 : ltP A B = false := by rw [h1]; cases hd : A.drop k with
      | nil => exact absurd hd e2
      | cons x l => rfl
    have g2 : ltP B A = true := by rw [h2]; cases hd : A.drop k with
      | nil => exact absurd hd e2
      | cons x l => rfl
    rw [cmpP, if_neg (by rw [g1]; decide), if_pos g2, if_neg (by omega), if_pos (by omega)]

theorem cmps_same (a b : List UInt8) (w : World) : Calls Tryd.prog 42 #[.string (str a), .string (str b)] w fun e w' => e = .returned (.int .i64 (cmpS a b)) ∧ w' = w := by
  refine (cmps_calls (str a) (str b) w).mono ?_
  rintro e w' ⟨rfl, rfl⟩
  rw [str_data, str_data]
  exact ⟨rfl, rfl⟩

theorem at_zero (g k : Nat) : (⟨g, 0, none⟩ : Addr).add k = ⟨g, k, none⟩ := by unfold Addr.add; split <;> simp_all

set_option maxHeartbeats 2000000 in
theorem compare_yes (a b : ByteArray) (w : World) (ha : a.size ≤ 1000000000) (hb : b.size ≤ 1000000000) (hva : validB a.data.toList = true) (hvb : validB b.data.toList = true) :
    Calls Tryd.prog 32 #[.string a, .string b] w fun e w' => e = .returned (.int .i64 (cmpL a.data.toList b.data.toList)) ∧ Below w.heap.size w w' := by
  have HE : Aside0 (cmpL a.data.toList b.data.toList = cmpP (splitP a.data.toList) (splitP b.data.toList)) := ⟨by rw [cmpL, hva, hvb]⟩
  have HVA := Aside0.mk hva
  have HVB := Aside0.mk hvb
  clear hva hvb
  go_enter Tryd.func32, Tryd.ntmps32
  go_wp2_with fail
  go_step3
  go_wp2_with fail
  refine (parts_yes a w ha HVA.out).mono ?_
  rintro e w1 ⟨v1, rfl, hs1, ⟨g1, n1, c1, hv1⟩, hb1⟩
  have HB1 := Aside0.mk hb1
  obtain ⟨A, hA⟩ : ∃ A, A = splitP a.data.toList := ⟨_, rfl⟩
  rw [← hA] at hs1 HE
  subst hv1
  have HS1 := Aside0.mk hs1
  clear hb1 hs1 hA
  go_wp2_with fail
  refine (parts_yes b w1 hb HVB.out).mono ?_
  rintro e w2 ⟨v2, rfl, hs2, ⟨g2, n2, c2, hv2⟩, hb2⟩
  have HB2 := Aside0.mk (below_step HB1.out hb2)
  obtain ⟨B, hB⟩ : ∃ B, B = splitP b.data.toList := ⟨_, rfl⟩
  rw [← hB] at hs2 HE
  subst hv2
  have HS1 := Aside0.mk (Sl.below HS1.out hb2)
  have HS2 := Aside0.mk hs2
  clear hb2 hs2 hB
  obtain ⟨A1, c1', he1, hc1, hm1, _⟩ := HS1.out
  cases he1
  obtain ⟨A2, c2', he2, hc2, hm2, _⟩ := HS2.out
  cases he2
  have q1 := fun w => Lib.run_eql_slice_nil (P := Tryd.prog) w 26 9 (some ⟨g1, 0, none⟩) A.length c1 0 0 Tryd.underlying26
  have q2 := fun w => Lib.run_eql_slice_nil (P := Tryd.prog) w 26 9 (some ⟨g2, 0, none⟩) B.length c2 0 0 Tryd.underlying26
  obtain ⟨o, ho⟩ : ∃ o : Int, o = if (A.length : Int) < (B.length : Int) then -1 else if (B.length : Int) < (A.length : Int) then 1 else 0 := ⟨_, rfl⟩
  have HO := Aside0.mk ho
  obtain ⟨m, hm⟩ : ∃ m, m = min A.length B.length := ⟨_, rfl⟩
  have hmA : m ≤ A.length := by omega
  have hmB : m ≤ B.length := by omega
  have hmin : min (A.length : Int) (B.length : Int) = (m : Int) := by omega
  have HM := Aside0.mk hm
  clear ho hm
  go_wp2_with fail
  refine (cmpi_calls _ _ _).mono ?_
  rintro e w' ⟨rfl, rfl⟩
  rw [← HO.out]
  go_wp2_with fail
  go_step3
  go_wp2_with fail
  go_loopw [7, 40] (fun out i wr => ∃ k : Nat, k ≤ m ∧ i = .int .i64 k ∧ out = .int .i64 o ∧ Aside0 (AlikeTo A B k ∧ Below w2.heap.size w2 wr)) (fun out i wr => m - (intOf i).toNat)
  case atStart => exact ⟨0, Nat.zero_le _, rfl, rfl, ⟨alike_zero _ _, Below.refl _ _⟩⟩
  case round =>
    obtain ⟨k, hk, rfl, rfl, hs⟩ := hrel
    by_cases hlt : k < m
    · obtain ⟨ad1, d1', he1, hcell1⟩ := (show SlS w2 0 _ A from HS1.out).at k (by omega)
      cases he1
      obtain ⟨ad2, d2', he2, hcell2⟩ := HS2.out.at k (by omega)
      cases he2
      have hcell1 := cell_keep hs.out.2 hcell1
      have hcell2 := cell_keep hs.out.2 hcell2
      rw [at_zero] at hcell1 hcell2
      have HX := Aside0.mk (alike_step hs.out.1 (show k < A.length by omega) (show k < B.length by omega))
      have HY := Aside0.mk (alike_succ hs.out.1 (show k < A.length by omega) (show k < B.length by omega))
      obtain ⟨x, hx⟩ : ∃ x, x = A.getD k [] := ⟨_, rfl⟩
      obtain ⟨y, hy⟩ : ∃ y, y = B.getD k [] := ⟨_, rfl⟩
      rw [← hx] at hcell1 HX HY
      rw [← hy] at hcell2 HX HY
      clear hx hy
      obtain ⟨c, hc⟩ : ∃ c, c = cmpS x y := ⟨_, rfl⟩
      rw [← hc] at HX HY
      have HC := Aside0.mk hc
      clear hc
      have z1 : (0 : Int) ≤ (k : Int) := by omega
      have z2 : (k : Int) < A.length := by omega
      have z3 : (k : Int) < B.length := by omega
      have HSAME : Aside0 (∀ w, Calls Tryd.prog 42 #[.string (str x), .string (str y)] w fun e w' => e = .returned (.int .i64 c) ∧ w' = w) := ⟨fun w => by rw [HC.out]; exact cmps_same x y w⟩
      by_cases hc0 : c = 0
      · have H3 := Aside0.mk (HY.out hc0)
        have e1 : ((c : Int) != 0) = false := by rw [hc0]; rfl
        clear hc0 HX HY
        go_wp2_with fail
        go_quiet ((go_at_call 42; exact Calls.quiet_of_same (HSAME.out _)))
        go_wp2_with fail
        go_roundw
        case rel => exact ⟨k + 1, by omega, by go_num, rfl, ⟨H3.out, by first | exact hs.out.2.drew | exact below_drewN hs.out.2 _⟩⟩
        case measure => simp [intOf]; omega
      · have H3 : Aside0 (cmpL a.data.toList b.data.toList = c) := ⟨by rw [HE.out, HX.out, if_neg hc0]⟩
        have e1 : ((c : Int) != 0) = true := by rw [bne_iff_ne]; exact hc0
        clear hc0 HX HY
        go_wp2_with fail
        go_quiet ((go_at_call 42; exact Calls.quiet_of_same (HSAME.out _)))
        go_wp2_with fail
        rw [Exit.noGoto_ret]
        go_ret
        exact ⟨ret_i H3.out.symm, below_step HB2.out (by first | exact hs.out.2.drew | exact below_drewN hs.out.2 _)⟩
    · have H3 : Aside0 (cmpL a.data.toList b.data.toList = o) := ⟨by
        rw [HE.out, HO.out]
        have h1 := HM.out
        exact alike_end hs.out.1 (by omega) (by omega) (by omega)⟩
      go_wp2_with fail
      rw [Exit.noGoto_ret]
      go_ret
      exact ⟨ret_i H3.out.symm, below_step HB2.out hs.out.2⟩

set_option maxHeartbeats 2000000 in
theorem compare_no (a b : ByteArray) (w : World) (ha : a.size ≤ 1000000000) (hb : b.size ≤ 1000000000) (hv : ¬ (validB a.data.toList = true ∧ validB b.data.toList = true)) :
    Calls Tryd.prog 32 #[.string a, .string b] w fun e w' => e = .returned (.int .i64 (cmpL a.data.toList b.data.toList)) ∧ Below w.heap.size w w' := by
  have q0 := fun w => Lib.run_eql_slice_nil (P := Tryd.prog) w 26 9 none 0 0 0 0 Tryd.underlying26
  rcases hva : validB a.data.toList with _ | _
  · rcases hvb : validB b.data.toList with _ | _
    · have HE : Aside0 (cmpL a.data.toList b.data.toList = cmpS a.data.toList b.data.toList) := ⟨by rw [cmpL, hva, hvb]⟩
      have HVA := Aside0.mk hva
      have HVB := Aside0.mk hvb
      clear hva hvb hv
      go_enter Tryd.func32, Tryd.ntmps32
      go_wp2_with fail
      go_step3
      go_wp2_with fail
      refine (parts_no a w ha HVA.out).mono ?_
      rintro e w1 ⟨rfl, hb1⟩
      have HB1 := Aside0.mk hb1
      clear hb1
      go_wp2_with fail
      refine (parts_no b w1 hb HVB.out).mono ?_
      rintro e w2 ⟨rfl, hb2⟩
      have HB2 := Aside0.mk (below_step HB1.out hb2)
      clear hb2
      go_wp2_with fail
      refine (cmps_calls a b w2).mono ?_
      rintro e w' ⟨rfl, rfl⟩
      obtain ⟨o, ho⟩ : ∃ o : Int, o = if ltS a.data.toList b.data.toList = true then -1 else if ltS b.data.toList a.data.toList = true then 1 else 0 := ⟨_, rfl⟩
      rw [← ho]
      have HO : Aside0 (o = cmpS a.data.toList b.data.toList) := ⟨ho⟩
      clear ho
      go_wp2_with fail
      rw [Exit.noGoto_ret]
      go_ret
      exact ⟨ret_i (by rw [HE.out, HO.out]), HB2.out⟩
    · have HE : Aside0 (cmpL a.data.toList b.data.toList = 1) := ⟨by rw [cmpL, hva, hvb]⟩
      have HVA := Aside0.mk hva
      have HVB := Aside0.mk hvb
      clear hva hvb hv
      go_enter Tryd.func32, Tryd.ntmps32
      go_wp2_with fail
      go_step3
      go_wp2_with fail
      refine (parts_no a w ha HVA.out).mono ?_
      rintro e w1 ⟨rfl, hb1⟩
      have HB1 := Aside0.mk hb1
      clear hb1
      go_wp2_with fail
      refine (parts_yes b w1 hb HVB.out).mono ?_
      rintro e w2 ⟨v2, rfl, _, ⟨g2, n2, c2, hv2⟩, hb2⟩
      subst hv2
      have HB2 := Aside0.mk (below_step HB1.out hb2)
      clear hb2
      have q2 := fun w => Lib.run_eql_slice_nil (P := Tryd.prog) w 26 9 (some ⟨g2, 0, none⟩) n2 c2 0 0 Tryd.underlying26
      go_wp2_with fail
      rw [Exit.noGoto_ret]
      go_ret
      exact ⟨ret_i HE.out.symm, HB2.out⟩
  · rcases hvb : validB b.data.toList with _ | _
    · have HE : Aside0 (cmpL a.data.toList b.data.toList = -1) := ⟨by rw [cmpL, hva, hvb]⟩
      have HVA := Aside0.mk hva
      have HVB := Aside0.mk hvb
      clear hva hvb hv
      go_enter Tryd.func32, Tryd.ntmps32
      go_wp2_with fail
      go_step3
      go_wp2_with fail
      refine (parts_yes a w ha HVA.out).mono ?_
      rintro e w1 ⟨v1, rfl, _, ⟨g1, n1, c1, hv1⟩, hb1⟩
      subst hv1
      have HB1 := Aside0.mk hb1
      clear hb1
      go_wp2_with fail
      refine (parts_no b w1 hb HVB.out).mono ?_
      rintro e w2 ⟨rfl, hb2⟩
      have HB2 := Aside0.mk (below_step HB1.out hb2)
      clear hb2
      have q1 := fun w => Lib.run_eql_slice_nil (P := Tryd.prog) w 26 9 (some ⟨g1, 0, none⟩) n1 c1 0 0 Tryd.underlying26
      go_wp2_with fail
      rw [Exit.noGoto_ret]
      go_ret
      exact ⟨ret_i HE.out.symm, HB2.out⟩
    · exact absurd ⟨hva, hvb⟩ hv

theorem compare_calls (a b : ByteArray) (w : World) (ha : a.size ≤ 1000000000) (hb : b.size ≤ 1000000000) :
    Calls Tryd.prog 32 #[.string a, .string b] w fun e w' => e = .returned (.int .i64 (cmpL a.data.toList b.data.toList)) ∧ Below w.heap.size w w' := by
  by_cases hv : validB a.data.toList = true ∧ validB b.data.toList = true
  · exact compare_yes a b w ha hb hv.1 hv.2
  · exact compare_no a b w ha hb hv

end Go.Proofs.YtoigmepkhiknbaaDoor
