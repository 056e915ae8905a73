/-
  The reference's order of paths; texts alike. No condition but lengths.
-/
import Derived.Test.YtoigmepkhiknbaaDoorRefPath4
namespace Go.Proofs.YtoigmepkhiknbaaDoor
open Go.RowKit
set_option linter.unusedVariables false
set_option linter.unusedSimpArgs false

theorem cmpS_less (x y : List UInt8) : decide (cmpS x y < 0) = ltS x y := by
  unfold cmpS
  cases h : ltS x y with
  | true => rfl
  | false => cases h2 : ltS y x <;> rfl
theorem cmpS_zero {x y : List UInt8} : cmpS x y = 0 ↔ x = y := by
  unfold cmpS
  constructor
  · intro h
    cases h1 : ltS x y with
    | true => rw [h1] at h; simp at h
    | false =>
      cases h2 : ltS y x with
      | true => rw [h1, h2] at h; simp at h
      | false => exact ltS_strict.tri _ _ h1 h2
  · rintro rfl
    rw [ltS_strict.irr]; rfl

set_option maxHeartbeats 4000000 in
theorem rless_yes (a b : ByteArray) (w : World) (ha : a.size ≤ 1000000000) (hb : b.size ≤ 1000000000) (hva : validB a.data.toList = true) (hvb : validB b.data.toList = true) :
    Calls Tryd.prog 37 #[.string a, .string b] w fun e w' => e = .returned (.bool (lessB a.data.toList b.data.toList)) ∧ Below w.heap.size w w' := by
  have HE : Aside0 (lessB a.data.toList b.data.toList = decide (cmpP (splitP a.data.toList) (splitP b.data.toList) < 0)) := ⟨by rw [← cmpL_less, cmpL, hva, hvb]⟩
  have HVA := Aside0.mk hva
  have HVB := Aside0.mk hvb
  have HB := Aside0.mk (Below.refl w.heap.size w)
  clear hva hvb
  go_enter Tryd.func37, Tryd.ntmps37
  go_wp2_with (go_at_call 24; refine (rvalid_calls _ _ (by assumption)).mono ?_; rintro e w1 ⟨rfl, hb1⟩; (first | rw [HVA.out] | rw [HVB.out]); have HB := Aside0.mk (below_step HB.out hb1); clear hb1)
  refine (rparts_calls a _ ha).mono ?_
  rintro e w1 ⟨v1, rfl, hs1, ⟨A1, n1, c1, rfl⟩, hb1⟩
  have HB1 := Aside0.mk (below_step HB.out hb1)
  obtain ⟨A, hA⟩ : ∃ A, A = splitP a.data.toList := ⟨_, rfl⟩
  rw [← hA] at hs1 HE
  have HS1 := Aside0.mk hs1
  clear hb1 hs1 hA
  go_wp2_with fail
  refine (rparts_calls b _ hb).mono ?_
  rintro e w2 ⟨v2, rfl, hs2, ⟨A2, n2, c2, rfl⟩, hb2⟩
  have HB2 := Aside0.mk (below_step HB1.out hb2)
  obtain ⟨B, hB⟩ : ∃ B, B = splitP b.data.toList := ⟨_, rfl⟩
  rw [← hB] at hs2 HE
  have HS1 : Aside0 (SlS w2 0 _ A) := Aside0.mk (Sl.below HS1.out hb2)
  have HS2 := Aside0.mk hs2
  clear hb2 hs2 hB
  obtain ⟨_, c1', he1, hc1, hm1, _⟩ := HS1.out
  cases he1
  obtain ⟨_, c2', he2, hc2, hm2, _⟩ := HS2.out
  cases he2
  go_wp2_with fail
  go_loopw [7] (fun i wr => ∃ k : Nat, k ≤ A.length ∧ k ≤ B.length ∧ i = .int .i64 k ∧ Aside0 (AlikeTo A B k ∧ Below w2.heap.size w2 wr)) (fun i wr => A.length - (intOf i).toNat)
  case atStart => exact ⟨0, Nat.zero_le _, Nat.zero_le _, rfl, ⟨alike_zero _ _, Below.refl _ _⟩⟩
  case round =>
    obtain ⟨k, hk, hk2, rfl, hs⟩ := hrel
    by_cases hlA : k < A.length
    · have dA : decide ((k : Int) < A.length) = true := decide_eq_true (by omega)
      by_cases hlB : k < B.length
      · have dB : decide ((k : Int) < B.length) = true := decide_eq_true (by omega)
        obtain ⟨ad1, d1', he1, hcell1⟩ := HS1.out.at k hlA
        cases he1
        obtain ⟨ad2, d2', he2, hcell2⟩ := HS2.out.at k hlB
        cases he2
        have hcell1 := cell_keep hs.out.2 hcell1
        have hcell2 := cell_keep hs.out.2 hcell2
        have HX := Aside0.mk (alike_step hs.out.1 hlA hlB)
        have HY := Aside0.mk (alike_succ hs.out.1 hlA hlB)
        obtain ⟨x, hx⟩ : ∃ x, x = A.getD k [] := ⟨_, rfl⟩
        obtain ⟨y, hy⟩ : ∃ y, y = B.getD k [] := ⟨_, rfl⟩
        rw [← hx] at hcell1 HX HY
        rw [← hy] at hcell2 HX HY
        clear hx hy
        obtain ⟨p, hp⟩ : ∃ p, p = str x := ⟨_, rfl⟩
        obtain ⟨q, hq⟩ : ∃ q, q = str y := ⟨_, rfl⟩
        rw [← hp] at hcell1
        rw [← hq] at hcell2
        have hpx : p.toList = x := by rw [hp, toList_eq, str_data]
        have hqy : q.toList = y := by rw [hq, toList_eq, str_data]
        have HXP := Aside0.mk (And.intro hpx hqy)
        clear hp hq hpx hqy
        have z1 : (0 : Int) ≤ (k : Int) := by omega
        have z2 : (k : Int) < A.length := by omega
        have z3 : (k : Int) < B.length := by omega
        rcases hc : (p.toList == q.toList) with _ | _
        · have hne : (p.toList != q.toList) = true := by rw [bne, hc]; rfl
          obtain ⟨o, ho⟩ : ∃ o, o = ltS x y := ⟨_, rfl⟩
          have e1 : Op.bytesLess p.toList q.toList = o := by rw [HXP.out.1, HXP.out.2, bytesLess_eq, ho]
          have H3 : Aside0 (o = lessB a.data.toList b.data.toList) := ⟨by
            rw [HE.out, HX.out, if_neg (by rw [cmpS_zero, ← HXP.out.1, ← HXP.out.2]; simpa using hc), cmpS_less, ho]⟩
          clear ho
          go_wp2_with fail
          go_quiet (fail)
          go_wp2_with fail
          go_quiet (fail)
          go_wp2_with fail
          go_ret
          exact ⟨ret_b H3.out, below_step HB2.out (by first | exact hs.out.2 | exact hs.out.2.drew | exact below_drewN hs.out.2 _ | exact below_drewN (below_drewN hs.out.2 _) _)⟩
        · have hne : (p.toList != q.toList) = false := by rw [bne, hc]; rfl
          have H3 := Aside0.mk (HY.out (by rw [cmpS_zero, ← HXP.out.1, ← HXP.out.2]; simpa using hc))
          go_wp2_with fail
          go_quiet (fail)
          go_wp2_with fail
          go_roundw
          case rel => exact ⟨k + 1, by omega, by omega, by go_num, ⟨H3.out, by first | exact hs.out.2 | exact hs.out.2.drew | exact below_drewN hs.out.2 _⟩⟩
          case measure => simp [intOf]; omega
      · have dB : decide ((k : Int) < B.length) = false := decide_eq_false (by omega)
        have H3 : Aside0 (decide (A.length < B.length) = lessB a.data.toList b.data.toList) := ⟨by
          rw [HE.out, alike_end hs.out.1 (by omega) (by omega) (by omega)]
          by_cases h : A.length < B.length
          · rw [if_pos (by omega), decide_eq_true h]; rfl
          · rw [if_neg (by omega), decide_eq_false h]; split <;> rfl⟩
        go_wp2_with fail
        go_ret
        exact ⟨ret_b H3.out, below_step HB2.out hs.out.2⟩
    · have dA : decide ((k : Int) < A.length) = false := decide_eq_false (by omega)
      have H3 : Aside0 (decide (A.length < B.length) = lessB a.data.toList b.data.toList) := ⟨by
        rw [HE.out, alike_end hs.out.1 (by omega) (by omega) (by omega)]
        by_cases h : A.length < B.length
        · rw [if_pos (by omega), decide_eq_true h]; rfl
        · rw [if_neg (by omega), decide_eq_false h]; split <;> rfl⟩
      go_wp2_with fail
      go_ret
      exact ⟨ret_b H3.out, below_step HB2.out hs.out.2⟩

set_option maxHeartbeats 2000000 in
theorem rless_calls (a b : ByteArray) (w : World) (ha : a.size ≤ 1000000000) (hb : b.size ≤ 1000000000) :
    Calls Tryd.prog 37 #[.string a, .string b] w fun e w' => e = .returned (.bool (lessB a.data.toList b.data.toList)) ∧ Below w.heap.size w w' := by
  rcases hva : validB a.data.toList with _ | _
  · rcases hvb : validB b.data.toList with _ | _
    · obtain ⟨o, ho⟩ : ∃ o, o = ltS a.data.toList b.data.toList := ⟨_, rfl⟩
      have HE : Aside0 (o = lessB a.data.toList b.data.toList) := ⟨by rw [lessB, hva, hvb, ho]⟩
      have e1 : Op.bytesLess a.toList b.toList = o := by rw [bytesLess_eq, toList_eq, toList_eq, ho]
      have HVA := Aside0.mk hva
      have HVB := Aside0.mk hvb
      have HB := Aside0.mk (Below.refl w.heap.size w)
      clear hva hvb ho
      go_enter Tryd.func37, Tryd.ntmps37
      go_wp2_with (go_at_call 24; refine (rvalid_calls _ _ (by assumption)).mono ?_; rintro e w1 ⟨rfl, hb1⟩; (first | rw [HVA.out] | rw [HVB.out]); have HB := Aside0.mk (below_step HB.out hb1); clear hb1)
      go_ret
      exact ⟨ret_b HE.out, HB.out⟩
    · have HE : Aside0 (false = lessB a.data.toList b.data.toList) := ⟨by rw [lessB, hva, hvb]⟩
      have HVA := Aside0.mk hva
      have HVB := Aside0.mk hvb
      have HB := Aside0.mk (Below.refl w.heap.size w)
      clear hva hvb
      go_enter Tryd.func37, Tryd.ntmps37
      go_wp2_with (go_at_call 24; refine (rvalid_calls _ _ (by assumption)).mono ?_; rintro e w1 ⟨rfl, hb1⟩; (first | rw [HVA.out] | rw [HVB.out]); have HB := Aside0.mk (below_step HB.out hb1); clear hb1)
      go_ret
      exact ⟨ret_b HE.out, HB.out⟩
  · rcases hvb : validB b.data.toList with _ | _
    · have HE : Aside0 (true = lessB a.data.toList b.data.toList) := ⟨by rw [lessB, hva, hvb]⟩
      have HVA := Aside0.mk hva
      have HVB := Aside0.mk hvb
      have HB := Aside0.mk (Below.refl w.heap.size w)
      clear hva hvb
      go_enter Tryd.func37, Tryd.ntmps37
      go_wp2_with (go_at_call 24; refine (rvalid_calls _ _ (by assumption)).mono ?_; rintro e w1 ⟨rfl, hb1⟩; (first | rw [HVA.out] | rw [HVB.out]); have HB := Aside0.mk (below_step HB.out hb1); clear hb1)
      go_ret
      exact ⟨ret_b HE.out, HB.out⟩
    · exact rless_yes a b w ha hb hva hvb

theorem take_step {A B : List (List UInt8)} {k : Nat} (hA : k < A.length) (hB : k < B.length) (h : A.take k = B.take k) (he : A.getD k [] = B.getD k []) : A.take (k + 1) = B.take (k + 1) := by
  rw [List.take_succ_eq_append_getElem hA, List.take_succ_eq_append_getElem hB, h]
  rw [List.getD_eq_getElem?_getD, List.getD_eq_getElem?_getD, List.getElem?_eq_getElem hA, List.getElem?_eq_getElem hB] at he
  simp at he
  rw [he]

set_option maxHeartbeats 2000000 in
theorem texts_calls {b0 b1 : Nat} {v u : Value} {A B : List (List UInt8)} (w : World) (hv : SlS w b0 v A) (hu : SlS w b1 u B) :
    Calls Tryd.prog 21 #[v, u] w fun e w' => e = .returned (.bool (decide (A = B))) ∧ Below w.heap.size w w' := by
  have HS1 := Aside0.mk hv
  have HS2 := Aside0.mk hu
  obtain ⟨A1, c1, rfl, hc1, hm1, _⟩ := hv
  obtain ⟨A2, c2, rfl, hc2, hm2, _⟩ := hu
  by_cases hl : A.length = B.length
  · have e1 : ((A.length : Int) != B.length) = false := by rw [bne_eq_false_iff_eq]; omega
    have e2 : ((A.length : Int) == B.length) = true := by rw [beq_iff_eq]; omega
    go_enter Tryd.func21, Tryd.ntmps21
    go_wp2_with fail
    go_loopw [5] (fun i wr => ∃ k : Nat, k ≤ A.length ∧ i = .int .i64 k ∧ Aside0 (A.take k = B.take k ∧ Below w.heap.size w wr)) (fun i wr => A.length - (intOf i).toNat)
    case atStart => exact ⟨0, Nat.zero_le _, rfl, ⟨rfl, Below.refl _ _⟩⟩
    case round =>
      obtain ⟨k, hk, rfl, hs⟩ := hrel
      by_cases hlA : k < A.length
      · have hlB : k < B.length := by omega
        obtain ⟨ad1, d1', he1, hcell1⟩ := HS1.out.at k hlA
        cases he1
        obtain ⟨ad2, d2', he2, hcell2⟩ := HS2.out.at k hlB
        cases he2
        have hcell1 := cell_keep hs.out.2 hcell1
        have hcell2 := cell_keep hs.out.2 hcell2
        have HX := Aside0.mk (take_step hlA hlB hs.out.1)
        have HY : Aside0 (A.getD k [] ≠ B.getD k [] → A ≠ B) := ⟨fun h e => h (by rw [e])⟩
        obtain ⟨x, hx⟩ : ∃ x, x = A.getD k [] := ⟨_, rfl⟩
        obtain ⟨y, hy⟩ : ∃ y, y = B.getD k [] := ⟨_, rfl⟩
        rw [← hx] at hcell1
        rw [← hy] at hcell2
        rw [← hx, ← hy] at HX HY
        clear hx hy
        obtain ⟨p, hp⟩ : ∃ p, p = str x := ⟨_, rfl⟩
        obtain ⟨q, hq⟩ : ∃ q, q = str y := ⟨_, rfl⟩
        rw [← hp] at hcell1
        rw [← hq] at hcell2
        have hpx : p.toList = x := by rw [hp, toList_eq, str_data]
        have hqy : q.toList = y := by rw [hq, toList_eq, str_data]
        have HXP := Aside0.mk (And.intro hpx hqy)
        clear hp hq hpx hqy
        have z1 : (0 : Int) ≤ (k : Int) := by omega
        have z2 : (k : Int) < A.length := by omega
        have z3 : (k : Int) < B.length := by omega
        rcases hc : (p.toList == q.toList) with _ | _
        · have hne : (p.toList != q.toList) = true := by rw [bne, hc]; rfl
          have H3 : Aside0 (false = decide (A = B)) := ⟨by
            rw [eq_comm, decide_eq_false_iff_not]
            exact HY.out (by rw [← HXP.out.1, ← HXP.out.2]; simpa using hc)⟩
          go_wp2_with fail
          go_quiet (fail)
          go_wp2_with fail
          go_ret
          exact ⟨ret_b H3.out, (by first | exact hs.out.2 | exact hs.out.2.drew | exact below_drewN hs.out.2 _ | exact below_drewN (below_drewN hs.out.2 _) _)⟩
        · have hne : (p.toList != q.toList) = false := by rw [bne, hc]; rfl
          have H3 := Aside0.mk (HX.out (by rw [← HXP.out.1, ← HXP.out.2]; simpa using hc))
          go_wp2_with fail
          go_quiet (fail)
          go_wp2_with fail
          go_roundw
          case rel => exact ⟨k + 1, by omega, by go_num, ⟨H3.out, by first | exact hs.out.2 | exact hs.out.2.drew | exact below_drewN hs.out.2 _⟩⟩
          case measure => simp [intOf]; omega
      · have H3 : Aside0 (true = decide (A = B)) := ⟨by
          have h := hs.out.1
          rw [List.take_of_length_le (by omega), List.take_of_length_le (by omega)] at h
          rw [decide_eq_true h]⟩
        go_wp2_with fail
        go_ret
        exact ⟨ret_b H3.out, hs.out.2⟩
  · have e1 : ((A.length : Int) != B.length) = true := by rw [bne_iff_ne]; omega
    have e2 : ((A.length : Int) == B.length) = false := by rw [beq_eq_false_iff_ne]; omega
    have H3 : Aside0 (false = decide (A = B)) := ⟨by
      rw [eq_comm, decide_eq_false_iff_not]
      intro e; exact hl (by rw [e])⟩
    go_enter Tryd.func21, Tryd.ntmps21
    go_wp2_with fail
    go_ret
    exact ⟨ret_b H3.out, Below.refl _ _⟩
end Go.Proofs.YtoigmepkhiknbaaDoor
