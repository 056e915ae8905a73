/-
  The reference's words on paths: Hidden, Parts, Parent, Name, Join, Under, Less; and texts alike. No condition but lengths.
-/
import Derived.Test.YtkalfkgnjmkjgaaDoorRefValid4
namespace Go.Proofs.YtkalfkgnjmkjgaaDoor
open Go.RowKit
set_option linter.unusedVariables false
set_option linter.unusedSimpArgs false

set_option maxHeartbeats 1000000 in
theorem rjoin_calls (d n : ByteArray) (w : World) (hs : d.size + n.size ≤ 999999999) : Calls Tryd.prog 21 #[.string d, .string n] w fun e w' => e = .returned (.string (str (joinL d.data.toList n.data.toList))) ∧ Below w.heap.size w w' := by
  by_cases hd : d.data.toList = []
  · have hd2 : d.toList = [] := by rw [toList_eq]; exact hd
    have d1 : d.toList.isEmpty = true := by rw [hd2]; rfl
    have d2 : (d.toList == []) = true := by rw [hd2]; rfl
    have d3 : (d.toList != []) = false := by rw [hd2]; rfl
    have HR : Aside0 (joinRaw d.data.toList n.data.toList = n.data.toList) := ⟨by rw [joinRaw, if_pos hd]⟩
    clear hd
    rcases hv : validB n.data.toList with _ | _
    · have HE : Aside0 (.string ⟨#[]⟩ = Value.string (str (joinL d.data.toList n.data.toList))) := ⟨by rw [joinL, HR.out, hv]; rfl⟩
      have HV := Aside0.mk hv
      clear hv
      go_enter Tryd.func21, Tryd.ntmps21
      go_wp2_with fail
      refine (rvalid_calls n w (by omega)).mono ?_
      rintro e w1 ⟨rfl, hb⟩
      rw [HV.out]
      have HB := Aside0.mk hb
      clear hb
      go_wp2_with fail
      go_ret
      exact ⟨ret_v HE.out, HB.out⟩
    · have HE : Aside0 (.string n = Value.string (str (joinL d.data.toList n.data.toList))) := ⟨by rw [joinL, HR.out, hv, if_pos rfl, str_of]⟩
      have HV := Aside0.mk hv
      clear hv
      go_enter Tryd.func21, Tryd.ntmps21
      go_wp2_with fail
      refine (rvalid_calls n w (by omega)).mono ?_
      rintro e w1 ⟨rfl, hb⟩
      rw [HV.out]
      have HB := Aside0.mk hb
      clear hb
      go_wp2_with fail
      go_ret
      exact ⟨ret_v HE.out, HB.out⟩
  · have hd2 : d.toList ≠ [] := by rw [toList_eq]; exact hd
    have d1 : d.toList.isEmpty = false := by cases h : d.toList with
      | nil => exact absurd h hd2
      | cons x l => rfl
    have d2 : (d.toList == []) = false := by rw [beq_eq_false_iff_ne]; exact hd2
    have d3 : (d.toList != []) = true := by rw [bne_iff_ne]; exact hd2
    obtain ⟨x, hx⟩ : ∃ x : ByteArray, x = d ++ ⟨#[47]⟩ ++ n := ⟨_, rfl⟩
    have hxs : x.size = d.size + 1 + n.size := by rw [hx, size_app, size_app]; rfl
    have HR : Aside0 (joinRaw d.data.toList n.data.toList = x.data.toList) := ⟨by rw [joinRaw, if_neg hd, hx, data_app, data_app]; simp⟩
    clear hd hd2
    rcases hv : validB x.data.toList with _ | _
    · have HE : Aside0 (.string ⟨#[]⟩ = Value.string (str (joinL d.data.toList n.data.toList))) := ⟨by rw [joinL, HR.out, hv]; rfl⟩
      have HV := Aside0.mk hv
      have HX := Aside0.mk hx
      clear hv hx
      go_enter Tryd.func21, Tryd.ntmps21
      go_wp2_with fail
      rw [← HX.out]
      refine (rvalid_calls x w (by omega)).mono ?_
      rintro e w1 ⟨rfl, hb⟩
      rw [HV.out]
      have HB := Aside0.mk hb
      clear hb
      go_wp2_with fail
      go_ret
      exact ⟨ret_v HE.out, HB.out⟩
    · have HE : Aside0 (.string x = Value.string (str (joinL d.data.toList n.data.toList))) := ⟨by rw [joinL, HR.out, hv, if_pos rfl, str_of]⟩
      have HV := Aside0.mk hv
      have HX := Aside0.mk hx
      clear hv hx
      go_enter Tryd.func21, Tryd.ntmps21
      go_wp2_with fail
      rw [← HX.out]
      refine (rvalid_calls x w (by omega)).mono ?_
      rintro e w1 ⟨rfl, hb⟩
      rw [HV.out]
      have HB := Aside0.mk hb
      clear hb
      go_wp2_with fail
      go_ret
      exact ⟨ret_v HE.out, HB.out⟩



theorem splitP_len : ∀ s : List UInt8, (splitP s).length ≤ s.length + 1
  | [] => by simp [splitP]
  | c :: cs => by
    have ih := splitP_len cs
    rw [splitP]
    split
    · simp; omega
    · have h := splitP_ne cs
      cases hs : splitP cs with
      | nil => exact absurd hs h
      | cons p r => rw [hs] at ih; simp at ih ⊢; omega

theorem rpartsf_calls (s : ByteArray) (w : World) (hs : s.size ≤ 1000000000) : Calls Tryd.prog 33 #[.string s] w fun e w' => ∃ v, e = .returned v ∧ SlS w' 0 v (partsL s.data.toList) ∧ (∃ A n c, v = .slice A n c) ∧ Below w.heap.size w w' := by
  rcases hv : validB s.data.toList with _ | _
  · have HE : Aside0 (partsL s.data.toList = []) := ⟨by rw [partsL, hv]; rfl⟩
    have HV := Aside0.mk hv
    clear hv
    go_enter Tryd.func33, Tryd.ntmps33
    go_wp2_with fail
    refine (rvalid_calls s w hs).mono ?_
    rintro e w1 ⟨rfl, hb⟩
    rw [HV.out]
    have HB := Aside0.mk hb
    clear hb
    go_wp2_with fail
    go_ret
    exact ⟨_, rfl, by rw [HE.out]; exact Sl.nil _ _ _ _, ⟨_, _, _, rfl⟩, HB.out⟩
  · have HE : Aside0 (partsL s.data.toList = splitP s.data.toList) := ⟨by rw [partsL, hv]; rfl⟩
    have HV := Aside0.mk hv
    clear hv
    go_enter Tryd.func33, Tryd.ntmps33
    go_wp2_with fail
    refine (rvalid_calls s w hs).mono ?_
    rintro e w1 ⟨rfl, hb⟩
    rw [HV.out]
    have HB := Aside0.mk hb
    clear hb
    go_wp2_with fail
    refine (rparts_calls s w1 hs).mono ?_
    rintro e w2 ⟨v, rfl, hsl, ⟨A, n, c, rfl⟩, hb2⟩
    have H2 := Aside0.mk (And.intro hsl (below_step HB.out hb2))
    clear hsl hb2
    go_wp2_with fail
    go_ret
    exact ⟨_, rfl, by rw [HE.out]; exact H2.out.1, ⟨_, _, _, rfl⟩, H2.out.2⟩

set_option maxHeartbeats 1000000 in
theorem rparent_calls (s : ByteArray) (w : World) (hs : s.size ≤ 1000000000) : Calls Tryd.prog 12 #[.string s] w fun e w' => e = .returned (.string (str (parentL s.data.toList))) ∧ Below w.heap.size w w' := by
  have HPN := Aside0.mk (parent_none (s := s.data.toList))
  have HPS := Aside0.mk (fun k => parent_some (s := s.data.toList) (k := k))
  rw [len_data] at HPN HPS
  have HL : Aside0 (∀ k (hk : k < s.size), s.data.toList.getD k 0 = s[k]) := ⟨fun k hk => by
    have h : k < s.data.toList.length := by rw [Array.length_toList]; exact hk
    rw [List.getD_eq_getElem?_getD, List.getElem?_eq_getElem h]; rfl⟩
  rcases hv : validB s.data.toList with _ | _
  · have HE : Aside0 (parentL s.data.toList = []) := ⟨by rw [parentL, hv]; rfl⟩
    have HV := Aside0.mk hv
    clear hv
    go_enter Tryd.func12, Tryd.ntmps12
    go_wp2_with fail
    refine (rvalid_calls s w hs).mono ?_
    rintro e w1 ⟨rfl, hb⟩
    rw [HV.out]
    have HB := Aside0.mk hb
    clear hb
    go_wp2_with fail
    go_ret
    exact ⟨by rw [HE.out]; rfl, HB.out⟩
  · have HV := Aside0.mk hv
    clear hv
    go_enter Tryd.func12, Tryd.ntmps12
    go_wp2_with fail
    refine (rvalid_calls s w hs).mono ?_
    rintro e w1 ⟨rfl, hb⟩
    rw [HV.out]
    have HB := Aside0.mk hb
    clear hb
    go_wp2_with fail
    go_loop [3] (fun i => ∃ k : Nat, k ≤ s.size ∧ i = .int .i64 ((k : Int) - 1) ∧ Aside0 (lastI s.data.toList 47 k = lastI s.data.toList 47 s.size)) (fun i => (intOf i + 1).toNat)
    case atStart => exact ⟨s.size, Nat.le_refl _, rfl, ⟨rfl⟩⟩
    case round =>
      obtain ⟨k, hk, rfl, hs2⟩ := hrel
      rcases Nat.eq_zero_or_pos k with rfl | hk0
      · have HE : Aside0 (parentL s.data.toList = []) := ⟨HPN.out hs2.out.symm⟩
        go_wp2_with fail
        go_ret
        exact ⟨by rw [HE.out]; rfl, HB.out⟩
      · obtain ⟨j, rfl⟩ : ∃ j, k = j + 1 := ⟨k - 1, by omega⟩
        have e1 : ((j + 1 : Nat) : Int) - 1 = (j : Int) := by omega
        rw [e1]
        have hj : j < s.size := by omega
        have hj2 : j ≤ s.size := by omega
        have HS := Aside0.mk (show lastI s.data.toList 47 (j + 1) = if s[j] = 47 then (j : Int) else lastI s.data.toList 47 j by rw [lastI, HL.out j hj])
        by_cases hc : s[j] = 47
        · have e2 : ((s[j].toNat : Int) == 47) = true := by rw [hc]; rfl
          have HE : Aside0 (.string (s.extract 0 j) = Value.string (str (parentL s.data.toList))) := ⟨by rw [HPS.out j (by rw [← hs2.out, HS.out, if_pos hc]) HV.out, ext_str]; simp⟩
          clear hc
          go_wp2_with fail
          go_ret
          exact ⟨ret_v HE.out, HB.out⟩
        · have e2 : ((s[j].toNat : Int) == 47) = false := by
            rw [beq_eq_false_iff_ne]; intro h; exact hc (UInt8.toNat_inj.1 (by have : (47 : UInt8).toNat = 47 := rfl; omega))
          have H3 : Aside0 (lastI s.data.toList 47 j = lastI s.data.toList 47 s.size) := ⟨by rw [← hs2.out, HS.out, if_neg hc]⟩
          clear hc
          go_wp2_with fail
          go_round
          case rel => exact ⟨j, by omega, rfl, H3⟩
          case measure => simp [intOf]

set_option maxHeartbeats 1000000 in
theorem rname_calls (s : ByteArray) (w : World) (hs : s.size ≤ 1000000000) : Calls Tryd.prog 22 #[.string s] w fun e w' => e = .returned (.string (str (nameL s.data.toList))) ∧ Below w.heap.size w w' := by
  have HNE : Aside0 (nameL s.data.toList = (partsL s.data.toList).getD ((partsL s.data.toList).length - 1) []) := ⟨by
    unfold nameL partsL
    split
    · exact last_eq (splitP_ne _)
    · rfl⟩
  have HSZ : Aside0 ((partsL s.data.toList).length ≤ 1000000001) := ⟨by
    unfold partsL
    split
    · have : (splitP s.data.toList).length ≤ s.data.toList.length + 1 := splitP_len _
      rw [len_data] at this; omega
    · simp⟩
  go_enter Tryd.func22, Tryd.ntmps22
  go_wp2_with fail
  refine (rpartsf_calls s w hs).mono ?_
  rintro e w1 ⟨v, rfl, hsl, ⟨A, n, c, rfl⟩, hb⟩
  obtain ⟨L, hL⟩ : ∃ L, L = partsL s.data.toList := ⟨_, rfl⟩
  rw [← hL] at hsl HNE HSZ
  have HSL := Aside0.mk hsl
  have HB := Aside0.mk hb
  obtain ⟨_, _, he, hc, hm, _⟩ := hsl
  cases he
  clear hb hL
  have hsz := HSZ.out
  by_cases h0 : L.length = 0
  · have e0 : ((L.length : Int) == 0) = true := by rw [beq_iff_eq]; omega
    have HE : Aside0 (nameL s.data.toList = []) := ⟨by rw [HNE.out, List.eq_nil_of_length_eq_zero h0]; rfl⟩
    go_wp2_with fail
    go_ret
    exact ⟨by rw [HE.out]; rfl, HB.out⟩
  · have e0 : ((L.length : Int) == 0) = false := by rw [beq_eq_false_iff_ne]; omega
    obtain ⟨k, hk⟩ : ∃ k, k = L.length - 1 := ⟨_, rfl⟩
    have e1 : (L.length : Int) - 1 = (k : Int) := by omega
    rw [← hk] at HNE
    obtain ⟨ad, c', he, hcell⟩ := HSL.out.at k (by omega)
    cases he
    rw [← HNE.out] at hcell
    have hlt : k < L.length := by omega
    clear hk
    go_wp2_with fail
    go_ret
    exact ⟨rfl, HB.out⟩

theorem pre_take (x : List UInt8) : ∀ S : List UInt8, x.isPrefixOf S = (S.take x.length == x) := by
  intro S
  rw [Bool.eq_iff_iff, List.isPrefixOf_iff_prefix, beq_iff_eq, List.prefix_iff_eq_take]
  exact ⟨Eq.symm, Eq.symm⟩

end Go.Proofs.YtkalfkgnjmkjgaaDoor
