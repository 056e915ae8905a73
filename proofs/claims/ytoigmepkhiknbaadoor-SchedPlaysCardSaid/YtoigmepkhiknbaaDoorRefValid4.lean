/-
  The reference's word on what is a path. No condition but a length.
-/
import Derived.Test.YtoigmepkhiknbaaDoorRefParts4
namespace Go.Proofs.YtoigmepkhiknbaaDoor
open Go.RowKit
set_option linter.unusedVariables false
set_option linter.unusedSimpArgs false

theorem valid_bad {S : List UInt8} {k : Nat} (hk : k < (splitP S).length) (h : partB ((splitP S).getD k []) = false) : validB S = false := by
  have h1 : (splitP S).all partB = false := by
    rw [List.all_eq_false]
    refine ⟨(splitP S)[k], List.getElem_mem hk, ?_⟩
    rw [List.getD_eq_getElem?_getD, List.getElem?_eq_getElem hk] at h
    simpa using h
  rw [validB, h1, Bool.and_false]
theorem valid_all {S : List UInt8} (h0 : S.length ≤ 60) (h : ((splitP S).take (splitP S).length).all partB = true) : validB S = true := by
  rw [List.take_length] at h
  rw [validB, h, decide_eq_true h0]; rfl

set_option maxHeartbeats 8000000 in
theorem rvalid_calls (s : ByteArray) (w : World) (hs : s.size ≤ 1000000000) :
    Calls Tryd.prog 24 #[.string s] w fun e w' => e = .returned (.bool (validB s.data.toList)) ∧ Below w.heap.size w w' := by
  by_cases h1 : s.size < 1
  · have d1 : decide ((s.size : Int) < 1) = true := decide_eq_true (by omega)
    have HE : Aside0 (false = validB s.data.toList) := ⟨by
      have h2 : s.data.toList = [] := size_zero.2 (by omega)
      rw [h2]; rfl⟩
    go_enter Tryd.func24, Tryd.ntmps24
    go_wp2_with fail
    go_ret
    exact ⟨ret_b HE.out, Below.refl _ _⟩
  · have d1 : decide ((s.size : Int) < 1) = false := decide_eq_false (by omega)
    by_cases h2 : 60 < s.size
    · have d2 : decide ((60 : Int) < s.size) = true := decide_eq_true (by omega)
      have HE : Aside0 (false = validB s.data.toList) := ⟨by
        rw [validB, len_data, decide_eq_false (by omega)]; rfl⟩
      go_enter Tryd.func24, Tryd.ntmps24
      go_wp2_with fail
      go_ret
      exact ⟨ret_b HE.out, Below.refl _ _⟩
    · have d2 : decide ((60 : Int) < s.size) = false := decide_eq_false (by omega)
      have H60 := Aside0.mk (show s.data.toList.length ≤ 60 by rw [len_data]; omega)
      go_enter Tryd.func24, Tryd.ntmps24
      go_wp2_with fail
      refine (rparts_calls s w hs).mono ?_
      rintro e w1 ⟨v, rfl, hsl, ⟨A, n, c, rfl⟩, hb⟩
      have HSZ := Aside0.mk (split_size s.data.toList)
      have HBAD := Aside0.mk (@valid_bad s.data.toList)
      have HALL := Aside0.mk (@valid_all s.data.toList)
      obtain ⟨V, hV⟩ : ∃ V, V = validB s.data.toList := ⟨_, rfl⟩
      rw [← hV] at HBAD HALL
      obtain ⟨L, hL⟩ : ∃ L, L = splitP s.data.toList := ⟨_, rfl⟩
      rw [← hL] at hsl HSZ HBAD HALL
      have HV := Aside0.mk hV
      have HSL := Aside0.mk hsl
      have HB := Aside0.mk hb
      obtain ⟨_, _, he, hc, hm, _⟩ := hsl
      cases he
      clear hV hL hb
      go_wp2_with fail
      go_loopw [4] (fun i wr => ∃ k : Nat, k ≤ L.length ∧ i = .int .i64 k ∧ wr = w1 ∧ Aside0 ((L.take k).all partB = true)) (fun i wr => L.length - (intOf i).toNat)
      case atStart => exact ⟨0, Nat.zero_le _, rfl, rfl, ⟨rfl⟩⟩
      case round =>
        obtain ⟨k, hk, rfl, rfl, hs2⟩ := hrel
        by_cases hlt : k < L.length
        · obtain ⟨ad, c', he, hcell⟩ := HSL.out.at k hlt
          cases he
          have HT := Aside0.mk (take_allP hlt)
          have HBD := Aside0.mk (fun h => HBAD.out hlt h)
          have HLE : Aside0 ((L.getD k []).length ≤ 60) := ⟨by
            refine Nat.le_trans (HSZ.out _ ?_) H60.out
            rw [List.getD_eq_getElem?_getD, List.getElem?_eq_getElem hlt]
            exact List.getElem_mem hlt⟩
          obtain ⟨x, hx⟩ : ∃ x, x = L.getD k [] := ⟨_, rfl⟩
          rw [← hx] at hcell HT HBD HLE
          clear hx
          obtain ⟨p, hp⟩ : ∃ p, p = str x := ⟨_, rfl⟩
          rw [← hp] at hcell
          obtain rfl : x = p.data.toList := by rw [hp, str_data]
          clear hp
          have hp60 : p.size ≤ 60 := by have := HLE.out; rwa [len_data] at this
          have HZ := Aside0.mk (len_data p)
          have HPB : Aside0 (partB p.data.toList = (p.data.toList.all letB && (decide (1 ≤ p.size) && (decide (p.size ≤ 20) && (p.toList != [46] && p.toList != [46, 46]))))) := ⟨by
            rw [partB, len_data, toList_eq]⟩
          by_cases g1 : p.size < 1
          · have e1 : decide ((p.size : Int) < 1) = true := decide_eq_true (by omega)
            have HE : Aside0 (V = false) := ⟨HBD.out (by rw [HPB.out, decide_eq_false (show ¬ 1 ≤ p.size by omega)]; simp)⟩
            go_wp2_with fail
            go_ret
            exact ⟨ret_b (by rw [← HV.out, HE.out]), HB.out⟩
          · have e1 : decide ((p.size : Int) < 1) = false := decide_eq_false (by omega)
            by_cases g2 : 20 < p.size
            · have e2 : decide ((20 : Int) < p.size) = true := decide_eq_true (by omega)
              have HE : Aside0 (V = false) := ⟨HBD.out (by rw [HPB.out, decide_eq_false (show ¬ p.size ≤ 20 by omega)]; simp)⟩
              go_wp2_with fail
              go_ret
              exact ⟨ret_b (by rw [← HV.out, HE.out]), HB.out⟩
            · have e2 : decide ((20 : Int) < p.size) = false := decide_eq_false (by omega)
              rcases h3 : (p.toList == [46]) with _ | _
              · rcases h4 : (p.toList == [46, 46]) with _ | _
                · have HPA : Aside0 (partB p.data.toList = p.data.toList.all letB) := ⟨by rw [HPB.out, bne, bne, h3, h4, decide_eq_true (show 1 ≤ p.size by omega), decide_eq_true (show p.size ≤ 20 by omega)]; simp⟩
                  have HL2 : Aside0 (∀ k (hk : k < p.size), p.data.toList.getD k 0 = p[k]) := ⟨fun k hk => by
                    have h : k < p.data.toList.length := by rw [Array.length_toList]; exact hk
                    rw [List.getD_eq_getElem?_getD, List.getElem?_eq_getElem h]; rfl⟩
                  clear HPB
                  go_wp2_with fail
                  go_loopw [6] (fun i wx => ∃ j : Nat, j ≤ p.size ∧ i = .int .i64 j ∧ wx = wr ∧ Aside0 ((p.data.toList.take j).all letB = true)) (fun i wx => p.size - (intOf i).toNat)
                  case atStart => exact ⟨0, Nat.zero_le _, rfl, rfl, ⟨rfl⟩⟩
                  case round =>
                    obtain ⟨j, hj, rfl, rfl, hs3⟩ := hrel
                    by_cases hlt2 : j < p.size
                    · have HTA : Aside0 ((p.data.toList.take (j + 1)).all letB = ((p.data.toList.take j).all letB && letB p[j])) := ⟨by rw [← HL2.out j hlt2]; exact take_all (by rw [HZ.out]; exact hlt2)⟩
                      have HME : Aside0 (letB p[j] = false → p.data.toList.all letB = false) := ⟨fun h => by
                        rw [List.all_eq_false]
                        have h5 : j < p.data.toList.length := by rw [HZ.out]; exact hlt2
                        refine ⟨p.data.toList[j], List.getElem_mem h5, ?_⟩
                        have h6 : p.data.toList[j] = p[j] := rfl
                        rw [h6, h]; decide⟩
                      have HL : Aside0 (letB p[j] = ((decide (97 ≤ p[j].toNat) && decide (p[j].toNat ≤ 122)) || ((decide (48 ≤ p[j].toNat) && decide (p[j].toNat ≤ 57)) || (decide (p[j].toNat = 46) || (decide (p[j].toNat = 45) || decide (p[j].toNat = 95)))))) := ⟨rfl⟩
                      have hlt8 := p[j].toNat_lt
                      rcases let_cases p[j].toNat with h | h | h | h | h | h | h | h | h | h
                      · have g : letB p[j] = false := by
                          rw [HL.out, decide_eq_false (show ¬ (97 ≤ p[j].toNat) by omega), decide_eq_true (show (p[j].toNat ≤ 122) by omega), decide_eq_false (show ¬ (48 ≤ p[j].toNat) by omega), decide_eq_true (show (p[j].toNat ≤ 57) by omega), decide_eq_false (show ¬ (p[j].toNat = 46) by omega), decide_eq_false (show ¬ (p[j].toNat = 45) by omega), decide_eq_false (show ¬ (p[j].toNat = 95) by omega)]; rfl
                        have q0 : decide ((p[j].toNat : Int) < 97) = true := decide_eq_true (by omega)
                        have q0' : decide (p[j].toNat < 97) = true := decide_eq_true (by omega)
                        have q1 : decide (122 < (p[j].toNat : Int)) = false := decide_eq_false (by omega)
                        have q1' : decide (122 < p[j].toNat) = false := decide_eq_false (by omega)
                        have q2 : decide ((p[j].toNat : Int) < 48) = true := decide_eq_true (by omega)
                        have q2' : decide (p[j].toNat < 48) = true := decide_eq_true (by omega)
                        have q3 : decide (57 < (p[j].toNat : Int)) = false := decide_eq_false (by omega)
                        have q3' : decide (57 < p[j].toNat) = false := decide_eq_false (by omega)
                        have q4 : ((p[j].toNat : Int) == 46) = false := by rw [beq_eq_false_iff_ne]; omega
                        have q4' : ((p[j].toNat : Int) != 46) = true := by rw [bne, q4]; rfl
                        have q5 : ((p[j].toNat : Int) == 45) = false := by rw [beq_eq_false_iff_ne]; omega
                        have q5' : ((p[j].toNat : Int) != 45) = true := by rw [bne, q5]; rfl
                        have q6 : ((p[j].toNat : Int) == 95) = false := by rw [beq_eq_false_iff_ne]; omega
                        have q6' : ((p[j].toNat : Int) != 95) = true := by rw [bne, q6]; rfl
                        have HE : Aside0 (V = false) := ⟨HBD.out (by rw [HPA.out, HME.out g])⟩
                        clear h g
                        go_wp2_with fail
                        go_ret
                        exact ⟨ret_b (by rw [← HV.out, HE.out]), HB.out⟩
                      · have g : letB p[j] = true := by
                          rw [HL.out, decide_eq_false (show ¬ (97 ≤ p[j].toNat) by omega), decide_eq_true (show (p[j].toNat ≤ 122) by omega), decide_eq_false (show ¬ (48 ≤ p[j].toNat) by omega), decide_eq_true (show (p[j].toNat ≤ 57) by omega), decide_eq_false (show ¬ (p[j].toNat = 46) by omega), decide_eq_true (show (p[j].toNat = 45) by omega), decide_eq_false (show ¬ (p[j].toNat = 95) by omega)]; rfl
                        have q0 : decide ((p[j].toNat : Int) < 97) = true := decide_eq_true (by omega)
                        have q0' : decide (p[j].toNat < 97) = true := decide_eq_true (by omega)
                        have q1 : decide (122 < (p[j].toNat : Int)) = false := decide_eq_false (by omega)
                        have q1' : decide (122 < p[j].toNat) = false := decide_eq_false (by omega)
                        have q2 : decide ((p[j].toNat : Int) < 48) = true := decide_eq_true (by omega)
                        have q2' : decide (p[j].toNat < 48) = true := decide_eq_true (by omega)
                        have q3 : decide (57 < (p[j].toNat : Int)) = false := decide_eq_false (by omega)
                        have q3' : decide (57 < p[j].toNat) = false := decide_eq_false (by omega)
                        have q4 : ((p[j].toNat : Int) == 46) = false := by rw [beq_eq_false_iff_ne]; omega
                        have q4' : ((p[j].toNat : Int) != 46) = true := by rw [bne, q4]; rfl
                        have q5 : ((p[j].toNat : Int) == 45) = true := by rw [beq_iff_eq]; omega
                        have q5' : ((p[j].toNat : Int) != 45) = false := by rw [bne, q5]; rfl
                        have q6 : ((p[j].toNat : Int) == 95) = false := by rw [beq_eq_false_iff_ne]; omega
                        have q6' : ((p[j].toNat : Int) != 95) = true := by rw [bne, q6]; rfl
                        have H3 : Aside0 ((p.data.toList.take (j + 1)).all letB = true) := ⟨by rw [HTA.out, hs3.out, g]; rfl⟩
                        clear h g
                        go_wp2_with fail
                        go_roundw
                        case rel => exact ⟨j + 1, by omega, by go_num, trivial, H3⟩
                        case measure => simp [intOf]; omega
                      · have g : letB p[j] = true := by
                          rw [HL.out, decide_eq_false (show ¬ (97 ≤ p[j].toNat) by omega), decide_eq_true (show (p[j].toNat ≤ 122) by omega), decide_eq_false (show ¬ (48 ≤ p[j].toNat) by omega), decide_eq_true (show (p[j].toNat ≤ 57) by omega), decide_eq_true (show (p[j].toNat = 46) by omega), decide_eq_false (show ¬ (p[j].toNat = 45) by omega), decide_eq_false (show ¬ (p[j].toNat = 95) by omega)]; rfl
                        have q0 : decide ((p[j].toNat : Int) < 97) = true := decide_eq_true (by omega)
                        have q0' : decide (p[j].toNat < 97) = true := decide_eq_true (by omega)
                        have q1 : decide (122 < (p[j].toNat : Int)) = false := decide_eq_false (by omega)
                        have q1' : decide (122 < p[j].toNat) = false := decide_eq_false (by omega)
                        have q2 : decide ((p[j].toNat : Int) < 48) = true := decide_eq_true (by omega)
                        have q2' : decide (p[j].toNat < 48) = true := decide_eq_true (by omega)
                        have q3 : decide (57 < (p[j].toNat : Int)) = false := decide_eq_false (by omega)
                        have q3' : decide (57 < p[j].toNat) = false := decide_eq_false (by omega)
                        have q4 : ((p[j].toNat : Int) == 46) = true := by rw [beq_iff_eq]; omega
                        have q4' : ((p[j].toNat : Int) != 46) = false := by rw [bne, q4]; rfl
                        have q5 : ((p[j].toNat : Int) == 45) = false := by rw [beq_eq_false_iff_ne]; omega
                        have q5' : ((p[j].toNat : Int) != 45) = true := by rw [bne, q5]; rfl
                        have q6 : ((p[j].toNat : Int) == 95) = false := by rw [beq_eq_false_iff_ne]; omega
                        have q6' : ((p[j].toNat : Int) != 95) = true := by rw [bne, q6]; rfl
                        have H3 : Aside0 ((p.data.toList.take (j + 1)).all letB = true) := ⟨by rw [HTA.out, hs3.out, g]; rfl⟩
                        clear h g
                        go_wp2_with fail
                        go_roundw
                        case rel => exact ⟨j + 1, by omega, by go_num, trivial, H3⟩
                        case measure => simp [intOf]; omega
                      · have g : letB p[j] = false := by
                          rw [HL.out, decide_eq_false (show ¬ (97 ≤ p[j].toNat) by omega), decide_eq_true (show (p[j].toNat ≤ 122) by omega), decide_eq_false (show ¬ (48 ≤ p[j].toNat) by omega), decide_eq_true (show (p[j].toNat ≤ 57) by omega), decide_eq_false (show ¬ (p[j].toNat = 46) by omega), decide_eq_false (show ¬ (p[j].toNat = 45) by omega), decide_eq_false (show ¬ (p[j].toNat = 95) by omega)]; rfl
                        have q0 : decide ((p[j].toNat : Int) < 97) = true := decide_eq_true (by omega)
                        have q0' : decide (p[j].toNat < 97) = true := decide_eq_true (by omega)
                        have q1 : decide (122 < (p[j].toNat : Int)) = false := decide_eq_false (by omega)
                        have q1' : decide (122 < p[j].toNat) = false := decide_eq_false (by omega)
                        have q2 : decide ((p[j].toNat : Int) < 48) = true := decide_eq_true (by omega)
                        have q2' : decide (p[j].toNat < 48) = true := decide_eq_true (by omega)
                        have q3 : decide (57 < (p[j].toNat : Int)) = false := decide_eq_false (by omega)
                        have q3' : decide (57 < p[j].toNat) = false := decide_eq_false (by omega)
                        have q4 : ((p[j].toNat : Int) == 46) = false := by rw [beq_eq_false_iff_ne]; omega
                        have q4' : ((p[j].toNat : Int) != 46) = true := by rw [bne, q4]; rfl
                        have q5 : ((p[j].toNat : Int) == 45) = false := by rw [beq_eq_false_iff_ne]; omega
                        have q5' : ((p[j].toNat : Int) != 45) = true := by rw [bne, q5]; rfl
                        have q6 : ((p[j].toNat : Int) == 95) = false := by rw [beq_eq_false_iff_ne]; omega
                        have q6' : ((p[j].toNat : Int) != 95) = true := by rw [bne, q6]; rfl
                        have HE : Aside0 (V = false) := ⟨HBD.out (by rw [HPA.out, HME.out g])⟩
                        clear h g
                        go_wp2_with fail
                        go_ret
                        exact ⟨ret_b (by rw [← HV.out, HE.out]), HB.out⟩
                      · have g : letB p[j] = true := by
                          rw [HL.out, decide_eq_false (show ¬ (97 ≤ p[j].toNat) by omega), decide_eq_true (show (p[j].toNat ≤ 122) by omega), decide_eq_true (show (48 ≤ p[j].toNat) by omega), decide_eq_true (show (p[j].toNat ≤ 57) by omega), decide_eq_false (show ¬ (p[j].toNat = 46) by omega), decide_eq_false (show ¬ (p[j].toNat = 45) by omega), decide_eq_false (show ¬ (p[j].toNat = 95) by omega)]; rfl
                        have q0 : decide ((p[j].toNat : Int) < 97) = true := decide_eq_true (by omega)
                        have q0' : decide (p[j].toNat < 97) = true := decide_eq_true (by omega)
                        have q1 : decide (122 < (p[j].toNat : Int)) = false := decide_eq_false (by omega)
                        have q1' : decide (122 < p[j].toNat) = false := decide_eq_false (by omega)
                        have q2 : decide ((p[j].toNat : Int) < 48) = false := decide_eq_false (by omega)
                        have q2' : decide (p[j].toNat < 48) = false := decide_eq_false (by omega)
                        have q3 : decide (57 < (p[j].toNat : Int)) = false := decide_eq_false (by omega)
                        have q3' : decide (57 < p[j].toNat) = false := decide_eq_false (by omega)
                        have q4 : ((p[j].toNat : Int) == 46) = false := by rw [beq_eq_false_iff_ne]; omega
                        have q4' : ((p[j].toNat : Int) != 46) = true := by rw [bne, q4]; rfl
                        have q5 : ((p[j].toNat : Int) == 45) = false := by rw [beq_eq_false_iff_ne]; omega
                        have q5' : ((p[j].toNat : Int) != 45) = true := by rw [bne, q5]; rfl
                        have q6 : ((p[j].toNat : Int) == 95) = false := by rw [beq_eq_false_iff_ne]; omega
                        have q6' : ((p[j].toNat : Int) != 95) = true := by rw [bne, q6]; rfl
                        have H3 : Aside0 ((p.data.toList.take (j + 1)).all letB = true) := ⟨by rw [HTA.out, hs3.out, g]; rfl⟩
                        clear h g
                        go_wp2_with fail
                        go_roundw
                        case rel => exact ⟨j + 1, by omega, by go_num, trivial, H3⟩
                        case measure => simp [intOf]; omega
                      · have g : letB p[j] = false := by
                          rw [HL.out, decide_eq_false (show ¬ (97 ≤ p[j].toNat) by omega), decide_eq_true (show (p[j].toNat ≤ 122) by omega), decide_eq_true (show (48 ≤ p[j].toNat) by omega), decide_eq_false (show ¬ (p[j].toNat ≤ 57) by omega), decide_eq_false (show ¬ (p[j].toNat = 46) by omega), decide_eq_false (show ¬ (p[j].toNat = 45) by omega), decide_eq_false (show ¬ (p[j].toNat = 95) by omega)]; rfl
                        have q0 : decide ((p[j].toNat : Int) < 97) = true := decide_eq_true (by omega)
                        have q0' : decide (p[j].toNat < 97) = true := decide_eq_true (by omega)
                        have q1 : decide (122 < (p[j].toNat : Int)) = false := decide_eq_false (by omega)
                        have q1' : decide (122 < p[j].toNat) = false := decide_eq_false (by omega)
                        have q2 : decide ((p[j].toNat : Int) < 48) = false := decide_eq_false (by omega)
                        have q2' : decide (p[j].toNat < 48) = false := decide_eq_false (by omega)
                        have q3 : decide (57 < (p[j].toNat : Int)) = true := decide_eq_true (by omega)
                        have q3' : decide (57 < p[j].toNat) = true := decide_eq_true (by omega)
                        have q4 : ((p[j].toNat : Int) == 46) = false := by rw [beq_eq_false_iff_ne]; omega
                        have q4' : ((p[j].toNat : Int) != 46) = true := by rw [bne, q4]; rfl
                        have q5 : ((p[j].toNat : Int) == 45) = false := by rw [beq_eq_false_iff_ne]; omega
                        have q5' : ((p[j].toNat : Int) != 45) = true := by rw [bne, q5]; rfl
                        have q6 : ((p[j].toNat : Int) == 95) = false := by rw [beq_eq_false_iff_ne]; omega
                        have q6' : ((p[j].toNat : Int) != 95) = true := by rw [bne, q6]; rfl
                        have HE : Aside0 (V = false) := ⟨HBD.out (by rw [HPA.out, HME.out g])⟩
                        clear h g
                        go_wp2_with fail
                        go_ret
                        exact ⟨ret_b (by rw [← HV.out, HE.out]), HB.out⟩
                      · have g : letB p[j] = true := by
                          rw [HL.out, decide_eq_false (show ¬ (97 ≤ p[j].toNat) by omega), decide_eq_true (show (p[j].toNat ≤ 122) by omega), decide_eq_true (show (48 ≤ p[j].toNat) by omega), decide_eq_false (show ¬ (p[j].toNat ≤ 57) by omega), decide_eq_false (show ¬ (p[j].toNat = 46) by omega), decide_eq_false (show ¬ (p[j].toNat = 45) by omega), decide_eq_true (show (p[j].toNat = 95) by omega)]; rfl
                        have q0 : decide ((p[j].toNat : Int) < 97) = true := decide_eq_true (by omega)
                        have q0' : decide (p[j].toNat < 97) = true := decide_eq_true (by omega)
                        have q1 : decide (122 < (p[j].toNat : Int)) = false := decide_eq_false (by omega)
                        have q1' : decide (122 < p[j].toNat) = false := decide_eq_false (by omega)
                        have q2 : decide ((p[j].toNat : Int) < 48) = false := decide_eq_false (by omega)
                        have q2' : decide (p[j].toNat < 48) = false := decide_eq_false (by omega)
                        have q3 : decide (57 < (p[j].toNat : Int)) = true := decide_eq_true (by omega)
                        have q3' : decide (57 < p[j].toNat) = true := decide_eq_true (by omega)
                        have q4 : ((p[j].toNat : Int) == 46) = false := by rw [beq_eq_false_iff_ne]; omega
                        have q4' : ((p[j].toNat : Int) != 46) = true := by rw [bne, q4]; rfl
                        have q5 : ((p[j].toNat : Int) == 45) = false := by rw [beq_eq_false_iff_ne]; omega
                        have q5' : ((p[j].toNat : Int) != 45) = true := by rw [bne, q5]; rfl
                        have q6 : ((p[j].toNat : Int) == 95) = true := by rw [beq_iff_eq]; omega
                        have q6' : ((p[j].toNat : Int) != 95) = false := by rw [bne, q6]; rfl
                        have H3 : Aside0 ((p.data.toList.take (j + 1)).all letB = true) := ⟨by rw [HTA.out, hs3.out, g]; rfl⟩
                        clear h g
                        go_wp2_with fail
                        go_roundw
                        case rel => exact ⟨j + 1, by omega, by go_num, trivial, H3⟩
                        case measure => simp [intOf]; omega
                      · have g : letB p[j] = false := by
                          rw [HL.out, decide_eq_false (show ¬ (97 ≤ p[j].toNat) by omega), decide_eq_true (show (p[j].toNat ≤ 122) by omega), decide_eq_true (show (48 ≤ p[j].toNat) by omega), decide_eq_false (show ¬ (p[j].toNat ≤ 57) by omega), decide_eq_false (show ¬ (p[j].toNat = 46) by omega), decide_eq_false (show ¬ (p[j].toNat = 45) by omega), decide_eq_false (show ¬ (p[j].toNat = 95) by omega)]; rfl
                        have q0 : decide ((p[j].toNat : Int) < 97) = true := decide_eq_true (by omega)
                        have q0' : decide (p[j].toNat < 97) = true := decide_eq_true (by omega)
                        have q1 : decide (122 < (p[j].toNat : Int)) = false := decide_eq_false (by omega)
                        have q1' : decide (122 < p[j].toNat) = false := decide_eq_false (by omega)
                        have q2 : decide ((p[j].toNat : Int) < 48) = false := decide_eq_false (by omega)
                        have q2' : decide (p[j].toNat < 48) = false := decide_eq_false (by omega)
                        have q3 : decide (57 < (p[j].toNat : Int)) = true := decide_eq_true (by omega)
                        have q3' : decide (57 < p[j].toNat) = true := decide_eq_true (by omega)
                        have q4 : ((p[j].toNat : Int) == 46) = false := by rw [beq_eq_false_iff_ne]; omega
                        have q4' : ((p[j].toNat : Int) != 46) = true := by rw [bne, q4]; rfl
                        have q5 : ((p[j].toNat : Int) == 45) = false := by rw [beq_eq_false_iff_ne]; omega
                        have q5' : ((p[j].toNat : Int) != 45) = true := by rw [bne, q5]; rfl
                        have q6 : ((p[j].toNat : Int) == 95) = false := by rw [beq_eq_false_iff_ne]; omega
                        have q6' : ((p[j].toNat : Int) != 95) = true := by rw [bne, q6]; rfl
                        have HE : Aside0 (V = false) := ⟨HBD.out (by rw [HPA.out, HME.out g])⟩
                        clear h g
                        go_wp2_with fail
                        go_ret
                        exact ⟨ret_b (by rw [← HV.out, HE.out]), HB.out⟩
                      · have g : letB p[j] = true := by
                          rw [HL.out, decide_eq_true (show (97 ≤ p[j].toNat) by omega), decide_eq_true (show (p[j].toNat ≤ 122) by omega), decide_eq_true (show (48 ≤ p[j].toNat) by omega), decide_eq_false (show ¬ (p[j].toNat ≤ 57) by omega), decide_eq_false (show ¬ (p[j].toNat = 46) by omega), decide_eq_false (show ¬ (p[j].toNat = 45) by omega), decide_eq_false (show ¬ (p[j].toNat = 95) by omega)]; rfl
                        have q0 : decide ((p[j].toNat : Int) < 97) = false := decide_eq_false (by omega)
                        have q0' : decide (p[j].toNat < 97) = false := decide_eq_false (by omega)
                        have q1 : decide (122 < (p[j].toNat : Int)) = false := decide_eq_false (by omega)
                        have q1' : decide (122 < p[j].toNat) = false := decide_eq_false (by omega)
                        have q2 : decide ((p[j].toNat : Int) < 48) = false := decide_eq_false (by omega)
                        have q2' : decide (p[j].toNat < 48) = false := decide_eq_false (by omega)
                        have q3 : decide (57 < (p[j].toNat : Int)) = true := decide_eq_true (by omega)
                        have q3' : decide (57 < p[j].toNat) = true := decide_eq_true (by omega)
                        have q4 : ((p[j].toNat : Int) == 46) = false := by rw [beq_eq_false_iff_ne]; omega
                        have q4' : ((p[j].toNat : Int) != 46) = true := by rw [bne, q4]; rfl
                        have q5 : ((p[j].toNat : Int) == 45) = false := by rw [beq_eq_false_iff_ne]; omega
                        have q5' : ((p[j].toNat : Int) != 45) = true := by rw [bne, q5]; rfl
                        have q6 : ((p[j].toNat : Int) == 95) = false := by rw [beq_eq_false_iff_ne]; omega
                        have q6' : ((p[j].toNat : Int) != 95) = true := by rw [bne, q6]; rfl
                        have H3 : Aside0 ((p.data.toList.take (j + 1)).all letB = true) := ⟨by rw [HTA.out, hs3.out, g]; rfl⟩
                        clear h g
                        go_wp2_with fail
                        go_roundw
                        case rel => exact ⟨j + 1, by omega, by go_num, trivial, H3⟩
                        case measure => simp [intOf]; omega
                      · have g : letB p[j] = false := by
                          rw [HL.out, decide_eq_true (show (97 ≤ p[j].toNat) by omega), decide_eq_false (show ¬ (p[j].toNat ≤ 122) by omega), decide_eq_true (show (48 ≤ p[j].toNat) by omega), decide_eq_false (show ¬ (p[j].toNat ≤ 57) by omega), decide_eq_false (show ¬ (p[j].toNat = 46) by omega), decide_eq_false (show ¬ (p[j].toNat = 45) by omega), decide_eq_false (show ¬ (p[j].toNat = 95) by omega)]; rfl
                        have q0 : decide ((p[j].toNat : Int) < 97) = false := decide_eq_false (by omega)
                        have q0' : decide (p[j].toNat < 97) = false := decide_eq_false (by omega)
                        have q1 : decide (122 < (p[j].toNat : Int)) = true := decide_eq_true (by omega)
                        have q1' : decide (122 < p[j].toNat) = true := decide_eq_true (by omega)
                        have q2 : decide ((p[j].toNat : Int) < 48) = false := decide_eq_false (by omega)
                        have q2' : decide (p[j].toNat < 48) = false := decide_eq_false (by omega)
                        have q3 : decide (57 < (p[j].toNat : Int)) = true := decide_eq_true (by omega)
                        have q3' : decide (57 < p[j].toNat) = true := decide_eq_true (by omega)
                        have q4 : ((p[j].toNat : Int) == 46) = false := by rw [beq_eq_false_iff_ne]; omega
                        have q4' : ((p[j].toNat : Int) != 46) = true := by rw [bne, q4]; rfl
                        have q5 : ((p[j].toNat : Int) == 45) = false := by rw [beq_eq_false_iff_ne]; omega
                        have q5' : ((p[j].toNat : Int) != 45) = true := by rw [bne, q5]; rfl
                        have q6 : ((p[j].toNat : Int) == 95) = false := by rw [beq_eq_false_iff_ne]; omega
                        have q6' : ((p[j].toNat : Int) != 95) = true := by rw [bne, q6]; rfl
                        have HE : Aside0 (V = false) := ⟨HBD.out (by rw [HPA.out, HME.out g])⟩
                        clear h g
                        go_wp2_with fail
                        go_ret
                        exact ⟨ret_b (by rw [← HV.out, HE.out]), HB.out⟩
                    · have H3 : Aside0 ((L.take (k + 1)).all partB = true) := ⟨by
                        have h5 := hs3.out
                        rw [List.take_of_length_le (by rw [HZ.out]; omega)] at h5
                        rw [HT.out, hs2.out, HPA.out, h5]; rfl⟩
                      go_wp2_with fail
                      go_roundw
                      case rel => exact ⟨k + 1, by omega, by go_num, trivial, H3⟩
                      case measure => simp [intOf]; omega
                · have HE : Aside0 (V = false) := ⟨HBD.out (by rw [HPB.out, bne, bne, h4]; simp)⟩
                  go_wp2_with fail
                  go_ret
                  exact ⟨ret_b (by rw [← HV.out, HE.out]), HB.out⟩
              · have HE : Aside0 (V = false) := ⟨HBD.out (by rw [HPB.out, bne, bne, h3]; simp)⟩
                go_wp2_with fail
                go_ret
                exact ⟨ret_b (by rw [← HV.out, HE.out]), HB.out⟩
        · have HE : Aside0 (V = true) := ⟨HALL.out H60.out (by have := hs2.out; rwa [show k = L.length by omega] at this)⟩
          go_wp2_with fail
          go_ret
          exact ⟨ret_b (by rw [← HV.out, HE.out]), HB.out⟩
end Go.Proofs.YtoigmepkhiknbaaDoor
