/-
  merkle.Prove. No condition but that the leaves can be read and are none too long.
-/
import Derived.Test.YtjoljmkedghcbaaMerLevels
import Derived.Laws.BitsAllLaws
namespace Go.Proofs.Ytjoljmkedghcbaa
open Go.RowKit
set_option linter.unusedVariables false
set_option linter.unusedSimpArgs false

theorem nat_xor_one (k : Nat) : k ^^^ 1 = sib k := by
  unfold sib
  have h1 : (k ^^^ 1) / 2 = k / 2 := by rw [Nat.xor_div_two]; simp
  have h2 := @Nat.xor_mod_two_eq_one k 1
  by_cases h : k % 2 = 0
  · rw [if_pos h]
    have : (k ^^^ 1) % 2 = 1 := by rw [h2]; omega
    omega
  · rw [if_neg h]
    have : ¬ (k ^^^ 1) % 2 = 1 := by rw [h2]; omega
    omega
/-- The neighbour, as the code reckons it. -/
theorem xor_sib (k : Nat) (h : k < 9223372036854775807) : bits .xor .i64 (k : Int) 1 = (sib k : Int) := by
  show IntKind.i64.wrap ((BitVec.ofInt 64 (k : Int) ^^^ BitVec.ofInt 64 ((1 : Nat) : Int)).toNat : Int) = _
  rw [BitVec.toNat_xor, ofInt_u64 k (by omega), ofInt_u64 1 (by omega), nat_xor_one]
  exact IntWalk.i64_in _ (by unfold sib; split <;> omega)

set_option maxHeartbeats 1000000 in
theorem prove_bad {b0 : Nat} {v : Value} {L : List (List UInt8)} (k : Int) (w : World) (hv : SlL w b0 v L) (hk : k < 0 ∨ (L.length : Int) ≤ k) :
    Calls Try.prog 23 #[v, .int .i64 k] w fun e w' => e = .returned (.tuple #[.slice none 0 0, .int .i64 1]) ∧ w = w' := by
  obtain ⟨A, c, rfl, hc, hm⟩ := hv.shape
  clear hv
  by_cases h1 : k < 0
  · have d1 : decide (k < 0) = true := decide_eq_true h1
    clear hk
    go_enter Try.func23, Try.ntmps23
    go_wp2_with fail
    go_ret2
    exact ⟨rfl, rfl⟩
  · have d1 : decide (k < 0) = false := decide_eq_false h1
    have h2 : (L.length : Int) ≤ k := by omega
    have d2 : decide ((L.length : Int) ≤ k) = true := decide_eq_true h2
    clear hk
    go_enter Try.func23, Try.ntmps23
    go_wp2_with fail
    go_ret2
    exact ⟨rfl, rfl⟩

set_option maxHeartbeats 2000000 in
theorem prove_good {b0 : Nat} {v : Value} {L : List (List UInt8)} (k : Nat) (w : World) (hv : SlL w b0 v L) (hf : FitM L) (hk : k < L.length) :
    Calls Try.prog 23 #[v, .int .i64 k] w fun e w' => ∃ v', e = .returned (.tuple #[v', .int .i64 0]) ∧ OwnL w' w.heap.size v' (proofTo L k (hgt L.length)) ∧ Below w.heap.size w w' := by
  have HV := Aside0.mk hv
  have HF := Aside0.mk hf
  have HK := Aside0.mk hk
  have HT := Aside0.mk (proofTo_top L k hk)
  obtain ⟨A, c, rfl, hc, hm⟩ := hv.shape
  have hk9 : k ≤ 1000000000 := by have := hf.1; omega
  have d1 : decide ((k : Int) < 0) = false := decide_eq_false (by omega)
  have d2 : decide (L.length ≤ k) = false := decide_eq_false (by omega)
  have HQ : Aside0 (levelsL L = levTo L (hgt L.length + 1)) := ⟨by rw [levelsL, if_neg (by omega)]⟩
  have hq9 : hgt L.length ≤ 1000000000 := by have := hgt_le L.length; have := hf.1; omega
  clear hf hv hk
  go_enter Try.func23, Try.ntmps23
  go_wp2_with fail
  refine (levels_calls w HV.out HF.out).mono ?_
  rintro e w1 ⟨v1, rfl, ho1, hb1⟩
  rw [HQ.out] at ho1
  obtain ⟨q, hq⟩ : ∃ q, q = hgt L.length := ⟨_, rfl⟩
  rw [← hq] at ho1 HT hq9
  have HQQ := Aside0.mk hq
  have HO := Aside0.mk ho1.reads
  have H0 := Aside0.mk hb1
  obtain ⟨A1, c1, rfl, hc1, hm1⟩ := ho1.reads.shape
  rw [levTo_length] at hc1 hm1 ⊢
  clear ho1 hb1 hq HQ
  go_wp2_with fail
  go_loopw [1, 4, 20] (fun kk out i wr => ∃ n kn : Nat, n ≤ q + 1 ∧ i = .int .i64 n ∧ kk = .int .i64 kn ∧ kn ≤ 1000000000 ∧ Aside0 (kn = kAt k n ∧ OwnE wr w1.heap.size w.heap.size out (proofTo L k n) ∧ Below w.heap.size w wr ∧ Below w1.heap.size w1 wr)) (fun kk out i wr => q + 1 - (intOf i).toNat)
  case atStart => exact ⟨0, k, by omega, rfl, rfl, hk9, ⟨rfl, OwnE.nil _ _ _, H0.out, Below.refl _ _⟩⟩
  case round =>
    obtain ⟨n, kn, hn, rfl, rfl, hkn, hs⟩ := hrel
    by_cases hlt : n < q + 1
    · obtain ⟨ad, c2, u, A2, cu, he, hu, hcell, hsl⟩ := (HO.out.below hs.out.2.2.2).at n (by rw [levTo_length]; exact hlt)
      rw [levTo_length] at he
      cases he
      rw [levTo_at L (q + 1) n hlt] at hu hsl
      subst hu
      have HS := Aside0.mk hsl
      have HP : Aside0 (proofTo L k (n + 1) = proofTo L k n ++ oneP (upN L n) kn) := ⟨by rw [proofTo, hs.out.1]⟩
      have HKN : Aside0 (kn / 2 = kAt k (n + 1)) := ⟨by rw [hs.out.1]; rfl⟩
      have HPL := Aside0.mk (proofTo_length L k n)
      have hx1 := xor_sib kn (by omega)
      obtain ⟨s, hss⟩ : ∃ s, s = sib kn := ⟨_, rfl⟩
      rw [← hss] at hx1
      obtain ⟨M, hM⟩ : ∃ M, M = upN L n := ⟨_, rfl⟩
      rw [← hM] at hcell HS HP
      have HSS := Aside0.mk hss
      have HHM := Aside0.mk hM
      clear hsl hss hM
      obtain ⟨m, hm⟩ : ∃ m, m = M.length := ⟨_, rfl⟩
      rw [← hm] at hcell
      have HM := Aside0.mk hm
      clear hm
      by_cases hsm : s < m
      · have hP := HP.out
        rw [oneP, if_pos (by rw [← HSS.out, ← HM.out]; exact hsm), ← HSS.out] at hP
        have HP2 := Aside0.mk hP
        obtain ⟨ad3, c3, u3, A3, cu3, he, hu, hcell3, hsl3⟩ := HS.out.at s (by rw [← HM.out]; exact hsm)
        rw [← HM.out] at he
        cases he
        subst hu
        obtain ⟨x, hx⟩ : ∃ x, x = M.getD s [] := ⟨_, rfl⟩
        rw [← hx] at hcell3 hsl3 HP2
        have HX := Aside0.mk hsl3
        clear hP hsl3 hx
        go_wp2_with (at_builtin; go_must (refine append_listE rfl rfl (.tmp 30) (.tmp 35) rfl _ _ wr.heap.size 1 22 (0, 0) rfl rfl (hs.out.2.1.below ((Below.refl _ _).alloc (Nat.le_refl _) _)) (heap_new rfl) (HX.out.below ((Below.refl _ _).alloc (Nat.le_refl _) _)) H0.out.size (by have := HPL.out; omega) (by have := hs.out.2.2.2.size; simp; omega) ?_); intro v3 w3 hl3 hg3 hsh)
        have H3 := Aside0.mk (show kn / 2 = kAt k (n + 1) ∧ OwnE w3 w1.heap.size w.heap.size v3 (proofTo L k (n + 1)) ∧ Below w.heap.size w w3 ∧ Below w1.heap.size w1 w3 from
          ⟨HKN.out, by rw [HP2.out]; exact hl3, (hs.out.2.2.1.alloc hs.out.2.2.1.size _).grown hg3 (by have := hs.out.2.2.1.size; simp; omega) (fun j hj => Nat.le_trans H0.out.size (OwnE.base_le hs.out.2.1 j hj)), (hs.out.2.2.2.alloc hs.out.2.2.2.size _).grown hg3 (by have := hs.out.2.2.2.size; simp; omega) (OwnE.base_le hs.out.2.1)⟩)
        clear hl3 hg3 hsh
        go_roundw
        case rel => exact ⟨n + 1, kn / 2, by omega, by go_num, by go_num, by omega, H3⟩
        case measure => simp [intOf]; omega
      · have H3 := Aside0.mk (show kn / 2 = kAt k (n + 1) ∧ OwnE wr w1.heap.size w.heap.size u4 (proofTo L k (n + 1)) ∧ Below w.heap.size w wr ∧ Below w1.heap.size w1 wr from
          ⟨HKN.out, by
            have hP := HP.out
            rw [oneP, if_neg (by rw [← HSS.out, ← HM.out]; exact hsm), List.append_nil] at hP
            rw [hP]; exact hs.out.2.1, hs.out.2.2⟩)
        go_wp2_with fail
        go_roundw
        case rel => exact ⟨n + 1, kn / 2, by omega, by go_num, by go_num, by omega, H3⟩
        case measure => simp [intOf]; omega
    · have HE : Aside0 (OwnL wr w.heap.size u4 (proofTo L k q) ∧ Below w.heap.size w wr) := ⟨by
        have hnq : n = q + 1 := by omega
        have h1 := hs.out.2.1
        rw [hnq, HT.out] at h1
        exact ⟨(h1.mono H0.out.size).own (Nat.le_refl _), hs.out.2.2.1⟩⟩
      clear hs
      go_wp2_with fail
      go_ret2
      exact ⟨_, rfl, by rw [← HQQ.out]; exact HE.out.1, HE.out.2⟩
end Go.Proofs.Ytjoljmkedghcbaa
