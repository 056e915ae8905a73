/-
  The reference's Prove. No condition but that the leaves can be read and are none too long.
-/
import Derived.Test.YtjoljmkedghcbaaMerRef2
import Derived.Test.YtjoljmkedghcbaaMerProve
namespace Go.Proofs.Ytjoljmkedghcbaa
open Go.RowKit
set_option linter.unusedVariables false
set_option linter.unusedSimpArgs false

/-- A row that lies elsewhere is written. -/
theorem SlL.apart {w w1 : World} {base : Nat} {v : Value} {L : List (List UInt8)} (h : SlL w base v L) {row : Option Nat} (hg : w.grownBy w1 row)
    (hr : ∀ k, row = some k → v.ownBlock ≠ some k ∧ base ≤ k ∧ ∃ cur fr e', w.heap[k]? = some (.cells cur e' fr) ∧ e' ≠ 5) : SlL w1 base v L := by
  obtain ⟨vs, h1, ⟨A, c, rfl, h3, h4, h5⟩, h6⟩ := h
  refine ⟨vs, h1, ⟨A, c, rfl, h3, h4, h5.move fun ad hA hne => hg.block _ (h5.lt hA hne) ?_⟩, fun i u x hu hx => (h6 i u x hu hx).other hg fun k hk => (hr k hk).2⟩
  intro he
  subst hA
  exact (hr ad.block he.symm).1 rfl
theorem OwnE.row {w : World} {base eb : Nat} {v : Value} {L : List (List UInt8)} (h : OwnE w base eb v L) : ∀ k, v.ownBlock = some k → base ≤ k ∧ k < w.heap.size ∧ ∃ cur fr e', w.heap[k]? = some (.cells cur e' fr) ∧ e' ≠ 5 := by
  obtain ⟨vs, h1, h2, h3⟩ := h
  intro k hk
  obtain ⟨a, cur, fr, e', b, d⟩ := own_row_ne (e0 := 5) h2 (by decide) k hk
  exact ⟨a, (Array.getElem?_eq_some_iff.1 b).1, cur, fr, e', b, d⟩
/-- Two slices lie in blocks of their own. -/
def Apart (v u : Value) : Prop := ∀ k, u.ownBlock = some k → v.ownBlock ≠ some k

set_option maxHeartbeats 1000000 in
theorem rprove_bad {b0 : Nat} {v : Value} {L : List (List UInt8)} (k : Int) (w : World) (hv : SlL w b0 v L) (hk : k < 0 ∨ (L.length : Int) ≤ k) :
    Calls Try.prog 24 #[v, .int .i64 k] w fun e w' => e = .returned (.tuple #[.slice none 0 0, .int .i64 1]) ∧ w = w' := by
  obtain ⟨A, c, rfl, hc, hm⟩ := hv.shape
  clear hv
  by_cases h1 : k < 0
  · have d1 : decide (k < 0) = true := decide_eq_true h1
    clear hk
    go_enter Try.func24, Try.ntmps24
    go_wp2_with fail
    go_ret2
    exact ⟨rfl, rfl⟩
  · have d1 : decide (k < 0) = false := decide_eq_false h1
    have h2 : (L.length : Int) ≤ k := by omega
    have d2 : decide ((L.length : Int) ≤ k) = true := decide_eq_true h2
    clear hk
    go_enter Try.func24, Try.ntmps24
    go_wp2_with fail
    go_ret2
    exact ⟨rfl, rfl⟩

set_option maxHeartbeats 2000000 in
theorem rprove_good {b0 : Nat} {v : Value} {L : List (List UInt8)} (k : Nat) (w : World) (hv : SlL w b0 v L) (hb0 : b0 ≤ w.heap.size) (hf : FitM L) (hk : k < L.length) :
    Calls Try.prog 24 #[v, .int .i64 k] w fun e w' => ∃ v', e = .returned (.tuple #[v', .int .i64 0]) ∧ OwnE w' w.heap.size b0 v' (proofTo L k (hgt L.length)) ∧ Below w.heap.size w w' := by
  have HV := Aside0.mk hv
  have HF := Aside0.mk hf
  obtain ⟨A, c, rfl, hc, hm⟩ := hv.shape
  have hl9 : L.length ≤ 1000000000 := hf.1
  have hk9 : k ≤ 1000000000 := by omega
  have d1 : decide ((k : Int) < 0) = false := decide_eq_false (by omega)
  have d2 : decide (L.length ≤ k) = false := decide_eq_false (by omega)
  clear hf hv hk
  go_enter Try.func24, Try.ntmps24
  go_wp2_with fail
  go_loopw [0, 1, 6] (fun l kk out wr => ∃ (n kn : Nat) (A : Option Addr) (c m : Nat), l = .slice A m c ∧ kk = .int .i64 kn ∧ kn ≤ 1000000000 ∧ m ≤ 1000000000 ∧ Aside0 (m = (upN L n).length ∧ HgtAt L n ∧ kn = kAt k n ∧ SlL wr b0 l (upN L n) ∧ OwnE wr w.heap.size b0 out (proofTo L k n) ∧ Below w.heap.size w wr ∧ Apart l out)) (fun l kk out wr => lenOf l)
  case atStart => exact ⟨0, k, A, c, L.length, rfl, rfl, hk9, hl9, ⟨rfl, HgtAt.zero L, rfl, HV.out, OwnE.nil _ _ _, Below.refl _ _, fun k hk => by cases hk⟩⟩
  case round =>
    obtain ⟨n, kn, A2, c2, m, rfl, rfl, hkn, hm9, hs⟩ := hrel
    by_cases h1 : 1 < m
    · have HP : Aside0 (proofTo L k (n + 1) = proofTo L k n ++ oneP (upN L n) kn) := ⟨by rw [proofTo, hs.out.2.2.1]⟩
      have HKN : Aside0 (kn / 2 = kAt k (n + 1)) := ⟨by rw [hs.out.2.2.1]; rfl⟩
      have HPL : Aside0 ((proofTo L k n).length ≤ 1000000000) := ⟨by have h1 := proofTo_length L k n; have h2 := hs.out.2.1.le; omega⟩
      have HKS := Aside0.mk (hs.out.2.1.succ (by have := hs.out.1; omega))
      have hx1 := xor_sib kn (by omega)
      obtain ⟨s, hss⟩ : ∃ s, s = sib kn := ⟨_, rfl⟩
      rw [← hss] at hx1
      have HSS := Aside0.mk hss
      have HS := Aside0.mk hs.out.2.2.2.1
      have HO := Aside0.mk hs.out.2.2.2.2.1
      have HB := Aside0.mk hs.out.2.2.2.2.2.1
      have HAP := Aside0.mk hs.out.2.2.2.2.2.2
      have hmm := hs.out.1
      obtain ⟨M, hM⟩ : ∃ M, M = upN L n := ⟨_, rfl⟩
      have HUP : Aside0 (upN L (n + 1) = upL M) := ⟨by rw [hM]; rfl⟩
      have HFM : Aside0 (FitM M) := ⟨by rw [hM]; exact upN_fit sha_short HF.out n⟩
      rw [← hM] at HS HP hmm
      have HM := Aside0.mk hmm
      clear hss hM hmm hs
      by_cases hsm : s < m
      · have hP := HP.out
        rw [oneP, if_pos (by rw [← HSS.out, ← HM.out]; exact hsm), ← HSS.out] at hP
        have HP2 := Aside0.mk hP
        obtain ⟨ad3, c3, u3, A3, cu3, he, hu, hcell3, hsl3⟩ := HS.out.at s (by rw [← HM.out]; exact hsm)
        rw [← HM.out] at he
        cases he
        subst hu
        obtain ⟨x, hx⟩ : ∃ x, x = M.getD s [] := ⟨_, rfl⟩
        rw [← hx] at hcell3 hsl3 HP2
        have HX := Aside0.mk hsl3
        clear hP hsl3 hx
        go_wp2_with (at_builtin; go_must (refine append_listE rfl rfl (.tmp 25) (.tmp 30) rfl _ _ wr.heap.size 1 22 (0, 0) rfl rfl (HO.out.below ((Below.refl _ _).alloc (Nat.le_refl _) _)) (heap_new rfl) (HX.out.below ((Below.refl _ _).alloc (Nat.le_refl _) _)) hb0 (by have := HPL.out; omega) (by have := HB.out.size; simp; omega) ?_); intro v3 w3 hl3 hg3 hsh)
        obtain ⟨A4, n4, c4, rfl⟩ := hsh
        have HO3 := Aside0.mk (show OwnE w3 w.heap.size b0 (.slice A4 n4 c4) (proofTo L k (n + 1)) by rw [HP2.out]; exact hl3)
        have HS3 := Aside0.mk ((HS.out.below ((Below.refl _ _).alloc (Nat.le_refl _) _)).apart hg3 (fun j hj => by
          obtain ⟨h1, h2, cur, fr, e', h3, h4⟩ := HO.out.row j hj
          exact ⟨HAP.out j hj, Nat.le_trans hb0 h1, cur, fr, e', heap_old h3, h4⟩))
        have HB3 := Aside0.mk (show Below w.heap.size w w3 from (HB.out.alloc HB.out.size _).grown hg3 (by have := HB.out.size; simp; omega) (OwnE.base_le HO.out))
        clear hl3 hg3
        refine (rup_calls _ HS3.out (Nat.le_trans hb0 HB3.out.size) HFM.out).mono ?_
        rintro e w4 ⟨v4, rfl, hown4, hb4⟩
        rw [← HUP.out] at hown4
        obtain ⟨A5, c5, rfl, hc5, hm5⟩ := hown4.reads.shape
        have hm6 : (upN L (n + 1)).length < m := by rw [HUP.out, upL_length, ← HM.out]; omega
        have H4 := Aside0.mk (show HgtAt L (n + 1) ∧ kn / 2 = kAt k (n + 1) ∧ SlL w4 b0 (.slice A5 (upN L (n + 1)).length c5) (upN L (n + 1)) ∧ OwnE w4 w.heap.size b0 (.slice A4 n4 c4) (proofTo L k (n + 1)) ∧ Below w.heap.size w w4 ∧ Apart (.slice A5 (upN L (n + 1)).length c5) (.slice A4 n4 c4) from
          ⟨HKS.out, HKN.out, hown4.reads, HO3.out.below hb4, below_step HB3.out hb4, fun j hj hj2 => by
            have h1 := (HO3.out.row j hj).2.1
            have h2 := OwnE.base_le hown4 j hj2
            omega⟩)
        obtain ⟨m', hm'⟩ : ∃ m', m' = (upN L (n + 1)).length := ⟨_, rfl⟩
        rw [← hm'] at H4 hm6 ⊢
        have HM' := Aside0.mk hm'
        clear hown4 hb4 hm' hm5 hc5
        go_wp2_with fail
        go_roundw
        case rel => exact ⟨n + 1, kn / 2, A5, c5, m', rfl, by go_num, by omega, by omega, ⟨HM'.out, H4.out⟩⟩
        case measure => simp [lenOf]; omega
      · have HO3 := Aside0.mk (show OwnE wr w.heap.size b0 u6 (proofTo L k (n + 1)) by
          have hP := HP.out
          rw [oneP, if_neg (by rw [← HSS.out, ← HM.out]; exact hsm), List.append_nil] at hP
          rw [hP]; exact HO.out)
        go_wp2_with fail
        refine (rup_calls _ HS.out (Nat.le_trans hb0 HB.out.size) HFM.out).mono ?_
        rintro e w4 ⟨v4, rfl, hown4, hb4⟩
        rw [← HUP.out] at hown4
        obtain ⟨A5, c5, rfl, hc5, hm5⟩ := hown4.reads.shape
        have hm6 : (upN L (n + 1)).length < m := by rw [HUP.out, upL_length, ← HM.out]; omega
        have H4 := Aside0.mk (show HgtAt L (n + 1) ∧ kn / 2 = kAt k (n + 1) ∧ SlL w4 b0 (.slice A5 (upN L (n + 1)).length c5) (upN L (n + 1)) ∧ OwnE w4 w.heap.size b0 u6 (proofTo L k (n + 1)) ∧ Below w.heap.size w w4 ∧ Apart (.slice A5 (upN L (n + 1)).length c5) u6 from
          ⟨HKS.out, HKN.out, hown4.reads, HO3.out.below hb4, below_step HB.out hb4, fun j hj hj2 => by
            have h1 := (HO3.out.row j hj).2.1
            have h2 := OwnE.base_le hown4 j hj2
            omega⟩)
        obtain ⟨m', hm'⟩ : ∃ m', m' = (upN L (n + 1)).length := ⟨_, rfl⟩
        rw [← hm'] at H4 hm6 ⊢
        have HM' := Aside0.mk hm'
        clear hown4 hb4 hm' hm5 hc5
        go_wp2_with fail
        go_roundw
        case rel => exact ⟨n + 1, kn / 2, A5, c5, m', rfl, by go_num, by omega, by omega, ⟨HM'.out, H4.out⟩⟩
        case measure => simp [lenOf]; omega
    · have HE : Aside0 (OwnE wr w.heap.size b0 u6 (proofTo L k (hgt L.length)) ∧ Below w.heap.size w wr) := ⟨by
        have hk := hs.out.2.1.last (by have := hs.out.1; omega)
        rw [← hk]
        exact ⟨hs.out.2.2.2.2.1, hs.out.2.2.2.2.2.1⟩⟩
      clear hs
      go_wp2_with fail
      go_ret2
      exact ⟨_, rfl, HE.out.1, HE.out.2⟩
end Go.Proofs.Ytjoljmkedghcbaa
