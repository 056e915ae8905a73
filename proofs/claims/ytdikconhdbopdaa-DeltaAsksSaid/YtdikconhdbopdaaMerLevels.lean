/-
  merkle.Levels and Root. No condition but that the leaves can be read and are none too long.
-/
import Derived.Test.YtdikconhdbopdaaMerUp
namespace Go.Proofs.Ytdikconhdbopdaa
open Go.RowKit
set_option linter.unusedVariables false
set_option linter.unusedSimpArgs false

/-- How many elements a slice has. -/
def lenOf : Value → Nat
  | .slice _ n _ => n
  | _ => 0
/-- Where the loop up stands. -/
def LevS (w wr : World) (L : List (List UInt8)) (out l : Value) (k : Nat) : Prop :=
  HgtAt L k ∧ SlL wr 0 l (upN L k) ∧ OwnV wr w.heap.size out (levTo L (k + 1)) ∧ Below w.heap.size w wr

set_option maxHeartbeats 1000000 in
theorem levels_none {c : Nat} {A : Option Addr} (w : World) : Calls Try.prog 37 #[.slice A 0 c] w fun e w' => e = .returned (.slice none 0 0) ∧ w = w' := by
  go_enter Try.func37, Try.ntmps37
  go_wp2_with fail
  go_ret
  exact ⟨rfl, rfl⟩

set_option maxHeartbeats 2000000 in
theorem levels_some {b0 : Nat} {v : Value} {L : List (List UInt8)} (w : World) (hv : SlL w b0 v L) (hf : FitM L) (hne : 0 < L.length) :
    Calls Try.prog 37 #[v] w fun e w' => ∃ v', e = .returned v' ∧ OwnV w' w.heap.size v' (levelsL L) ∧ Below w.heap.size w w' := by
  have HV := Aside0.mk hv
  have HF := Aside0.mk hf
  obtain ⟨A, c, rfl, hc, hm⟩ := hv.shape
  have hlen : L.length ≤ 1000000000 := hf.1
  have d1 : decide ((L.length : Int) = 0) = false := decide_eq_false (by omega)
  have d2 : ((L.length : Int) == 0) = false := by rw [beq_eq_false_iff_ne]; omega
  clear hf hv
  go_enter Try.func37, Try.ntmps37
  go_wp2_with fail
  go_loopw [3, 11] (fun v i wr => ∃ n : Nat, n ≤ L.length ∧ i = .int .i64 n ∧ Aside0 (OwnE wr w.heap.size 0 v (L.take n) ∧ Below w.heap.size w wr)) (fun v i wr => L.length - (intOf i).toNat)
  case atStart => exact ⟨0, by omega, rfl, ⟨OwnE.nil _ _ _, Below.refl _ _⟩⟩
  case round =>
    obtain ⟨n, hn, rfl, hs⟩ := hrel
    by_cases hlt : n < L.length
    · obtain ⟨ad, c', u, A1, cu, he, hu, hcell, hsl⟩ := (HV.out.below hs.out.2).at n hlt
      cases he
      subst hu
      have HS := Aside0.mk hsl
      have HN := Aside0.mk (take_snoc L n [] hlt)
      have HX := Aside0.mk (HF.out.at n)
      obtain ⟨x, hx⟩ : ∃ x, x = L.getD n [] := ⟨_, rfl⟩
      rw [← hx] at HX HN HS hcell
      clear hsl hx
      go_wp2_with fail
      refine (clone_calls _ HS.out (by have := HX.out; omega)).mono ?_
      rintro e w2 ⟨v2, rfl, hown2, hb2⟩
      have HY := Aside0.mk (Sl.of_own (b := 0) hown2)
      obtain ⟨A3, c3, rfl, _⟩ := Sl.of_own (b := 0) hown2
      have HO := Aside0.mk (hs.out.1.below hb2)
      have HB := Aside0.mk (below_step hs.out.2 hb2)
      have HLJ := Aside0.mk (show (L.take n).length ≤ 1000000000 by rw [List.length_take]; omega)
      clear hown2 hb2
      go_wp2_with (at_builtin; go_must (refine append_listE rfl rfl (.tmp 15) (.tmp 18) rfl _ _ w2.heap.size 1 22 (0, 0) rfl rfl (HO.out.below ((Below.refl _ _).alloc (Nat.le_refl _) _)) (heap_new rfl) (HY.out.below ((Below.refl _ _).alloc (Nat.le_refl _) _)) (Nat.zero_le _) (by have := HLJ.out; omega) (by have := HB.out.size; simp; omega) ?_); intro v3 w3 hl3 hg3 hsh)
      have H3 := Aside0.mk (show OwnE w3 w.heap.size 0 v3 (L.take (n + 1)) ∧ Below w.heap.size w w3 from ⟨by rw [HN.out]; exact hl3, (HB.out.alloc HB.out.size _).grown hg3 (by have := HB.out.size; simp; omega) (OwnE.base_le hs.out.1)⟩)
      clear hl3 hg3 hsh
      go_roundw
      case rel => exact ⟨n + 1, by omega, by go_num, H3⟩
      case measure => simp [intOf]; omega
    · have hO := hs.out.1
      rw [List.take_of_length_le (by omega)] at hO
      have HO := Aside0.mk hO.reads
      have HB := Aside0.mk hs.out.2
      obtain ⟨A1, c1, rfl, hc1, hm1⟩ := hO.reads.shape
      clear hs hO
      go_wp2_with (at_builtin; go_must (refine append_lev (LL := []) rfl rfl (.tmp 21) (.tmp 23) rfl _ _ wr.heap.size 1 24 (0, 0) rfl rfl (OwnV.nil _ w.heap.size) (heap_new rfl) ((HO.out.below ((Below.refl _ _).alloc (Nat.le_refl _) _)).mono (Nat.zero_le _)) (by simp) (by have := HB.out.size; simp; omega) ?_); intro v3 w3 hl3 hg3 hy3 hsh)
      have H0 := Aside0.mk (show LevS w w3 L v3 (.slice A1 L.length c1) 0 from ⟨HgtAt.zero L, hy3 0 (Nat.zero_le _) (HO.out.below ((Below.refl _ _).alloc (Nat.le_refl _) _)), by simpa [levTo, upN] using hl3, (HB.out.alloc HB.out.size _).grown hg3 (by have := HB.out.size; simp; omega) (fun k hk => by cases hk)⟩)
      clear hl3 hg3 hy3 hsh HO HB
      go_loopw [2, 3] (fun out l wr => ∃ (k : Nat) (A : Option Addr) (c m : Nat), l = .slice A m c ∧ m ≤ 1000000000 ∧ Aside0 (m = (upN L k).length) ∧ Aside0 (LevS w wr L out l k)) (fun out l wr => lenOf l)
      case atStart => exact ⟨0, A1, c1, L.length, rfl, hlen, ⟨rfl⟩, H0⟩
      case round =>
        obtain ⟨k, A2, c2, m, rfl, hm2, hml, hs⟩ := hrel
        clear H0
        by_cases h1 : 1 < m
        · go_wp2_with fail
          refine (up_calls _ hs.out.2.1 (Nat.zero_le _) (upN_fit sha_short HF.out k)).mono ?_
          rintro e w4 ⟨v4, rfl, hown4, hb4⟩
          have HK := Aside0.mk hs.out.1.le
          have HKS := Aside0.mk (hs.out.1.succ (by have := hml.out; omega))
          have hown5 : SlL w4 0 v4 (upN L (k + 1)) := hown4.reads
          obtain ⟨A4, c4, rfl, hc4, hm4⟩ := hown5.shape
          have HO := Aside0.mk hown5
          have HB := Aside0.mk (below_step hs.out.2.2.2 hb4)
          have HV4 := Aside0.mk (hs.out.2.2.1.below hb4)
          have HBL := Aside0.mk (OwnV.base_le hs.out.2.2.1)
          have hm5 : (upN L (k + 1)).length < m := by
            show (upL (upN L k)).length < m
            rw [upL_length, ← hml.out]; omega
          obtain ⟨m', hm'⟩ : ∃ m', m' = (upN L (k + 1)).length := ⟨_, rfl⟩
          rw [← hm'] at hm5 hm4 hc4 HO ⊢
          have HM := Aside0.mk hm'
          clear hown4 hb4 hown5 hm' hs
          go_wp2_with (at_builtin; go_must (refine append_lev rfl rfl (.tmp 28) (.tmp 30) rfl _ _ w4.heap.size 1 24 (0, 0) rfl rfl (HV4.out.below ((Below.refl _ _).alloc (Nat.le_refl _) _)) (heap_new rfl) ((HO.out.below ((Below.refl _ _).alloc (Nat.le_refl _) _)).mono (Nat.zero_le _)) (by rw [levTo_length]; have := HK.out; omega) (by have := HB.out.size; simp; omega) ?_); intro v3 w3 hl3 hg3 hy3 hsh)
          have H3 := Aside0.mk (show LevS w w3 L v3 (.slice A4 m' c4) (k + 1) from ⟨HKS.out, hy3 0 (Nat.zero_le _) (HO.out.below ((Below.refl _ _).alloc (Nat.le_refl _) _)), by rw [levTo_succ]; exact hl3, (HB.out.alloc HB.out.size _).grown hg3 (by have := HB.out.size; simp; omega) HBL.out⟩)
          clear hl3 hg3 hy3 hsh
          go_roundw
          case rel => exact ⟨k + 1, A4, c4, m', rfl, by omega, HM, H3⟩
          case measure => simp [lenOf]; omega
        · have HE : Aside0 (OwnV wr w.heap.size u2 (levelsL L) ∧ Below w.heap.size w wr) := ⟨by
            have hk := hs.out.1.last (by have := hml.out; omega)
            have h2 := hs.out.2.2.1
            rw [hk] at h2
            rw [levelsL, if_neg (by omega)]
            exact ⟨h2, hs.out.2.2.2⟩⟩
          clear hs
          go_wp2_with fail
          go_ret
          exact ⟨_, rfl, HE.out.1, HE.out.2⟩

theorem levels_calls {b0 : Nat} {v : Value} {L : List (List UInt8)} (w : World) (hv : SlL w b0 v L) (hf : FitM L) :
    Calls Try.prog 37 #[v] w fun e w' => ∃ v', e = .returned v' ∧ OwnV w' w.heap.size v' (levelsL L) ∧ Below w.heap.size w w' := by
  rcases Nat.eq_zero_or_pos L.length with h | h
  · obtain ⟨A, c, rfl, hc, hm⟩ := hv.shape
    have h0 : levelsL L = [] := by rw [levelsL, if_pos h]
    rw [h0, h]
    refine (levels_none w).mono ?_
    rintro e w' ⟨rfl, rfl⟩
    exact ⟨_, rfl, OwnV.nil _ _, Below.refl _ _⟩
  · exact levels_some w hv hf h

set_option maxHeartbeats 1000000 in
theorem root_calls {b0 : Nat} {v : Value} {L : List (List UInt8)} (w : World) (hv : SlL w b0 v L) (hf : FitM L) :
    Calls Try.prog 22 #[v] w fun e w' => ∃ v', e = .returned v' ∧ Sl bv 5 w' w.heap.size v' (rootL L) ∧ Below w.heap.size w w' := by
  have HV := Aside0.mk hv
  have HF := Aside0.mk hf
  obtain ⟨A, c, rfl, hc, hm⟩ := hv.shape
  clear hf hv
  go_enter Try.func22, Try.ntmps22
  go_wp2_with fail
  refine (levels_calls w HV.out HF.out).mono ?_
  rintro e w1 ⟨v1, rfl, ho1, hb1⟩
  have HO := Aside0.mk ho1.reads
  have HB := Aside0.mk hb1
  obtain ⟨A1, c1, rfl, hc1, hm1⟩ := ho1.reads.shape
  clear ho1 hb1
  rcases Nat.eq_zero_or_pos L.length with h | h
  · have h0 : levelsL L = [] := by rw [levelsL, if_pos h]
    rw [h0] at HO hc1 hm1 ⊢
    simp only [List.length_nil] at HO hc1 hm1 ⊢
    have HR : Aside0 (rootL L = shaL (List.flatten [])) := ⟨by rw [rootL, if_pos h]; rfl⟩
    clear h h0
    go_wp2_with fail
    refine (dsum_calls (b0 := 0) (L := []) w1 ⟨[], rfl, Sl.nil _ _ _ _, by simp⟩ (Nat.zero_le _) (by simp)).mono ?_
    rintro e w2 ⟨v2, rfl, hown2, hb2⟩
    have H2 := Aside0.mk (And.intro (Sl.of_own (b := w.heap.size) hown2) (below_step HB.out hb2))
    clear hown2 hb2
    go_wp2_with fail
    go_ret
    exact ⟨_, rfl, by rw [HR.out]; exact H2.out.1, H2.out.2⟩
  · have h0 : levelsL L = levTo L (hgt L.length + 1) := by rw [levelsL, if_neg (by omega)]
    rw [h0] at HO hc1 hm1 ⊢
    obtain ⟨q, hq⟩ : ∃ q, q = hgt L.length := ⟨_, rfl⟩
    have HR : Aside0 (rootL L = (upN L q).getD 0 []) := ⟨by rw [rootL, if_neg (by omega), hq]⟩
    have HT : Aside0 ((upN L q).length = 1) := ⟨by rw [hq]; exact upN_top L h⟩
    rw [← hq] at HO hc1 hm1 ⊢
    have hql : q ≤ 1000000000 := by rw [hq]; have := hgt_le L.length; have := HF.out.1; omega
    clear h h0 hq
    rw [levTo_length] at hc1 hm1 ⊢
    obtain ⟨ad, c2, u, A2, cu, he, hu, hcell, hsl⟩ := HO.out.at q (by rw [levTo_length]; omega)
    rw [levTo_length] at he
    cases he
    rw [levTo_at L (q + 1) q (by omega)] at hu hsl
    rw [HT.out] at hu
    subst hu
    obtain ⟨ad2, c3, u2, A3, cu3, he, hu, hcell2, hsl2⟩ := hsl.at 0 (by rw [HT.out]; decide)
    rw [HT.out] at he
    cases he
    subst hu
    have HS := Aside0.mk hsl2
    have hcell2 : w1.cell? ad2 = some (.slice A3 ((upN L q).getD 0 []).length cu3) := hcell2
    clear hsl hsl2
    go_wp2_with fail
    go_ret
    exact ⟨_, rfl, by rw [HR.out]; exact HS.out, HB.out⟩
end Go.Proofs.Ytdikconhdbopdaa
