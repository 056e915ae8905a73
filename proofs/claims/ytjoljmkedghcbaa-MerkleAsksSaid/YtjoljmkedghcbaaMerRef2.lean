/-
  The reference's Levels and Root. No condition but that the leaves can be read and are none too long.
-/
import Derived.Test.YtjoljmkedghcbaaMerRef
import Derived.Test.YtjoljmkedghcbaaMerLevels
namespace Go.Proofs.Ytjoljmkedghcbaa
open Go.RowKit
set_option linter.unusedVariables false
set_option linter.unusedSimpArgs false

/-- Where the loop up stands. -/
def RLevS (w wr : World) (b : Nat) (L : List (List UInt8)) (out l : Value) (k : Nat) : Prop :=
  HgtAt L k ∧ SlL wr b l (upN L k) ∧ OwnV wr w.heap.size out (levTo L (k + 1)) ∧ Below w.heap.size w wr

theorem own_levs {w : World} {base g : Nat} {v : Value} {L : List (List UInt8)} (h : w.heap[g]? = some (.cells #[v] 25 (0, 0))) (hb : base ≤ g) (hv : SlL w base v L) : OwnV w base (.slice (some ⟨g, 0, none⟩) 1 1) [L] :=
  ⟨[v], rfl, ⟨by simp, .inr ⟨g, 1, _, rfl, hb, h, Nat.le_refl _, by simp [maxLen], by simp, by simp⟩⟩, fun i u x hu hx => by
    match i with
    | 0 => cases hu; cases hx; exact hv
    | i + 1 => simp at hu⟩

set_option maxHeartbeats 1000000 in
theorem rlevels_none {c : Nat} {A : Option Addr} (w : World) : Calls Try.prog 11 #[.slice A 0 c] w fun e w' => e = .returned (.slice none 0 0) ∧ w = w' := by
  go_enter Try.func11, Try.ntmps11
  go_wp2_with fail
  go_ret
  exact ⟨rfl, rfl⟩

set_option maxHeartbeats 2000000 in
theorem rlevels_some {b0 : Nat} {v : Value} {L : List (List UInt8)} (w : World) (hv : SlL w b0 v L) (hb0 : b0 ≤ w.heap.size) (hf : FitM L) (hne : 0 < L.length) :
    Calls Try.prog 11 #[v] w fun e w' => ∃ v', e = .returned v' ∧ OwnV w' w.heap.size v' (levelsL L) ∧ Below w.heap.size w w' := by
  have HV := Aside0.mk hv
  have HF := Aside0.mk hf
  obtain ⟨A, c, rfl, hc, hm⟩ := hv.shape
  have hlen : L.length ≤ 1000000000 := hf.1
  have d1 : decide ((L.length : Int) = 0) = false := decide_eq_false (by omega)
  have d2 : ((L.length : Int) == 0) = false := by rw [beq_eq_false_iff_ne]; omega
  clear hf hv
  go_enter Try.func11, Try.ntmps11
  go_wp2_with fail
  have hB : Below w.heap.size w (w.alloc (.cells #[.slice A L.length c] 25)) := (Below.refl _ _).alloc (Nat.le_refl _) _
  have H0 := Aside0.mk (show RLevS w (w.alloc (.cells #[.slice A L.length c] 25)) b0 L (.slice (some ⟨w.heap.size, 0, none⟩) 1 1) (.slice A L.length c) 0 from
    ⟨HgtAt.zero L, HV.out.below hB, by rw [show levTo L (0 + 1) = [L] by simp [levTo, upN]]; exact own_levs (heap_new rfl) (Nat.le_refl _) ((HV.out.below hB).mono hb0), hB⟩)
  clear hB
  go_loopw [0, 3] (fun l out wr => ∃ (k : Nat) (A : Option Addr) (c m : Nat), l = .slice A m c ∧ m ≤ 1000000000 ∧ Aside0 (m = (upN L k).length) ∧ Aside0 (RLevS w wr b0 L out l k)) (fun l out wr => lenOf l)
  case atStart => exact ⟨0, A, c, L.length, rfl, hlen, ⟨rfl⟩, H0⟩
  case round =>
    obtain ⟨k, A2, c2, m, rfl, hm2, hml, hs⟩ := hrel
    clear H0
    by_cases h1 : 1 < m
    · go_wp2_with fail
      refine (rup_calls _ hs.out.2.1 (Nat.le_trans hb0 hs.out.2.2.2.size) (upN_fit sha_short HF.out k)).mono ?_
      rintro e w4 ⟨v4, rfl, hown4, hb4⟩
      have HK := Aside0.mk hs.out.1.le
      have HKS := Aside0.mk (hs.out.1.succ (by have := hml.out; omega))
      have hown5 : SlL w4 b0 v4 (upN L (k + 1)) := hown4.reads
      obtain ⟨A4, c4, rfl, hc4, hm4⟩ := hown5.shape
      have HO := Aside0.mk hown5
      have HB := Aside0.mk (below_step hs.out.2.2.2 hb4)
      have HV4 := Aside0.mk (hs.out.2.2.1.below hb4)
      have HBL := Aside0.mk (OwnV.base_le hs.out.2.2.1)
      have hm5 : (upN L (k + 1)).length < m := by
        show (upL (upN L k)).length < m
        rw [upL_length, ← hml.out]; omega
      obtain ⟨m', hm'⟩ : ∃ m', m' = (upN L (k + 1)).length := ⟨_, rfl⟩
      rw [← hm'] at hm5 hm4 hc4 HO ⊢
      have HM := Aside0.mk hm'
      clear hown4 hb4 hown5 hm' hs
      go_wp2_with (at_builtin; go_must (refine append_lev rfl rfl (.tmp 14) (.tmp 16) rfl _ _ w4.heap.size 1 25 (0, 0) rfl rfl (HV4.out.below ((Below.refl _ _).alloc (Nat.le_refl _) _)) (heap_new rfl) ((HO.out.below ((Below.refl _ _).alloc (Nat.le_refl _) _)).mono hb0) (by rw [levTo_length]; have := HK.out; omega) (by have := HB.out.size; simp; omega) ?_); intro v3 w3 hl3 hg3 hy3 hsh)
      have H3 := Aside0.mk (show RLevS w w3 b0 L v3 (.slice A4 m' c4) (k + 1) from ⟨HKS.out, hy3 b0 hb0 (HO.out.below ((Below.refl _ _).alloc (Nat.le_refl _) _)), by rw [levTo_succ]; exact hl3, (HB.out.alloc HB.out.size _).grown hg3 (by have := HB.out.size; simp; omega) HBL.out⟩)
      clear hl3 hg3 hy3 hsh
      go_roundw
      case rel => exact ⟨k + 1, A4, c4, m', rfl, by omega, HM, H3⟩
      case measure => simp [lenOf]; omega
    · have HE : Aside0 (OwnV wr w.heap.size u3 (levelsL L) ∧ Below w.heap.size w wr) := ⟨by
        have hk := hs.out.1.last (by have := hml.out; omega)
        have h2 := hs.out.2.2.1
        rw [hk] at h2
        rw [levelsL, if_neg (by omega)]
        exact ⟨h2, hs.out.2.2.2⟩⟩
      clear hs
      go_wp2_with fail
      go_ret
      exact ⟨_, rfl, HE.out.1, HE.out.2⟩

theorem rlevels_calls {b0 : Nat} {v : Value} {L : List (List UInt8)} (w : World) (hv : SlL w b0 v L) (hb0 : b0 ≤ w.heap.size) (hf : FitM L) :
    Calls Try.prog 11 #[v] w fun e w' => ∃ v', e = .returned v' ∧ OwnV w' w.heap.size v' (levelsL L) ∧ Below w.heap.size w w' := by
  rcases Nat.eq_zero_or_pos L.length with h | h
  · obtain ⟨A, c, rfl, hc, hm⟩ := hv.shape
    have h0 : levelsL L = [] := by rw [levelsL, if_pos h]
    rw [h0, h]
    refine (rlevels_none w).mono ?_
    rintro e w' ⟨rfl, rfl⟩
    exact ⟨_, rfl, OwnV.nil _ _, Below.refl _ _⟩
  · exact rlevels_some w hv hb0 hf h

set_option maxHeartbeats 1000000 in
theorem rroot_none {c : Nat} {A : Option Addr} (w : World) : Calls Try.prog 18 #[.slice A 0 c] w fun e w' => ∃ v', e = .returned v' ∧ w'.ownsRow w.heap.size 5 1 v' (shaL []).length ((shaL []).map bv) ∧ Below w.heap.size w w' := by
  go_enter Try.func18, Try.ntmps18
  go_wp2_with fail
  refine (rsum_calls (b := []) w (Sl.nil _ _ _ 0) (by simp)).mono ?_
  rintro e w2 ⟨v2, rfl, hown2, hb2⟩
  have H2 := Aside0.mk (And.intro hown2 hb2)
  clear hown2 hb2
  go_wp2_with fail
  go_ret
  exact ⟨_, rfl, H2.out.1, H2.out.2⟩

set_option maxHeartbeats 1000000 in
theorem rroot_some {b0 : Nat} {v : Value} {L : List (List UInt8)} (w : World) (hv : SlL w b0 v L) (hb0 : b0 ≤ w.heap.size) (hf : FitM L) (hne : 0 < L.length) :
    Calls Try.prog 18 #[v] w fun e w' => ∃ v', e = .returned v' ∧ Sl bv 5 w' b0 v' (rootL L) ∧ Below w.heap.size w w' := by
  have HV := Aside0.mk hv
  have HF := Aside0.mk hf
  obtain ⟨A, c, rfl, hc, hm⟩ := hv.shape
  have hlen : L.length ≤ 1000000000 := hf.1
  have d1 : decide ((L.length : Int) = 0) = false := decide_eq_false (by omega)
  have d2 : ((L.length : Int) == 0) = false := by rw [beq_eq_false_iff_ne]; omega
  clear hf hv
  go_enter Try.func18, Try.ntmps18
  go_wp2_with fail
  go_loopw [0] (fun l wr => ∃ (k : Nat) (A : Option Addr) (c m : Nat), l = .slice A m c ∧ m ≤ 1000000000 ∧ Aside0 (m = (upN L k).length) ∧ Aside0 (HgtAt L k ∧ SlL wr b0 l (upN L k) ∧ Below w.heap.size w wr)) (fun l wr => lenOf l)
  case atStart => exact ⟨0, A, c, L.length, rfl, hlen, ⟨rfl⟩, ⟨HgtAt.zero L, HV.out, Below.refl _ _⟩⟩
  case round =>
    obtain ⟨k, A2, c2, m, rfl, hm2, hml, hs⟩ := hrel
    by_cases h1 : 1 < m
    · go_wp2_with fail
      refine (rup_calls _ hs.out.2.1 (Nat.le_trans hb0 hs.out.2.2.size) (upN_fit sha_short HF.out k)).mono ?_
      rintro e w4 ⟨v4, rfl, hown4, hb4⟩
      have HKS := Aside0.mk (hs.out.1.succ (by have := hml.out; omega))
      have hown5 : SlL w4 b0 v4 (upN L (k + 1)) := hown4.reads
      obtain ⟨A4, c4, rfl, hc4, hm4⟩ := hown5.shape
      have HO := Aside0.mk hown5
      have HB := Aside0.mk (below_step hs.out.2.2 hb4)
      have hm5 : (upN L (k + 1)).length < m := by
        show (upL (upN L k)).length < m
        rw [upL_length, ← hml.out]; omega
      obtain ⟨m', hm'⟩ : ∃ m', m' = (upN L (k + 1)).length := ⟨_, rfl⟩
      rw [← hm'] at hm5 hm4 hc4 HO ⊢
      have HM := Aside0.mk hm'
      clear hown4 hb4 hown5 hm' hs
      go_wp2_with fail
      go_roundw
      case rel => exact ⟨k + 1, A4, c4, m', rfl, by omega, HM, ⟨HKS.out, HO.out, HB.out⟩⟩
      case measure => simp [lenOf]; omega
    · have hk := hs.out.1.last (by have := hml.out; omega)
      have hT := upN_top L hne
      rw [← hk] at hT
      have HR : Aside0 (rootL L = (upN L k).getD 0 []) := ⟨by rw [rootL, if_neg (by omega), ← hk]⟩
      obtain ⟨ad2, c3, u2, A3, cu3, he, hu, hcell2, hsl2⟩ := hs.out.2.1.at 0 (by rw [hT]; decide)
      have hm1 : m = 1 := by rw [← hT]; exact hml.out
      rw [hT] at he
      subst hm1
      cases he
      subst hu
      have HS := Aside0.mk hsl2
      have HB := Aside0.mk hs.out.2.2
      have hcell2 : wr.cell? ad2 = some (.slice A3 ((upN L k).getD 0 []).length cu3) := hcell2
      clear hs hsl2 hk hT hml
      go_wp2_with fail
      go_ret
      exact ⟨_, rfl, by rw [HR.out]; exact HS.out, HB.out⟩

theorem rroot_calls {b0 : Nat} {v : Value} {L : List (List UInt8)} (w : World) (hv : SlL w b0 v L) (hb0 : b0 ≤ w.heap.size) (hf : FitM L) :
    Calls Try.prog 18 #[v] w fun e w' => ∃ v', e = .returned v' ∧ Sl bv 5 w' b0 v' (rootL L) ∧ Below w.heap.size w w' := by
  rcases Nat.eq_zero_or_pos L.length with h | h
  · obtain ⟨A, c, rfl, hc, hm⟩ := hv.shape
    rw [h, rootL, if_pos h]
    refine (rroot_none w).mono ?_
    rintro e w' ⟨v', rfl, h1, h2⟩
    exact ⟨_, rfl, Sl.of_own h1, h2⟩
  · exact rroot_some w hv hb0 hf h
end Go.Proofs.Ytjoljmkedghcbaa
