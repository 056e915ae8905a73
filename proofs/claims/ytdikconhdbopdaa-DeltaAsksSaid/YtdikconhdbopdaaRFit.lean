/-
  The reference's Fit. No condition but that what comes in can be read.
-/
import Derived.Test.YtdikconhdbopdaaFitL
import Derived.Test.YtdikconhdbopdaaMerLevels
namespace Go.Proofs.Ytdikconhdbopdaa
open Go.RowKit
set_option linter.unusedVariables false
set_option linter.unusedSimpArgs false

/-- Bytes cut, and filled up with so many noughts. -/
def fitN (data : List UInt8) (n j : Nat) : List UInt8 := data.take n ++ List.replicate j 0
theorem fitN_succ (data : List UInt8) (n j : Nat) : fitN data n j ++ [0] = fitN data n (j + 1) := by simp [fitN, List.replicate_succ']
theorem fitN_length (data : List UInt8) (n j : Nat) : (fitN data n j).length = min n data.length + j := by simp [fitN]
theorem fitN_all (data : List UInt8) (n j : Nat) (h : min n data.length + j = n) : fitN data n j = fitL data n := by
  unfold fitN fitL
  congr 2
  omega

set_option maxHeartbeats 2000000 in
theorem rfit_at {e0 b0 : Nat} {A : Option Addr} {c : Nat} {data : List UInt8} (n : Nat) (w : World) (hv : Sl bv e0 w b0 (.slice A data.length c) data) (hn : n ≤ 1000000) (hd : data.length ≤ 1000000) :
    Calls Try.prog 35 #[.slice A data.length c, .int .i64 n] w fun e w' => ∃ v', e = .returned v' ∧ w'.ownsRow w.heap.size 5 1 v' (fitL data n).length ((fitL data n).map bv) ∧ Below w.heap.size w w' := by
  have hcut : Aside0 (Sl bv e0 w b0 (.slice A (min data.length n) c) (data.take n)) := ⟨by
    rcases A with _ | ad
    · obtain ⟨A', c', h1, h2, h3, h4⟩ := hv
      cases h1
      have h0 : data = [] := by
        cases data with
        | nil => rfl
        | cons x xs => obtain ⟨ad, h1, _⟩ := h4.cell 0 _ rfl; cases h1
      subst h0
      exact ⟨none, c, by simp, by simp, by simp, by simpa using h4⟩
    · have h2 := hv.head (min data.length n) (Nat.min_le_left _ _)
      have e1 : data.take (min data.length n) = data.take n := by rw [List.take_eq_take_iff]; omega
      rwa [e1] at h2⟩
  obtain ⟨A', c', h1, hc, hm, _⟩ := hv
  cases h1
  have hdl : ((data.take n).length) = min data.length n := by rw [List.length_take]; omega
  have HDL := Aside0.mk hdl
  have HF0 := Aside0.mk (show fitN data n 0 = [] ++ data.take n by simp [fitN])
  clear hdl
  by_cases hnd : data.length < n
  · have e1 : min data.length n = data.length := by omega
    rw [e1] at hcut HDL
    have HE1 := Aside0.mk e1
    clear e1
    go_enter Try.func35, Try.ntmps35
    go_wp2_with (at_builtin; go_must (refine append_row bv (fun _ => rfl) rfl (.tmp 6) (.tmp 12) 22 rfl w.heap.size 5 _ _ _ _ Try.underlying22 info_u8 rfl (by decide) _ [] (data.take n) _ rfl rfl (World.ownsRow_made w #[] 0 (Nat.le_refl _) (by decide) rfl) (hcut.out.below ((Below.refl _ _).alloc (Nat.le_refl _) _)) (by rw [HDL.out]; simp; omega) (by simp) ?_); intro v1 w1 hown hg _)
    have H1 := Aside0.mk (show OwnB w1 w.heap.size v1 (fitN data n 0) ∧ Below w.heap.size w w1 from ⟨by rw [HF0.out]; exact hown, ((Below.refl _ _).alloc (Nat.le_refl _) _).grown hg (by simp) (fun k hk => by cases hk; exact Nat.le_refl _)⟩)
    obtain ⟨A1, c1, rfl, _⟩ := Sl.of_own (b := 0) H1.out.1
    have hl0 := fitN_length data n 0
    obtain ⟨m0, hm0⟩ : ∃ m, (fitN data n 0).length = m := ⟨_, rfl⟩
    rw [hm0] at H1 hl0 ⊢
    have HL0 := Aside0.mk hl0
    have hm0n : m0 ≤ n := by omega
    clear hown hg hm0 hl0
    go_loopw [5] (fun v wr => ∃ (j m : Nat) (A : Option Addr) (c : Nat), v = .slice A m c ∧ m ≤ n ∧ Aside0 (m = min n data.length + j) ∧ Aside0 (OwnB wr w.heap.size v (fitN data n j) ∧ Below w.heap.size w wr)) (fun v wr => n - lenOf v)
    case atStart => exact ⟨0, m0, A1, c1, rfl, hm0n, ⟨HL0.out⟩, H1⟩
    case round =>
      obtain ⟨j, m, A2, c2, rfl, hmn, hmj, hs⟩ := hrel
      clear H1
      by_cases hlt : m < n
      · have HLJ := Aside0.mk (fitN_length data n j)
        go_wp2_with (at_builtin; go_must (refine append_row bv (fun _ => rfl) rfl (.tmp 18) (.tmp 19) 22 rfl w.heap.size 5 5 0 _ _ Try.underlying22 info_u8 rfl (by decide) _ (fitN data n j) [0] _ rfl rfl (own_below hs.out.1 ((Below.refl _ _).alloc (Nat.le_refl _) _)) (Sl.at (cur := #[.int .u8 0]) (fr := (0, 0)) (heap_new rfl) rfl rfl (by decide) (by decide)) (by rw [HLJ.out]; have := hmj.out; simp; omega) (by have := hs.out.2.size; simp; omega) ?_); intro v3 w3 hown3 hg3 _)
        have H3 := Aside0.mk (show OwnB w3 w.heap.size v3 (fitN data n (j + 1)) ∧ Below w.heap.size w w3 from ⟨by rw [← fitN_succ]; exact hown3, (hs.out.2.alloc hs.out.2.size _).grown hg3 (by have := hs.out.2.size; simp; omega) (own_base hs.out.1)⟩)
        obtain ⟨A3, c3, rfl, _⟩ := Sl.of_own (b := 0) H3.out.1
        have hl3 := fitN_length data n (j + 1)
        obtain ⟨m3, hm3⟩ : ∃ m, (fitN data n (j + 1)).length = m := ⟨_, rfl⟩
        rw [hm3] at H3 hl3 ⊢
        have hmj' := hmj.out
        clear hown3 hg3 hm3
        go_roundw
        case rel => exact ⟨j + 1, m3, A3, c3, rfl, by omega, ⟨by omega⟩, H3⟩
        case measure => simp [lenOf]; omega
      · have HE : Aside0 (fitN data n j = fitL data n) := ⟨fitN_all data n j (by have := hmj.out; omega)⟩
        rw [HE.out] at hs
        clear hmj
        go_wp2_with fail
        go_ret
        exact ⟨_, rfl, hs.out.1, hs.out.2⟩
  · by_cases hnd2 : n < data.length
    · have e1 : min data.length n = n := by omega
      rw [e1] at hcut HDL
      have HE1 := Aside0.mk e1
      clear e1 hnd
      go_enter Try.func35, Try.ntmps35
      go_wp2_with (at_builtin; go_must (refine append_row bv (fun _ => rfl) rfl (.tmp 6) (.tmp 12) 22 rfl w.heap.size 5 _ _ _ _ Try.underlying22 info_u8 rfl (by decide) _ [] (data.take n) _ rfl rfl (World.ownsRow_made w #[] 0 (Nat.le_refl _) (by decide) rfl) (hcut.out.below ((Below.refl _ _).alloc (Nat.le_refl _) _)) (by rw [HDL.out]; simp; omega) (by simp) ?_); intro v1 w1 hown hg _)
      have H1 := Aside0.mk (show OwnB w1 w.heap.size v1 (fitN data n 0) ∧ Below w.heap.size w w1 from ⟨by rw [HF0.out]; exact hown, ((Below.refl _ _).alloc (Nat.le_refl _) _).grown hg (by simp) (fun k hk => by cases hk; exact Nat.le_refl _)⟩)
      obtain ⟨A1, c1, rfl, _⟩ := Sl.of_own (b := 0) H1.out.1
      have hl0 := fitN_length data n 0
      obtain ⟨m0, hm0⟩ : ∃ m, (fitN data n 0).length = m := ⟨_, rfl⟩
      rw [hm0] at H1 hl0 ⊢
      have HL0 := Aside0.mk hl0
      have hm0n : m0 ≤ n := by omega
      clear hown hg hm0 hl0
      go_loopw [5] (fun v wr => ∃ (j m : Nat) (A : Option Addr) (c : Nat), v = .slice A m c ∧ m ≤ n ∧ Aside0 (m = min n data.length + j) ∧ Aside0 (OwnB wr w.heap.size v (fitN data n j) ∧ Below w.heap.size w wr)) (fun v wr => n - lenOf v)
      case atStart => exact ⟨0, m0, A1, c1, rfl, hm0n, ⟨HL0.out⟩, H1⟩
      case round =>
        obtain ⟨j, m, A2, c2, rfl, hmn, hmj, hs⟩ := hrel
        clear H1
        by_cases hlt : m < n
        · have HLJ := Aside0.mk (fitN_length data n j)
          go_wp2_with (at_builtin; go_must (refine append_row bv (fun _ => rfl) rfl (.tmp 18) (.tmp 19) 22 rfl w.heap.size 5 5 0 _ _ Try.underlying22 info_u8 rfl (by decide) _ (fitN data n j) [0] _ rfl rfl (own_below hs.out.1 ((Below.refl _ _).alloc (Nat.le_refl _) _)) (Sl.at (cur := #[.int .u8 0]) (fr := (0, 0)) (heap_new rfl) rfl rfl (by decide) (by decide)) (by rw [HLJ.out]; have := hmj.out; simp; omega) (by have := hs.out.2.size; simp; omega) ?_); intro v3 w3 hown3 hg3 _)
          have H3 := Aside0.mk (show OwnB w3 w.heap.size v3 (fitN data n (j + 1)) ∧ Below w.heap.size w w3 from ⟨by rw [← fitN_succ]; exact hown3, (hs.out.2.alloc hs.out.2.size _).grown hg3 (by have := hs.out.2.size; simp; omega) (own_base hs.out.1)⟩)
          obtain ⟨A3, c3, rfl, _⟩ := Sl.of_own (b := 0) H3.out.1
          have hl3 := fitN_length data n (j + 1)
          obtain ⟨m3, hm3⟩ : ∃ m, (fitN data n (j + 1)).length = m := ⟨_, rfl⟩
          rw [hm3] at H3 hl3 ⊢
          have hmj' := hmj.out
          clear hown3 hg3 hm3
          go_roundw
          case rel => exact ⟨j + 1, m3, A3, c3, rfl, by omega, ⟨by omega⟩, H3⟩
          case measure => simp [lenOf]; omega
        · have HE : Aside0 (fitN data n j = fitL data n) := ⟨fitN_all data n j (by have := hmj.out; omega)⟩
          rw [HE.out] at hs
          clear hmj
          go_wp2_with fail
          go_ret
          exact ⟨_, rfl, hs.out.1, hs.out.2⟩
    · have e1 : min data.length n = data.length := by omega
      rw [e1] at hcut HDL
      have HE1 := Aside0.mk e1
      clear e1 hnd
      go_enter Try.func35, Try.ntmps35
      go_wp2_with (at_builtin; go_must (refine append_row bv (fun _ => rfl) rfl (.tmp 6) (.tmp 12) 22 rfl w.heap.size 5 _ _ _ _ Try.underlying22 info_u8 rfl (by decide) _ [] (data.take n) _ rfl rfl (World.ownsRow_made w #[] 0 (Nat.le_refl _) (by decide) rfl) (hcut.out.below ((Below.refl _ _).alloc (Nat.le_refl _) _)) (by rw [HDL.out]; simp; omega) (by simp) ?_); intro v1 w1 hown hg _)
      have H1 := Aside0.mk (show OwnB w1 w.heap.size v1 (fitN data n 0) ∧ Below w.heap.size w w1 from ⟨by rw [HF0.out]; exact hown, ((Below.refl _ _).alloc (Nat.le_refl _) _).grown hg (by simp) (fun k hk => by cases hk; exact Nat.le_refl _)⟩)
      obtain ⟨A1, c1, rfl, _⟩ := Sl.of_own (b := 0) H1.out.1
      have hl0 := fitN_length data n 0
      obtain ⟨m0, hm0⟩ : ∃ m, (fitN data n 0).length = m := ⟨_, rfl⟩
      rw [hm0] at H1 hl0 ⊢
      have HL0 := Aside0.mk hl0
      have hm0n : m0 ≤ n := by omega
      clear hown hg hm0 hl0
      go_loopw [5] (fun v wr => ∃ (j m : Nat) (A : Option Addr) (c : Nat), v = .slice A m c ∧ m ≤ n ∧ Aside0 (m = min n data.length + j) ∧ Aside0 (OwnB wr w.heap.size v (fitN data n j) ∧ Below w.heap.size w wr)) (fun v wr => n - lenOf v)
      case atStart => exact ⟨0, m0, A1, c1, rfl, hm0n, ⟨HL0.out⟩, H1⟩
      case round =>
        obtain ⟨j, m, A2, c2, rfl, hmn, hmj, hs⟩ := hrel
        clear H1
        by_cases hlt : m < n
        · have HLJ := Aside0.mk (fitN_length data n j)
          go_wp2_with (at_builtin; go_must (refine append_row bv (fun _ => rfl) rfl (.tmp 18) (.tmp 19) 22 rfl w.heap.size 5 5 0 _ _ Try.underlying22 info_u8 rfl (by decide) _ (fitN data n j) [0] _ rfl rfl (own_below hs.out.1 ((Below.refl _ _).alloc (Nat.le_refl _) _)) (Sl.at (cur := #[.int .u8 0]) (fr := (0, 0)) (heap_new rfl) rfl rfl (by decide) (by decide)) (by rw [HLJ.out]; have := hmj.out; simp; omega) (by have := hs.out.2.size; simp; omega) ?_); intro v3 w3 hown3 hg3 _)
          have H3 := Aside0.mk (show OwnB w3 w.heap.size v3 (fitN data n (j + 1)) ∧ Below w.heap.size w w3 from ⟨by rw [← fitN_succ]; exact hown3, (hs.out.2.alloc hs.out.2.size _).grown hg3 (by have := hs.out.2.size; simp; omega) (own_base hs.out.1)⟩)
          obtain ⟨A3, c3, rfl, _⟩ := Sl.of_own (b := 0) H3.out.1
          have hl3 := fitN_length data n (j + 1)
          obtain ⟨m3, hm3⟩ : ∃ m, (fitN data n (j + 1)).length = m := ⟨_, rfl⟩
          rw [hm3] at H3 hl3 ⊢
          have hmj' := hmj.out
          clear hown3 hg3 hm3
          go_roundw
          case rel => exact ⟨j + 1, m3, A3, c3, rfl, by omega, ⟨by omega⟩, H3⟩
          case measure => simp [lenOf]; omega
        · have HE : Aside0 (fitN data n j = fitL data n) := ⟨fitN_all data n j (by have := hmj.out; omega)⟩
          rw [HE.out] at hs
          clear hmj
          go_wp2_with fail
          go_ret
          exact ⟨_, rfl, hs.out.1, hs.out.2⟩
theorem rfit_calls {e0 b0 : Nat} {v : Value} {data : List UInt8} (n : Nat) (w : World) (hv : Sl bv e0 w b0 v data) (hn : n ≤ 1000000) (hd : data.length ≤ 1000000) :
    Calls Try.prog 35 #[v, .int .i64 n] w fun e w' => ∃ v', e = .returned v' ∧ w'.ownsRow w.heap.size 5 1 v' (fitL data n).length ((fitL data n).map bv) ∧ Below w.heap.size w w' := by
  obtain ⟨A, c, rfl, _⟩ := id hv
  exact rfit_at n w hv hn hd
end Go.Proofs.Ytdikconhdbopdaa
