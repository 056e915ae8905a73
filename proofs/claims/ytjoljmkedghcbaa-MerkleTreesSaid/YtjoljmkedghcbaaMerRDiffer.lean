/-
  The reference's Differ; two lists of numbers. No condition but that both can be read.
-/
import Derived.Test.YtjoljmkedghcbaaMerDiffer
namespace Go.Proofs.Ytjoljmkedghcbaa
open Go.RowKit
set_option linter.unusedVariables false
set_option linter.unusedSimpArgs false

set_option maxHeartbeats 4000000 in
theorem rdiffer_calls {b1 b2 : Nat} {va vb : Value} {a b : List (List UInt8)} (w : World) (ha : SlL w b1 va a) (hb : SlL w b2 vb b) (hla : a.length ≤ 1000000000) (hlb : b.length ≤ 1000000000) :
    Calls Try.prog 27 #[va, vb] w fun e w' => ∃ v', e = .returned v' ∧ OwnI w' w.heap.size v' (differL a b) ∧ Below w.heap.size w w' := by
  have HA := Aside0.mk ha
  have HB := Aside0.mk hb
  obtain ⟨A, c, rfl, hc, hm⟩ := ha.shape
  obtain ⟨A', c', rfl, hc', hm'⟩ := hb.shape
  clear ha hb
  rcases Nat.lt_or_ge a.length b.length with hab | hab
  · have HM : Aside0 (max a.length b.length = b.length) := ⟨by omega⟩
    have hab2 : ¬ b.length ≤ a.length := by omega
    go_enter Try.func27, Try.ntmps27
    go_wp2_with fail
    go_loopw [5, 6] (fun v i wr => ∃ n : Nat, n ≤ b.length ∧ i = .int .i64 n ∧ Aside0 (OwnI wr w.heap.size v (difTo a b n) ∧ Below w.heap.size w wr)) (fun v i wr => b.length - (intOf i).toNat)
    case atStart => exact ⟨0, by omega, rfl, ⟨World.ownsRow_nil _ _ _ _, Below.refl _ _⟩⟩
    case round =>
      obtain ⟨n, hn, rfl, hs⟩ := hrel
      have HS := Aside0.mk (difTo_succ a b n)
      have HL := Aside0.mk (difTo_length a b n)
      by_cases hlt : n < b.length
      · by_cases h1 : a.length ≤ n
        · have d1 : decide (a.length ≤ n) = true := decide_eq_true h1
          have HD := Aside0.mk (show difAt a b n = true by unfold difAt; rw [d1]; rfl)
          go_wp2_with fail
          go_quiet ((go_at_call 35; exact Calls.quiet_of_same (equal_same _ (HX.out.1.below (below_drewN (Below.refl _ _) _)) (HX.out.2.below (below_drewN (Below.refl _ _) _)))))
          go_wp2_with (at_builtin; go_must (refine append_int rfl rfl (.tmp 39) (.tmp 41) rfl w.heap.size _ (difTo a b n) _ _ 1 3 (0, 0) rfl rfl (own_below hs.out.1 (by first | exact ((Below.refl _ _).drew).alloc (by simp) _ | exact (below_drewN (Below.refl _ _) _).alloc (by simp) _)) (heap_new rfl) (by have := HL.out; omega) (by have := hs.out.2.size; simp; omega) ?_); intro v3 w3 hl3 hg3)
          have H3 := Aside0.mk (show OwnI w3 w.heap.size v3 (difTo a b (n + 1)) ∧ Below w.heap.size w w3 from ⟨by rw [HS.out, HD.out, if_pos rfl]; exact hl3, (below_step hs.out.2 (by first | exact ((Below.refl _ _).drew).alloc (by simp) _ | exact (below_drewN (Below.refl _ _) _).alloc (by simp) _)).grown hg3 (by have := hs.out.2.size; simp; omega) (own_base hs.out.1)⟩)
          clear hl3 hg3
          go_roundw
          case rel => exact ⟨n + 1, by omega, by go_num, H3⟩
          case measure => simp [intOf]; omega
        · have d1 : decide (a.length ≤ n) = false := decide_eq_false h1
          by_cases h2 : b.length ≤ n
          · omega
          · have d2 : decide (b.length ≤ n) = false := decide_eq_false h2
            obtain ⟨ad, c3, u, A3, cu, he, hu, hcell, hsl⟩ := (HA.out.below hs.out.2).at n (by omega)
            cases he
            subst hu
            obtain ⟨ad', c4, u', A4, cu', he, hu, hcell', hsl'⟩ := (HB.out.below hs.out.2).at n (by omega)
            cases he
            subst hu
            have HD0 : Aside0 (difAt a b n = (a.getD n [] != b.getD n [])) := ⟨by unfold difAt; rw [d1, d2]; rfl⟩
            obtain ⟨x, hx⟩ : ∃ x, x = a.getD n [] := ⟨_, rfl⟩
            obtain ⟨y, hy⟩ : ∃ y, y = b.getD n [] := ⟨_, rfl⟩
            rw [← hx] at hcell hsl HD0
            rw [← hy] at hcell' hsl' HD0
            have HX := Aside0.mk (And.intro hsl hsl')
            clear hx hy hsl hsl'
            have z1 : (0 : Int) ≤ (n : Int) := by omega
            have z2 : (n : Int) < a.length := by omega
            have z3 : (n : Int) < b.length := by omega
            have k1 : ∀ n, (convert 22 9 (.slice A3 x.length cu)).run Try.prog (wr.drewN n) = .ok (.string (str x)) (wr.drewN n) := fun n => (HX.out.1.below (below_drewN (Below.refl _ _) n)).string (P := Try.prog) Try.underlying22 Try.underlying5 Try.underlying9
            have k2 : ∀ n, (convert 22 9 (.slice A4 y.length cu')).run Try.prog (wr.drewN n) = .ok (.string (str y)) (wr.drewN n) := fun n => (HX.out.2.below (below_drewN (Below.refl _ _) n)).string (P := Try.prog) Try.underlying22 Try.underlying5 Try.underlying9
            rcases hxy : (x == y) with _ | _
            · have HD : Aside0 (difAt a b n = true) := ⟨by rw [HD0.out, bne, hxy]; rfl⟩
              have h3 : ((str x).toList != (str y).toList) = true := by rw [str_toList, str_toList, bne, hxy]; rfl
              have h4 : ((str x).toList == (str y).toList) = false := by rw [str_toList, str_toList, hxy]
              clear hxy
              go_wp2_with fail
              go_quiet ((go_at_call 35; exact Calls.quiet_of_same (equal_same _ (HX.out.1.below (below_drewN (Below.refl _ _) _)) (HX.out.2.below (below_drewN (Below.refl _ _) _)))))
              go_wp2_with (at_builtin; go_must (refine append_int rfl rfl (.tmp 39) (.tmp 41) rfl w.heap.size _ (difTo a b n) _ _ 1 3 (0, 0) rfl rfl (own_below hs.out.1 (by first | exact ((Below.refl _ _).drew).alloc (by simp) _ | exact (below_drewN (Below.refl _ _) _).alloc (by simp) _)) (heap_new rfl) (by have := HL.out; omega) (by have := hs.out.2.size; simp; omega) ?_); intro v3 w3 hl3 hg3)
              have H3 := Aside0.mk (show OwnI w3 w.heap.size v3 (difTo a b (n + 1)) ∧ Below w.heap.size w w3 from ⟨by rw [HS.out, HD.out, if_pos rfl]; exact hl3, (below_step hs.out.2 (by first | exact ((Below.refl _ _).drew).alloc (by simp) _ | exact (below_drewN (Below.refl _ _) _).alloc (by simp) _)).grown hg3 (by have := hs.out.2.size; simp; omega) (own_base hs.out.1)⟩)
              clear hl3 hg3
              go_roundw
              case rel => exact ⟨n + 1, by omega, by go_num, H3⟩
              case measure => simp [intOf]; omega
            · have HD : Aside0 (difAt a b n = false) := ⟨by rw [HD0.out, bne, hxy]; rfl⟩
              have h3 : ((str x).toList != (str y).toList) = false := by rw [str_toList, str_toList, bne, hxy]; rfl
              have h4 : ((str x).toList == (str y).toList) = true := by rw [str_toList, str_toList, hxy]
              clear hxy
              go_wp2_with fail
              go_quiet ((go_at_call 35; exact Calls.quiet_of_same (equal_same _ (HX.out.1.below (below_drewN (Below.refl _ _) _)) (HX.out.2.below (below_drewN (Below.refl _ _) _)))))
              go_wp2_with fail
              go_roundw
              case rel => exact ⟨n + 1, by omega, by go_num, ⟨by rw [HS.out, HD.out, if_neg (by decide), List.append_nil]; exact own_below hs.out.1 (by first | exact (Below.refl _ _).drew | exact below_drewN (Below.refl _ _) _), below_step hs.out.2 (by first | exact (Below.refl _ _).drew | exact below_drewN (Below.refl _ _) _)⟩⟩
              case measure => simp [intOf]; omega
      · have HE : Aside0 (OwnI wr w.heap.size u5 (differL a b) ∧ Below w.heap.size w wr) := ⟨by
          rw [differL, HM.out, show b.length = n by omega]
          exact hs.out⟩
        clear hs
        go_wp2_with fail
        go_ret
        exact ⟨_, rfl, HE.out.1, HE.out.2⟩
  · have HM : Aside0 (max a.length b.length = a.length) := ⟨by omega⟩
    have hab2 : ¬ a.length < b.length := by omega
    go_enter Try.func27, Try.ntmps27
    go_wp2_with fail
    go_loopw [5, 6] (fun v i wr => ∃ n : Nat, n ≤ a.length ∧ i = .int .i64 n ∧ Aside0 (OwnI wr w.heap.size v (difTo a b n) ∧ Below w.heap.size w wr)) (fun v i wr => a.length - (intOf i).toNat)
    case atStart => exact ⟨0, by omega, rfl, ⟨World.ownsRow_nil _ _ _ _, Below.refl _ _⟩⟩
    case round =>
      obtain ⟨n, hn, rfl, hs⟩ := hrel
      have HS := Aside0.mk (difTo_succ a b n)
      have HL := Aside0.mk (difTo_length a b n)
      by_cases hlt : n < a.length
      · by_cases h1 : a.length ≤ n
        · omega
        · have d1 : decide (a.length ≤ n) = false := decide_eq_false h1
          by_cases h2 : b.length ≤ n
          · have d2 : decide (b.length ≤ n) = true := decide_eq_true h2
            have HD := Aside0.mk (show difAt a b n = true by unfold difAt; rw [d2, Bool.true_or, Bool.or_true])
            go_wp2_with fail
            go_quiet ((go_at_call 35; exact Calls.quiet_of_same (equal_same _ (HX.out.1.below (below_drewN (Below.refl _ _) _)) (HX.out.2.below (below_drewN (Below.refl _ _) _)))))
            go_wp2_with (at_builtin; go_must (refine append_int rfl rfl (.tmp 39) (.tmp 41) rfl w.heap.size _ (difTo a b n) _ _ 1 3 (0, 0) rfl rfl (own_below hs.out.1 (by first | exact ((Below.refl _ _).drew).alloc (by simp) _ | exact (below_drewN (Below.refl _ _) _).alloc (by simp) _)) (heap_new rfl) (by have := HL.out; omega) (by have := hs.out.2.size; simp; omega) ?_); intro v3 w3 hl3 hg3)
            have H3 := Aside0.mk (show OwnI w3 w.heap.size v3 (difTo a b (n + 1)) ∧ Below w.heap.size w w3 from ⟨by rw [HS.out, HD.out, if_pos rfl]; exact hl3, (below_step hs.out.2 (by first | exact ((Below.refl _ _).drew).alloc (by simp) _ | exact (below_drewN (Below.refl _ _) _).alloc (by simp) _)).grown hg3 (by have := hs.out.2.size; simp; omega) (own_base hs.out.1)⟩)
            clear hl3 hg3
            go_roundw
            case rel => exact ⟨n + 1, by omega, by go_num, H3⟩
            case measure => simp [intOf]; omega
          · have d2 : decide (b.length ≤ n) = false := decide_eq_false h2
            obtain ⟨ad, c3, u, A3, cu, he, hu, hcell, hsl⟩ := (HA.out.below hs.out.2).at n (by omega)
            cases he
            subst hu
            obtain ⟨ad', c4, u', A4, cu', he, hu, hcell', hsl'⟩ := (HB.out.below hs.out.2).at n (by omega)
            cases he
            subst hu
            have HD0 : Aside0 (difAt a b n = (a.getD n [] != b.getD n [])) := ⟨by unfold difAt; rw [d1, d2]; rfl⟩
            obtain ⟨x, hx⟩ : ∃ x, x = a.getD n [] := ⟨_, rfl⟩
            obtain ⟨y, hy⟩ : ∃ y, y = b.getD n [] := ⟨_, rfl⟩
            rw [← hx] at hcell hsl HD0
            rw [← hy] at hcell' hsl' HD0
            have HX := Aside0.mk (And.intro hsl hsl')
            clear hx hy hsl hsl'
            have z1 : (0 : Int) ≤ (n : Int) := by omega
            have z2 : (n : Int) < a.length := by omega
            have z3 : (n : Int) < b.length := by omega
            have k1 : ∀ n, (convert 22 9 (.slice A3 x.length cu)).run Try.prog (wr.drewN n) = .ok (.string (str x)) (wr.drewN n) := fun n => (HX.out.1.below (below_drewN (Below.refl _ _) n)).string (P := Try.prog) Try.underlying22 Try.underlying5 Try.underlying9
            have k2 : ∀ n, (convert 22 9 (.slice A4 y.length cu')).run Try.prog (wr.drewN n) = .ok (.string (str y)) (wr.drewN n) := fun n => (HX.out.2.below (below_drewN (Below.refl _ _) n)).string (P := Try.prog) Try.underlying22 Try.underlying5 Try.underlying9
            rcases hxy : (x == y) with _ | _
            · have HD : Aside0 (difAt a b n = true) := ⟨by rw [HD0.out, bne, hxy]; rfl⟩
              have h3 : ((str x).toList != (str y).toList) = true := by rw [str_toList, str_toList, bne, hxy]; rfl
              have h4 : ((str x).toList == (str y).toList) = false := by rw [str_toList, str_toList, hxy]
              clear hxy
              go_wp2_with fail
              go_quiet ((go_at_call 35; exact Calls.quiet_of_same (equal_same _ (HX.out.1.below (below_drewN (Below.refl _ _) _)) (HX.out.2.below (below_drewN (Below.refl _ _) _)))))
              go_wp2_with (at_builtin; go_must (refine append_int rfl rfl (.tmp 39) (.tmp 41) rfl w.heap.size _ (difTo a b n) _ _ 1 3 (0, 0) rfl rfl (own_below hs.out.1 (by first | exact ((Below.refl _ _).drew).alloc (by simp) _ | exact (below_drewN (Below.refl _ _) _).alloc (by simp) _)) (heap_new rfl) (by have := HL.out; omega) (by have := hs.out.2.size; simp; omega) ?_); intro v3 w3 hl3 hg3)
              have H3 := Aside0.mk (show OwnI w3 w.heap.size v3 (difTo a b (n + 1)) ∧ Below w.heap.size w w3 from ⟨by rw [HS.out, HD.out, if_pos rfl]; exact hl3, (below_step hs.out.2 (by first | exact ((Below.refl _ _).drew).alloc (by simp) _ | exact (below_drewN (Below.refl _ _) _).alloc (by simp) _)).grown hg3 (by have := hs.out.2.size; simp; omega) (own_base hs.out.1)⟩)
              clear hl3 hg3
              go_roundw
              case rel => exact ⟨n + 1, by omega, by go_num, H3⟩
              case measure => simp [intOf]; omega
            · have HD : Aside0 (difAt a b n = false) := ⟨by rw [HD0.out, bne, hxy]; rfl⟩
              have h3 : ((str x).toList != (str y).toList) = false := by rw [str_toList, str_toList, bne, hxy]; rfl
              have h4 : ((str x).toList == (str y).toList) = true := by rw [str_toList, str_toList, hxy]
              clear hxy
              go_wp2_with fail
              go_quiet ((go_at_call 35; exact Calls.quiet_of_same (equal_same _ (HX.out.1.below (below_drewN (Below.refl _ _) _)) (HX.out.2.below (below_drewN (Below.refl _ _) _)))))
              go_wp2_with fail
              go_roundw
              case rel => exact ⟨n + 1, by omega, by go_num, ⟨by rw [HS.out, HD.out, if_neg (by decide), List.append_nil]; exact own_below hs.out.1 (by first | exact (Below.refl _ _).drew | exact below_drewN (Below.refl _ _) _), below_step hs.out.2 (by first | exact (Below.refl _ _).drew | exact below_drewN (Below.refl _ _) _)⟩⟩
              case measure => simp [intOf]; omega
      · have HE : Aside0 (OwnI wr w.heap.size u5 (differL a b) ∧ Below w.heap.size w wr) := ⟨by
          rw [differL, HM.out, show a.length = n by omega]
          exact hs.out⟩
        clear hs
        go_wp2_with fail
        go_ret
        exact ⟨_, rfl, HE.out.1, HE.out.2⟩
end Go.Proofs.Ytjoljmkedghcbaa
