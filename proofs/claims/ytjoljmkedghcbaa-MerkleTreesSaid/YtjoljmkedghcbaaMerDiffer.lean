/-
  merkle.Differ: where two lists differ. No condition but that both can be read.
-/
import Derived.Test.YtjoljmkedghcbaaMerPure
import Derived.Test.YtjoljmkedghcbaaMerWords
import Derived.Test.YtjoljmkedghcbaaBytesEq
namespace Go.Proofs.Ytjoljmkedghcbaa
open Go.RowKit
set_option linter.unusedVariables false
set_option linter.unusedSimpArgs false

theorem info_int : (Try.prog.info? 3).map (fun i => (i.zero, i.size, i.bytes)) = some (some (.int .i64 0), 1, 8) := by kernel_rfl
theorem equal_same {e e' : Nat} {base base' : Nat} {v v' : Value} {x y : List UInt8} (w : World) (hx : Sl bv e w base v x) (hy : Sl bv e' w base' v' y) :
    Calls Try.prog 35 #[v, v'] w fun e w' => e = .returned (.bool (x == y)) ∧ w' = w := (equal_calls w hx hy).mono fun _ _ ⟨h1, h2⟩ => ⟨h1, h2.symm⟩
/-- Numbers of the call's own. -/
def OwnI (w : World) (base : Nat) (v : Value) (l : List Int) : Prop := w.ownsRow base 3 1 v l.length (l.map iv)
theorem append_int {P : Program} {ops : Array Oper} {rest : List Oper} {o : Oper} {a : Act} {Q : Exit → Act → World → Prop} {w : World} (hP : P = Try.prog) (hgd : o.guard = none) (s x : Operand)
    (ho : o.op = .call { callee := .builtin .append, args := #[s, x], argTypes := #[43, 43] })
    (base : Nat) (v : Value) (xs : List Int) (n : Int) (g c e0 : Nat) (fr : Nat × Nat) (hs : a.eval s = v) (hx : a.eval x = .slice (some ⟨g, 0, none⟩) 1 c) (hown : OwnI w base v xs) (hu : w.heap[g]? = some (.cells #[.int .i64 n] e0 fr))
    (hbytes : (xs.length + 1) * 8 ≤ 140737488355328) (hbase : base ≤ w.heap.size)
    (h : ∀ v' w', OwnI w' base v' (xs ++ [n]) → w.grownBy w' v.ownBlock → wpList P ops Q rest (a.put o.dst v') w') : wpList P ops Q (o :: rest) a w := by
  subst hP
  refine append_one hgd s x 43 ho base 3 _ _ Try.underlying43 info_int rfl (by decide) v (xs.map iv) (.int .i64 n) rfl g c e0 fr hs hx (by rw [List.length_map]; exact hown) hu (by rw [List.length_map]; exact hbytes) hbase ?_
  intro v' w' h1 h2 _
  refine h v' w' ?_ h2
  unfold OwnI
  simpa [iv] using h1

set_option maxHeartbeats 4000000 in
theorem differ_calls {b1 b2 : Nat} {va vb : Value} {a b : List (List UInt8)} (w : World) (ha : SlL w b1 va a) (hb : SlL w b2 vb b) (hla : a.length ≤ 1000000000) (hlb : b.length ≤ 1000000000) :
    Calls Try.prog 26 #[va, vb] w fun e w' => ∃ v', e = .returned v' ∧ OwnI w' w.heap.size v' (differL a b) ∧ Below w.heap.size w w' := by
  have HA := Aside0.mk ha
  have HB := Aside0.mk hb
  obtain ⟨A, c, rfl, hc, hm⟩ := ha.shape
  obtain ⟨A', c', rfl, hc', hm'⟩ := hb.shape
  clear ha hb
  rcases Nat.lt_or_ge a.length b.length with hab | hab
  · have HM : Aside0 (max a.length b.length = b.length) := ⟨by omega⟩
    have hab2 : ¬ b.length ≤ a.length := by omega
    go_enter Try.func26, Try.ntmps26
    go_wp2_with fail
    go_loopw [4, 11] (fun v i wr => ∃ n : Nat, n ≤ b.length ∧ i = .int .i64 n ∧ Aside0 (OwnI wr w.heap.size v (difTo a b n) ∧ Below w.heap.size w wr)) (fun v i wr => b.length - (intOf i).toNat)
    case atStart => exact ⟨0, by omega, rfl, ⟨World.ownsRow_nil _ _ _ _, Below.refl _ _⟩⟩
    case round =>
      obtain ⟨n, hn, rfl, hs⟩ := hrel
      have HS := Aside0.mk (difTo_succ a b n)
      have HL := Aside0.mk (difTo_length a b n)
      by_cases hlt : n < b.length
      · by_cases h1 : a.length ≤ n
        · have d1 : decide (a.length ≤ n) = true := decide_eq_true h1
          have HD := Aside0.mk (show difAt a b n = true by unfold difAt; rw [d1]; rfl)
          go_wp2_with fail
          go_quiet (fail)
          go_wp2_with (at_builtin; go_must (refine append_int rfl rfl (.tmp 36) (.tmp 38) rfl w.heap.size _ (difTo a b n) _ _ 1 3 (0, 0) rfl rfl (own_below hs.out.1 (by first | exact ((Below.refl _ _).drew).alloc (by simp) _ | exact (below_drewN (Below.refl _ _) _).alloc (by simp) _)) (heap_new rfl) (by have := HL.out; omega) (by have := hs.out.2.size; simp; omega) ?_); intro v3 w3 hl3 hg3)
          have H3 := Aside0.mk (show OwnI w3 w.heap.size v3 (difTo a b (n + 1)) ∧ Below w.heap.size w w3 from ⟨by rw [HS.out, HD.out, if_pos rfl]; exact hl3, (below_step hs.out.2 (by first | exact ((Below.refl _ _).drew).alloc (by simp) _ | exact (below_drewN (Below.refl _ _) _).alloc (by simp) _)).grown hg3 (by have := hs.out.2.size; simp; omega) (own_base hs.out.1)⟩)
          clear hl3 hg3
          go_roundw
          case rel => exact ⟨n + 1, by omega, by go_num, H3⟩
          case measure => simp [intOf]; omega
        · have d1 : decide (a.length ≤ n) = false := decide_eq_false h1
          by_cases h2 : b.length ≤ n
          · omega
          · have d2 : decide (b.length ≤ n) = false := decide_eq_false h2
            obtain ⟨ad, c3, u, A3, cu, he, hu, hcell, hsl⟩ := (HA.out.below hs.out.2).at n (by omega)
            cases he
            subst hu
            obtain ⟨ad', c4, u', A4, cu', he, hu, hcell', hsl'⟩ := (HB.out.below hs.out.2).at n (by omega)
            cases he
            subst hu
            have HD0 : Aside0 (difAt a b n = (a.getD n [] != b.getD n [])) := ⟨by unfold difAt; rw [d1, d2]; rfl⟩
            obtain ⟨x, hx⟩ : ∃ x, x = a.getD n [] := ⟨_, rfl⟩
            obtain ⟨y, hy⟩ : ∃ y, y = b.getD n [] := ⟨_, rfl⟩
            rw [← hx] at hcell hsl HD0
            rw [← hy] at hcell' hsl' HD0
            have HX := Aside0.mk (And.intro hsl hsl')
            clear hx hy hsl hsl'
            have z1 : (0 : Int) ≤ (n : Int) := by omega
            have z2 : (n : Int) < a.length := by omega
            have z3 : (n : Int) < b.length := by omega
            rcases hxy : (x == y) with _ | _
            · have HD : Aside0 (difAt a b n = true) := ⟨by rw [HD0.out, bne, hxy]; rfl⟩
              go_wp2_with fail
              go_quiet ((go_at_call 35; exact Calls.quiet_of_same (equal_same _ (HX.out.1.below (below_drewN (Below.refl _ _) _)) (HX.out.2.below (below_drewN (Below.refl _ _) _)))))
              go_wp2_with (at_builtin; go_must (refine append_int rfl rfl (.tmp 36) (.tmp 38) rfl w.heap.size _ (difTo a b n) _ _ 1 3 (0, 0) rfl rfl (own_below hs.out.1 (by first | exact ((Below.refl _ _).drew).alloc (by simp) _ | exact (below_drewN (Below.refl _ _) _).alloc (by simp) _)) (heap_new rfl) (by have := HL.out; omega) (by have := hs.out.2.size; simp; omega) ?_); intro v3 w3 hl3 hg3)
              have H3 := Aside0.mk (show OwnI w3 w.heap.size v3 (difTo a b (n + 1)) ∧ Below w.heap.size w w3 from ⟨by rw [HS.out, HD.out, if_pos rfl]; exact hl3, (below_step hs.out.2 (by first | exact ((Below.refl _ _).drew).alloc (by simp) _ | exact (below_drewN (Below.refl _ _) _).alloc (by simp) _)).grown hg3 (by have := hs.out.2.size; simp; omega) (own_base hs.out.1)⟩)
              clear hl3 hg3
              go_roundw
              case rel => exact ⟨n + 1, by omega, by go_num, H3⟩
              case measure => simp [intOf]; omega
            · have HD : Aside0 (difAt a b n = false) := ⟨by rw [HD0.out, bne, hxy]; rfl⟩
              go_wp2_with fail
              go_quiet ((go_at_call 35; exact Calls.quiet_of_same (equal_same _ (HX.out.1.below (below_drewN (Below.refl _ _) _)) (HX.out.2.below (below_drewN (Below.refl _ _) _)))))
              go_wp2_with fail
              go_roundw
              case rel => exact ⟨n + 1, by omega, by go_num, ⟨by rw [HS.out, HD.out, if_neg (by decide), List.append_nil]; exact own_below hs.out.1 (by first | exact (Below.refl _ _).drew | exact below_drewN (Below.refl _ _) _), below_step hs.out.2 (by first | exact (Below.refl _ _).drew | exact below_drewN (Below.refl _ _) _)⟩⟩
              case measure => simp [intOf]; omega
      · have HE : Aside0 (OwnI wr w.heap.size u4 (differL a b) ∧ Below w.heap.size w wr) := ⟨by
          rw [differL, HM.out, show b.length = n by omega]
          exact hs.out⟩
        clear hs
        go_wp2_with fail
        go_ret
        exact ⟨_, rfl, HE.out.1, HE.out.2⟩
  · have HM : Aside0 (max a.length b.length = a.length) := ⟨by omega⟩
    have hab2 : ¬ a.length < b.length := by omega
    go_enter Try.func26, Try.ntmps26
    go_wp2_with fail
    go_loopw [4, 11] (fun v i wr => ∃ n : Nat, n ≤ a.length ∧ i = .int .i64 n ∧ Aside0 (OwnI wr w.heap.size v (difTo a b n) ∧ Below w.heap.size w wr)) (fun v i wr => a.length - (intOf i).toNat)
    case atStart => exact ⟨0, by omega, rfl, ⟨World.ownsRow_nil _ _ _ _, Below.refl _ _⟩⟩
    case round =>
      obtain ⟨n, hn, rfl, hs⟩ := hrel
      have HS := Aside0.mk (difTo_succ a b n)
      have HL := Aside0.mk (difTo_length a b n)
      by_cases hlt : n < a.length
      · by_cases h1 : a.length ≤ n
        · omega
        · have d1 : decide (a.length ≤ n) = false := decide_eq_false h1
          by_cases h2 : b.length ≤ n
          · have d2 : decide (b.length ≤ n) = true := decide_eq_true h2
            have HD := Aside0.mk (show difAt a b n = true by unfold difAt; rw [d2, Bool.true_or, Bool.or_true])
            go_wp2_with fail
            go_quiet (fail)
            go_wp2_with (at_builtin; go_must (refine append_int rfl rfl (.tmp 36) (.tmp 38) rfl w.heap.size _ (difTo a b n) _ _ 1 3 (0, 0) rfl rfl (own_below hs.out.1 (by first | exact ((Below.refl _ _).drew).alloc (by simp) _ | exact (below_drewN (Below.refl _ _) _).alloc (by simp) _)) (heap_new rfl) (by have := HL.out; omega) (by have := hs.out.2.size; simp; omega) ?_); intro v3 w3 hl3 hg3)
            have H3 := Aside0.mk (show OwnI w3 w.heap.size v3 (difTo a b (n + 1)) ∧ Below w.heap.size w w3 from ⟨by rw [HS.out, HD.out, if_pos rfl]; exact hl3, (below_step hs.out.2 (by first | exact ((Below.refl _ _).drew).alloc (by simp) _ | exact (below_drewN (Below.refl _ _) _).alloc (by simp) _)).grown hg3 (by have := hs.out.2.size; simp; omega) (own_base hs.out.1)⟩)
            clear hl3 hg3
            go_roundw
            case rel => exact ⟨n + 1, by omega, by go_num, H3⟩
            case measure => simp [intOf]; omega
          · have d2 : decide (b.length ≤ n) = false := decide_eq_false h2
            obtain ⟨ad, c3, u, A3, cu, he, hu, hcell, hsl⟩ := (HA.out.below hs.out.2).at n (by omega)
            cases he
            subst hu
            obtain ⟨ad', c4, u', A4, cu', he, hu, hcell', hsl'⟩ := (HB.out.below hs.out.2).at n (by omega)
            cases he
            subst hu
            have HD0 : Aside0 (difAt a b n = (a.getD n [] != b.getD n [])) := ⟨by unfold difAt; rw [d1, d2]; rfl⟩
            obtain ⟨x, hx⟩ : ∃ x, x = a.getD n [] := ⟨_, rfl⟩
            obtain ⟨y, hy⟩ : ∃ y, y = b.getD n [] := ⟨_, rfl⟩
            rw [← hx] at hcell hsl HD0
            rw [← hy] at hcell' hsl' HD0
            have HX := Aside0.mk (And.intro hsl hsl')
            clear hx hy hsl hsl'
            have z1 : (0 : Int) ≤ (n : Int) := by omega
            have z2 : (n : Int) < a.length := by omega
            have z3 : (n : Int) < b.length := by omega
            rcases hxy : (x == y) with _ | _
            · have HD : Aside0 (difAt a b n = true) := ⟨by rw [HD0.out, bne, hxy]; rfl⟩
              go_wp2_with fail
              go_quiet ((go_at_call 35; exact Calls.quiet_of_same (equal_same _ (HX.out.1.below (below_drewN (Below.refl _ _) _)) (HX.out.2.below (below_drewN (Below.refl _ _) _)))))
              go_wp2_with (at_builtin; go_must (refine append_int rfl rfl (.tmp 36) (.tmp 38) rfl w.heap.size _ (difTo a b n) _ _ 1 3 (0, 0) rfl rfl (own_below hs.out.1 (by first | exact ((Below.refl _ _).drew).alloc (by simp) _ | exact (below_drewN (Below.refl _ _) _).alloc (by simp) _)) (heap_new rfl) (by have := HL.out; omega) (by have := hs.out.2.size; simp; omega) ?_); intro v3 w3 hl3 hg3)
              have H3 := Aside0.mk (show OwnI w3 w.heap.size v3 (difTo a b (n + 1)) ∧ Below w.heap.size w w3 from ⟨by rw [HS.out, HD.out, if_pos rfl]; exact hl3, (below_step hs.out.2 (by first | exact ((Below.refl _ _).drew).alloc (by simp) _ | exact (below_drewN (Below.refl _ _) _).alloc (by simp) _)).grown hg3 (by have := hs.out.2.size; simp; omega) (own_base hs.out.1)⟩)
              clear hl3 hg3
              go_roundw
              case rel => exact ⟨n + 1, by omega, by go_num, H3⟩
              case measure => simp [intOf]; omega
            · have HD : Aside0 (difAt a b n = false) := ⟨by rw [HD0.out, bne, hxy]; rfl⟩
              go_wp2_with fail
              go_quiet ((go_at_call 35; exact Calls.quiet_of_same (equal_same _ (HX.out.1.below (below_drewN (Below.refl _ _) _)) (HX.out.2.below (below_drewN (Below.refl _ _) _)))))
              go_wp2_with fail
              go_roundw
              case rel => exact ⟨n + 1, by omega, by go_num, ⟨by rw [HS.out, HD.out, if_neg (by decide), List.append_nil]; exact own_below hs.out.1 (by first | exact (Below.refl _ _).drew | exact below_drewN (Below.refl _ _) _), below_step hs.out.2 (by first | exact (Below.refl _ _).drew | exact below_drewN (Below.refl _ _) _)⟩⟩
              case measure => simp [intOf]; omega
      · have HE : Aside0 (OwnI wr w.heap.size u4 (differL a b) ∧ Below w.heap.size w wr) := ⟨by
          rw [differL, HM.out, show a.length = n by omega]
          exact hs.out⟩
        clear hs
        go_wp2_with fail
        go_ret
        exact ⟨_, rfl, HE.out.1, HE.out.2⟩
end Go.Proofs.Ytjoljmkedghcbaa
