/-
  Of any leaves the root, what proves one, and where two lists differ, are those that the document says; any proof is judged as it says. No condition.
-/
import Derived.Test.YtjoljmkedghcbaaMerAwake
import Derived.Test.YtjoljmkedghcbaaMerRefs
import Derived.Test.YtjoljmkedghcbaaMerRDiffer
import Derived.Test.YtjoljmkedghcbaaIntsEq
import Derived.Test.YtjoljmkedghcbaaBytesW
import Derived.Test.YtjoljmkedghcbaaFlow
namespace Go.Proofs.Ytjoljmkedghcbaa
open Go.RowKit
set_option linter.unusedVariables false
set_option linter.unusedSimpArgs false

theorem fit_of {L : List (List UInt8)} (h : wt L ≤ 1000) : FitM L := by
  refine ⟨by have := wt_length L; omega, fun x hx => ?_⟩
  have := wt_mem L x hx
  omega
theorem wt_over {q : Int} {L : List (List UInt8)} (h : 1000 < wt L) (h1 : q ≤ 1000 → q = wt L) : 1000 < q := by
  rcases Int.lt_or_le 1000 q with h2 | h2
  · exact h2
  · have := h1 h2; omega

set_option maxHeartbeats 8000000 in
theorem trees_out {b0 b1 b4 b5 : Nat} {va vb vr vp : Value} {a b pr : List (List UInt8)} {root : List UInt8} (k n : Int) (w : World) (ha : SlL w b0 va a) (hb : SlL w b1 vb b) (hr : Sl bv 5 w b4 vr root) (hp : SlL w b5 vp pr)
    (hout : ¬ (wt a ≤ 1000 ∧ wt b ≤ 1000 ∧ wt pr ≤ 1000 ∧ root.length ≤ 100 ∧ a.length ≤ 60)) :
    Calls Try.prog 5 #[va, vb, .int .i64 k, .int .i64 n, vr, vp] w fun e w' => e = .returned (.bool true) ∧ Below w.heap.size w w' := by
  have HA := Aside0.mk ha
  have HB := Aside0.mk hb
  have HP := Aside0.mk hp
  obtain ⟨Aa, ca, rfl, _, _⟩ := ha.shape
  obtain ⟨Ab, cb, rfl, _, _⟩ := hb.shape
  obtain ⟨Ar, cr, rfl, _⟩ := hr
  obtain ⟨Ap, cp, rfl, _, _⟩ := hp.shape
  clear ha hb hp
  by_cases h1 : wt a ≤ 1000
  · by_cases h2 : wt b ≤ 1000
    · by_cases h3 : wt pr ≤ 1000
      · by_cases h4 : root.length ≤ 100
        · by_cases h5 : a.length ≤ 60
          · exact absurd ⟨h1, h2, h3, h4, h5⟩ hout
          · clear hout
            have HH1 := Aside0.mk h1
            have HH2 := Aside0.mk h2
            have HH3 := Aside0.mk h3
            clear h1 h2 h3
            have d4 : decide ((100 : Int) < root.length) = false := decide_eq_false (by omega)
            have d4' : decide (100 < root.length) = false := decide_eq_false (by omega)
            have d5 : decide ((60 : Int) < a.length) = true := decide_eq_true (by omega)
            have d5' : decide (60 < a.length) = true := decide_eq_true (by omega)
            go_enter Try.func5, Try.ntmps5
            go_wp2_with fail
            refine (bytes_calls 1000 _ HA.out (by decide)).mono ?_
            rintro e w1 ⟨q1, rfl, hp1, hq1, _, hb1⟩
            have e1 : decide (1000 < q1) = false := decide_eq_false (fun h => by have := hq1 h; have := HH1.out; omega)
            have HW1 := Aside0.mk hb1
            clear hp1 hq1 hb1
            go_wp2_with fail
            refine (bytes_calls 1000 _ (HB.out.below HW1.out) (by decide)).mono ?_
            rintro e w2 ⟨q2, rfl, hp2, hq2, _, hb2⟩
            have e2 : decide (1000 < q2) = false := decide_eq_false (fun h => by have := hq2 h; have := HH2.out; omega)
            have HW2 := Aside0.mk (below_step HW1.out hb2)
            clear hp2 hq2 hb2
            go_wp2_with fail
            refine (bytes_calls 1000 _ (HP.out.below HW2.out) (by decide)).mono ?_
            rintro e w3 ⟨q3, rfl, hp3, hq3, _, hb3⟩
            have e3 : decide (1000 < q3) = false := decide_eq_false (fun h => by have := hq3 h; have := HH3.out; omega)
            have HW3 := Aside0.mk (below_step HW2.out hb3)
            clear hp3 hq3 hb3
            go_wp2_with fail
            refine (awake2_calls _).mono ?_
            rintro e w9 ⟨rfl, hb9⟩
            have HW9 := Aside0.mk (below_step HW3.out hb9)
            clear hb9
            go_wp2_with fail
            go_ret
            exact ⟨rfl, HW9.out⟩
        · clear hout
          have HH1 := Aside0.mk h1
          have HH2 := Aside0.mk h2
          have HH3 := Aside0.mk h3
          clear h1 h2 h3
          have d4 : decide ((100 : Int) < root.length) = true := decide_eq_true (by omega)
          have d4' : decide (100 < root.length) = true := decide_eq_true (by omega)
          go_enter Try.func5, Try.ntmps5
          go_wp2_with fail
          refine (bytes_calls 1000 _ HA.out (by decide)).mono ?_
          rintro e w1 ⟨q1, rfl, hp1, hq1, _, hb1⟩
          have e1 : decide (1000 < q1) = false := decide_eq_false (fun h => by have := hq1 h; have := HH1.out; omega)
          have HW1 := Aside0.mk hb1
          clear hp1 hq1 hb1
          go_wp2_with fail
          refine (bytes_calls 1000 _ (HB.out.below HW1.out) (by decide)).mono ?_
          rintro e w2 ⟨q2, rfl, hp2, hq2, _, hb2⟩
          have e2 : decide (1000 < q2) = false := decide_eq_false (fun h => by have := hq2 h; have := HH2.out; omega)
          have HW2 := Aside0.mk (below_step HW1.out hb2)
          clear hp2 hq2 hb2
          go_wp2_with fail
          refine (bytes_calls 1000 _ (HP.out.below HW2.out) (by decide)).mono ?_
          rintro e w3 ⟨q3, rfl, hp3, hq3, _, hb3⟩
          have e3 : decide (1000 < q3) = false := decide_eq_false (fun h => by have := hq3 h; have := HH3.out; omega)
          have HW3 := Aside0.mk (below_step HW2.out hb3)
          clear hp3 hq3 hb3
          go_wp2_with fail
          refine (awake2_calls _).mono ?_
          rintro e w9 ⟨rfl, hb9⟩
          have HW9 := Aside0.mk (below_step HW3.out hb9)
          clear hb9
          go_wp2_with fail
          go_ret
          exact ⟨rfl, HW9.out⟩
      · clear hout
        have HH1 := Aside0.mk h1
        have HH2 := Aside0.mk h2
        have HH3 := Aside0.mk h3
        clear h1 h2 h3
        go_enter Try.func5, Try.ntmps5
        go_wp2_with fail
        refine (bytes_calls 1000 _ HA.out (by decide)).mono ?_
        rintro e w1 ⟨q1, rfl, hp1, hq1, _, hb1⟩
        have e1 : decide (1000 < q1) = false := decide_eq_false (fun h => by have := hq1 h; have := HH1.out; omega)
        have HW1 := Aside0.mk hb1
        clear hp1 hq1 hb1
        go_wp2_with fail
        refine (bytes_calls 1000 _ (HB.out.below HW1.out) (by decide)).mono ?_
        rintro e w2 ⟨q2, rfl, hp2, hq2, _, hb2⟩
        have e2 : decide (1000 < q2) = false := decide_eq_false (fun h => by have := hq2 h; have := HH2.out; omega)
        have HW2 := Aside0.mk (below_step HW1.out hb2)
        clear hp2 hq2 hb2
        go_wp2_with fail
        refine (bytes_calls 1000 _ (HP.out.below HW2.out) (by decide)).mono ?_
        rintro e w3 ⟨q3, rfl, hp3, hq3, _, hb3⟩
        have e3 : decide (1000 < q3) = true := decide_eq_true (wt_over HH3.out hp3)
        have HW3 := Aside0.mk (below_step HW2.out hb3)
        clear hp3 hq3 hb3
        go_wp2_with fail
        refine (awake2_calls _).mono ?_
        rintro e w9 ⟨rfl, hb9⟩
        have HW9 := Aside0.mk (below_step HW3.out hb9)
        clear hb9
        go_wp2_with fail
        go_ret
        exact ⟨rfl, HW9.out⟩
    · clear hout
      have HH1 := Aside0.mk h1
      have HH2 := Aside0.mk h2
      clear h1 h2
      go_enter Try.func5, Try.ntmps5
      go_wp2_with fail
      refine (bytes_calls 1000 _ HA.out (by decide)).mono ?_
      rintro e w1 ⟨q1, rfl, hp1, hq1, _, hb1⟩
      have e1 : decide (1000 < q1) = false := decide_eq_false (fun h => by have := hq1 h; have := HH1.out; omega)
      have HW1 := Aside0.mk hb1
      clear hp1 hq1 hb1
      go_wp2_with fail
      refine (bytes_calls 1000 _ (HB.out.below HW1.out) (by decide)).mono ?_
      rintro e w2 ⟨q2, rfl, hp2, hq2, _, hb2⟩
      have e2 : decide (1000 < q2) = true := decide_eq_true (wt_over HH2.out hp2)
      have HW2 := Aside0.mk (below_step HW1.out hb2)
      clear hp2 hq2 hb2
      go_wp2_with fail
      refine (awake2_calls _).mono ?_
      rintro e w9 ⟨rfl, hb9⟩
      have HW9 := Aside0.mk (below_step HW2.out hb9)
      clear hb9
      go_wp2_with fail
      go_ret
      exact ⟨rfl, HW9.out⟩
  · clear hout
    have HH1 := Aside0.mk h1
    clear h1
    go_enter Try.func5, Try.ntmps5
    go_wp2_with fail
    refine (bytes_calls 1000 _ HA.out (by decide)).mono ?_
    rintro e w1 ⟨q1, rfl, hp1, hq1, _, hb1⟩
    have e1 : decide (1000 < q1) = true := decide_eq_true (wt_over HH1.out hp1)
    have HW1 := Aside0.mk hb1
    clear hp1 hq1 hb1
    go_wp2_with fail
    refine (awake2_calls _).mono ?_
    rintro e w9 ⟨rfl, hb9⟩
    have HW9 := Aside0.mk (below_step HW1.out hb9)
    clear hb9
    go_wp2_with fail
    go_ret
    exact ⟨rfl, HW9.out⟩

section
set_option maxRecDepth 100000
/-- What each slot of the region holds. -/
def TreeR (b0 : Nat) (a b : List (List UInt8)) (E : Int) (PL : List (List UInt8)) (Aa Ab A4 A5 : Option Addr) (ca cb c4 c5 : Nat) : Nat → Value → World → Prop
  | 0, v, w => v = .slice Aa a.length ca
  | 1, v, w => ∃ b, Sl bv 5 w b v (rootL a)
  | 2, v, w => v = .string (str (rootL a))
  | 3, v, w => v = .slice Aa a.length ca
  | 4, v, w => Sl bv 5 w b0 v (rootL a)
  | 5, v, w => v = .string (str (rootL a))
  | 6, v, w => v = .bool false
  | 7, v, w => v = .bool false
  | 8, v, w => v = .slice A4 PL.length c4
  | 9, v, w => v = .slice A5 PL.length c5
  | 10, v, w => v = .bool true
  | 11, v, w => v = .bool false
  | 12, v, w => v = .bool false
  | 13, v, w => v = .bool false
  | 14, v, w => v = .int .i64 E
  | 15, v, w => v = .int .i64 E
  | 16, v, w => v = .bool false
  | 17, v, w => v = .bool false
  | 18, v, w => v = .bool false
  | 19, v, w => v = .slice Aa a.length ca
  | 20, v, w => v = .slice Ab b.length cb
  | 21, v, w => Sl iv 3 w 0 v (differL a b)
  | 22, v, w => v = .slice Aa a.length ca
  | 23, v, w => v = .slice Ab b.length cb
  | 24, v, w => Sl iv 3 w 0 v (differL a b)
  | 25, v, w => v = .bool true
  | 26, v, w => v = .bool false
  | 27, v, w => v = .bool false
  | _, _, _ => True
theorem TreeR_st (b0 : Nat) (a b : List (List UInt8)) (E : Int) (PL : List (List UInt8)) (Aa Ab A4 A5 : Option Addr) (ca cb c4 c5 : Nat) : ∀ i v w w', TreeR b0 a b E PL Aa Ab A4 A5 ca cb c4 c5 i v w → Below w.heap.size w w' → TreeR b0 a b E PL Aa Ab A4 A5 ca cb c4 c5 i v w'
  | 0, v, w, w', h, hb => h
  | 1, v, w, w', h, hb => h.elim fun b h => ⟨b, Sl.below h hb⟩
  | 2, v, w, w', h, hb => h
  | 3, v, w, w', h, hb => h
  | 4, v, w, w', h, hb => Sl.below h hb
  | 5, v, w, w', h, hb => h
  | 6, v, w, w', h, hb => h
  | 7, v, w, w', h, hb => h
  | 8, v, w, w', h, hb => h
  | 9, v, w, w', h, hb => h
  | 10, v, w, w', h, hb => h
  | 11, v, w, w', h, hb => h
  | 12, v, w, w', h, hb => h
  | 13, v, w, w', h, hb => h
  | 14, v, w, w', h, hb => h
  | 15, v, w, w', h, hb => h
  | 16, v, w, w', h, hb => h
  | 17, v, w, w', h, hb => h
  | 18, v, w, w', h, hb => h
  | 19, v, w, w', h, hb => h
  | 20, v, w, w', h, hb => h
  | 21, v, w, w', h, hb => Sl.below h hb
  | 22, v, w, w', h, hb => h
  | 23, v, w, w', h, hb => h
  | 24, v, w, w', h, hb => Sl.below h hb
  | 25, v, w, w', h, hb => h
  | 26, v, w, w', h, hb => h
  | 27, v, w, w', h, hb => h
  | _ + 28, _, _, _, _, _ => trivial
end

set_option maxHeartbeats 8000000 in
set_option maxRecDepth 100000 in
theorem trees_in {b0 b1 b4 b5 : Nat} {va vb vr vp : Value} {a b pr : List (List UInt8)} {root : List UInt8} (k n : Int) (w : World) (ha : SlL w b0 va a) (hb : SlL w b1 vb b) (hr : Sl bv 5 w b4 vr root) (hp : SlL w b5 vp pr)
    (hb0 : b0 ≤ w.heap.size) (hb4 : b4 ≤ w.heap.size) (hb5 : b5 ≤ w.heap.size) (hn : n ≤ 9223372036854775807)
    (h1 : wt a ≤ 1000) (h2 : wt b ≤ 1000) (h3 : wt pr ≤ 1000) (h4 : root.length ≤ 100) (h5 : a.length ≤ 60) :
    Calls Try.prog 5 #[va, vb, .int .i64 k, .int .i64 n, vr, vp] w fun e w' => e = .returned (.bool true) ∧ Below w.heap.size w w' := by
  have HA := Aside0.mk ha
  have HB := Aside0.mk hb
  have HR := Aside0.mk hr
  have HP := Aside0.mk hp
  have HFA := Aside0.mk (fit_of h1)
  have HFB := Aside0.mk (fit_of h2)
  have HFP := Aside0.mk (fit_of h3)
  obtain ⟨Aa, ca, rfl, _, _⟩ := ha.shape
  obtain ⟨Ab, cb, rfl, _, _⟩ := hb.shape
  obtain ⟨Ar, cr, rfl, _⟩ := hr
  obtain ⟨Ap, cp, rfl, _, _⟩ := hp.shape
  have d4 : decide ((100 : Int) < root.length) = false := decide_eq_false (by omega)
  have d5 : decide ((60 : Int) < a.length) = false := decide_eq_false (by omega)
  have d4' : decide (100 < root.length) = false := decide_eq_false (by omega)
  have d5' : decide (60 < a.length) = false := decide_eq_false (by omega)
  have H1 := Aside0.mk h1
  have H2 := Aside0.mk h2
  have H3 := Aside0.mk h3
  have H4 := Aside0.mk h4
  clear ha hb hp h1 h2 h3
  go_enter Try.func5, Try.ntmps5
  go_wp2_with fail
  refine (bytes_calls 1000 _ HA.out (by decide)).mono ?_
  rintro e w1 ⟨q1, rfl, _, hq1, _, hb1⟩
  have e1 : decide (1000 < q1) = false := decide_eq_false (fun h => by have := hq1 h; have := H1.out; omega)
  have HW1 := Aside0.mk hb1
  clear hq1 hb1
  go_wp2_with fail
  refine (bytes_calls 1000 _ (HB.out.below HW1.out) (by decide)).mono ?_
  rintro e w2 ⟨q2, rfl, _, hq2, _, hb2⟩
  have e2 : decide (1000 < q2) = false := decide_eq_false (fun h => by have := hq2 h; have := H2.out; omega)
  have HW2 := Aside0.mk (below_step HW1.out hb2)
  clear hq2 hb2
  go_wp2_with fail
  refine (bytes_calls 1000 _ (HP.out.below HW2.out) (by decide)).mono ?_
  rintro e w3 ⟨q3, rfl, _, hq3, _, hb3⟩
  have e3 : decide (1000 < q3) = false := decide_eq_false (fun h => by have := hq3 h; have := H3.out; omega)
  have HW3 := Aside0.mk (below_step HW2.out hb3)
  clear hq3 hb3
  go_wp2_with fail
  refine (prove_calls k _ (HA.out.below HW3.out) HFA.out).mono ?_
  rintro e w4 ⟨v4, rfl, hs4, hb4'⟩
  have HW4 := Aside0.mk (below_step HW3.out hb4')
  have HS4 := Aside0.mk hs4
  obtain ⟨A4, c4, rfl, _, _⟩ := hs4.shape
  clear hb4' hs4
  go_wp2_with fail
  refine (rprove_calls k _ (HA.out.below HW4.out) (Nat.le_trans hb0 HW4.out.size) HFA.out).mono ?_
  rintro e w5 ⟨v5, rfl, hs5, hb5'⟩
  have HS4 := Aside0.mk (HS4.out.below hb5')
  have HW5 := Aside0.mk (below_step HW4.out hb5')
  have HS5 := Aside0.mk hs5
  obtain ⟨A5, c5, rfl, _, _⟩ := hs5.shape
  obtain ⟨E, hE⟩ : ∃ E, E = proveE a k := ⟨_, rfl⟩
  obtain ⟨PL, hPL⟩ : ∃ PL, PL = proveL a k := ⟨_, rfl⟩
  rw [← hPL] at HS4 HS5 ⊢
  rw [← hE]
  clear hb5' hs5 hE hPL
  go_wp2_with fail
  refine wp_region_flow (TreeR b0 a b E PL Aa Ab A4 A5 ca cb c4 c5) (by kernel_rfl) (by kernel_rfl) (TreeR_st _ _ _ _ _ _ _ _ _ _ _ _ _) ?_ ?_
  · intro i o ho aa w' F
    have hlow := F.low
    match i, ho with
    | 0, ho =>
      obtain rfl := Option.some.inj ho
      refine flow_plain rfl rfl ?_
      have f0 : aa.tmps.getD 0 undef = .slice Aa a.length ca := eval_out F 0 (by kernel_rfl) _ rfl
      exact op_move (.tmp 0) rfl ⟨_, rfl, Below.refl _ _, f0⟩
    | 1, ho =>
      obtain rfl := Option.some.inj ho
      refine flow_plain rfl rfl ?_
      have f53 : (aa.tmps.getD 53 undef) = .slice Aa a.length ca := F.of 0 (by kernel_rfl)
      refine op_call 17 #[.tmp 53] #[25] rfl _ rfl rfl rfl #[.slice Aa a.length ca] (by simp [Act.eval, f53]) ?_
      refine (root_calls _ (HA.out.below (below_step HW5.out hlow)) HFA.out).mono ?_
      rintro e w7 ⟨v7, rfl, hs7, hb7⟩
      exact ⟨_, rfl, _, rfl, hb7, _, hs7⟩
    | 2, ho =>
      obtain rfl := Option.some.inj ho
      refine flow_plain rfl rfl ?_
      have f54 : ∃ b, Sl bv 5 w' b (aa.tmps.getD 54 undef) (rootL a) := F.of 1 (by kernel_rfl)
      obtain ⟨bb, f54⟩ := f54
      refine op_conv _ _ _ rfl _ ((f54 : Sl _ _ _ _ _ _).string (P := Try.prog) Try.underlying22 Try.underlying5 Try.underlying9) ⟨_, rfl, Below.refl _ _, rfl⟩
    | 3, ho =>
      obtain rfl := Option.some.inj ho
      refine flow_plain rfl rfl ?_
      have f0 : aa.tmps.getD 0 undef = .slice Aa a.length ca := eval_out F 0 (by kernel_rfl) _ rfl
      exact op_move (.tmp 0) rfl ⟨_, rfl, Below.refl _ _, f0⟩
    | 4, ho =>
      obtain rfl := Option.some.inj ho
      refine flow_plain rfl rfl ?_
      have f56 : (aa.tmps.getD 56 undef) = .slice Aa a.length ca := F.of 3 (by kernel_rfl)
      refine op_call 18 #[.tmp 56] #[25] rfl _ rfl rfl rfl #[.slice Aa a.length ca] (by simp [Act.eval, f56]) ?_
      refine (rroot_calls _ (HA.out.below (below_step HW5.out hlow)) (Nat.le_trans hb0 (Nat.le_trans HW5.out.size hlow.size)) HFA.out).mono ?_
      rintro e w7 ⟨v7, rfl, hs7, hb7⟩
      exact ⟨_, rfl, _, rfl, hb7, hs7⟩
    | 5, ho =>
      obtain rfl := Option.some.inj ho
      refine flow_plain rfl rfl ?_
      have f57 : Sl bv 5 w' b0 (aa.tmps.getD 57 undef) (rootL a) := F.of 4 (by kernel_rfl)
      refine op_conv _ _ _ rfl _ ((f57 : Sl _ _ _ _ _ _).string (P := Try.prog) Try.underlying22 Try.underlying5 Try.underlying9) ⟨_, rfl, Below.refl _ _, rfl⟩
    | 6, ho =>
      obtain rfl := Option.some.inj ho
      refine flow_plain rfl rfl ?_
      have f55 : (aa.tmps.getD 55 undef) = .string (str (rootL a)) := F.of 2 (by kernel_rfl)
      have f58 : (aa.tmps.getD 58 undef) = .string (str (rootL a)) := F.of 5 (by kernel_rfl)
      refine op_pure (.bool false) ?_ ⟨_, rfl, Below.refl _ _, rfl⟩
      simp [execOp, Act.eval, go_sem, f55, f58]
    | 7, ho =>
      obtain rfl := Option.some.inj ho
      refine flow_plain rfl rfl ?_
      have f59 : (aa.tmps.getD 59 undef) = .bool false := F.of 6 (by kernel_rfl)
      exact op_move (.tmp 59) rfl ⟨_, rfl, Below.refl _ _, f59⟩
    | 8, ho =>
      obtain rfl := Option.some.inj ho
      have hg : aa.tmps.getD 60 undef = .bool false := F.of 7 (by kernel_rfl)
      refine flow_yes rfl rfl 60 rfl hg ?_
      have f13 : aa.tmps.getD 13 undef = .slice A4 PL.length c4 := eval_out F 13 (by kernel_rfl) _ rfl
      exact op_move (.tmp 13) rfl ⟨_, rfl, Below.refl _ _, f13⟩
    | 9, ho =>
      obtain rfl := Option.some.inj ho
      have hg : aa.tmps.getD 60 undef = .bool false := F.of 7 (by kernel_rfl)
      refine flow_yes rfl rfl 60 rfl hg ?_
      have f15 : aa.tmps.getD 15 undef = .slice A5 PL.length c5 := eval_out F 15 (by kernel_rfl) _ rfl
      exact op_move (.tmp 15) rfl ⟨_, rfl, Below.refl _ _, f15⟩
    | 10, ho =>
      obtain rfl := Option.some.inj ho
      have hg : aa.tmps.getD 60 undef = .bool false := F.of 7 (by kernel_rfl)
      refine flow_yes rfl rfl 60 rfl hg ?_
      have f61 : (aa.tmps.getD 61 undef) = .slice A4 PL.length c4 := F.of 8 (by kernel_rfl)
      have f62 : (aa.tmps.getD 62 undef) = .slice A5 PL.length c5 := F.of 9 (by kernel_rfl)
      refine op_call 12 #[.tmp 61, .tmp 62] #[25, 25] rfl _ rfl rfl rfl #[.slice A4 PL.length c4, .slice A5 PL.length c5] (by simp [Act.eval, f61, f62]) ?_
      refine (lists_calls _ (HS4.out.below hlow) (HS5.out.below hlow)).mono ?_
      rintro e w7 ⟨rfl, hb7⟩
      exact ⟨_, rfl, _, rfl, hb7, by rw [beq_self_eq_true]; rfl⟩
    | 11, ho =>
      obtain rfl := Option.some.inj ho
      have hg : aa.tmps.getD 60 undef = .bool false := F.of 7 (by kernel_rfl)
      refine flow_yes rfl rfl 60 rfl hg ?_
      have f63 : (aa.tmps.getD 63 undef) = .bool true := F.of 10 (by kernel_rfl)
      refine op_pure (.bool false) ?_ ⟨_, rfl, Below.refl _ _, rfl⟩
      simp [execOp, Act.eval, go_sem, f63]
    | 12, ho =>
      obtain rfl := Option.some.inj ho
      refine flow_plain rfl rfl ?_
      have f60 : (aa.tmps.getD 60 undef) = .bool false := F.of 7 (by kernel_rfl)
      have f64 : (aa.tmps.getD 64 undef) = .bool false := F.of 11 (by kernel_rfl)
      refine op_pure (.bool false) ?_ ⟨_, rfl, Below.refl _ _, rfl⟩
      simp [execOp, Act.eval, go_sem, f60, f64]
    | 13, ho =>
      obtain rfl := Option.some.inj ho
      refine flow_plain rfl rfl ?_
      have f65 : (aa.tmps.getD 65 undef) = .bool false := F.of 12 (by kernel_rfl)
      exact op_move (.tmp 65) rfl ⟨_, rfl, Below.refl _ _, f65⟩
    | 14, ho =>
      obtain rfl := Option.some.inj ho
      have hg : aa.tmps.getD 66 undef = .bool false := F.of 13 (by kernel_rfl)
      refine flow_yes rfl rfl 66 rfl hg ?_
      have f14 : aa.tmps.getD 14 undef = .int .i64 E := eval_out F 14 (by kernel_rfl) _ rfl
      exact op_move (.tmp 14) rfl ⟨_, rfl, Below.refl _ _, f14⟩
    | 15, ho =>
      obtain rfl := Option.some.inj ho
      have hg : aa.tmps.getD 66 undef = .bool false := F.of 13 (by kernel_rfl)
      refine flow_yes rfl rfl 66 rfl hg ?_
      have f16 : aa.tmps.getD 16 undef = .int .i64 E := eval_out F 16 (by kernel_rfl) _ rfl
      exact op_move (.tmp 16) rfl ⟨_, rfl, Below.refl _ _, f16⟩
    | 16, ho =>
      obtain rfl := Option.some.inj ho
      have hg : aa.tmps.getD 66 undef = .bool false := F.of 13 (by kernel_rfl)
      refine flow_yes rfl rfl 66 rfl hg ?_
      have f67 : (aa.tmps.getD 67 undef) = .int .i64 E := F.of 14 (by kernel_rfl)
      have f68 : (aa.tmps.getD 68 undef) = .int .i64 E := F.of 15 (by kernel_rfl)
      refine op_pure (.bool false) ?_ ⟨_, rfl, Below.refl _ _, rfl⟩
      simp [execOp, Act.eval, go_sem, f67, f68]
    | 17, ho =>
      obtain rfl := Option.some.inj ho
      refine flow_plain rfl rfl ?_
      have f66 : (aa.tmps.getD 66 undef) = .bool false := F.of 13 (by kernel_rfl)
      have f69 : (aa.tmps.getD 69 undef) = .bool false := F.of 16 (by kernel_rfl)
      refine op_pure (.bool false) ?_ ⟨_, rfl, Below.refl _ _, rfl⟩
      simp [execOp, Act.eval, go_sem, f66, f69]
    | 18, ho =>
      obtain rfl := Option.some.inj ho
      refine flow_plain rfl rfl ?_
      have f70 : (aa.tmps.getD 70 undef) = .bool false := F.of 17 (by kernel_rfl)
      exact op_move (.tmp 70) rfl ⟨_, rfl, Below.refl _ _, f70⟩
    | 19, ho =>
      obtain rfl := Option.some.inj ho
      have hg : aa.tmps.getD 71 undef = .bool false := F.of 18 (by kernel_rfl)
      refine flow_yes rfl rfl 71 rfl hg ?_
      have f0 : aa.tmps.getD 0 undef = .slice Aa a.length ca := eval_out F 0 (by kernel_rfl) _ rfl
      exact op_move (.tmp 0) rfl ⟨_, rfl, Below.refl _ _, f0⟩
    | 20, ho =>
      obtain rfl := Option.some.inj ho
      have hg : aa.tmps.getD 71 undef = .bool false := F.of 18 (by kernel_rfl)
      refine flow_yes rfl rfl 71 rfl hg ?_
      have f1 : aa.tmps.getD 1 undef = .slice Ab b.length cb := eval_out F 1 (by kernel_rfl) _ rfl
      exact op_move (.tmp 1) rfl ⟨_, rfl, Below.refl _ _, f1⟩
    | 21, ho =>
      obtain rfl := Option.some.inj ho
      have hg : aa.tmps.getD 71 undef = .bool false := F.of 18 (by kernel_rfl)
      refine flow_yes rfl rfl 71 rfl hg ?_
      have f72 : (aa.tmps.getD 72 undef) = .slice Aa a.length ca := F.of 19 (by kernel_rfl)
      have f73 : (aa.tmps.getD 73 undef) = .slice Ab b.length cb := F.of 20 (by kernel_rfl)
      refine op_call 26 #[.tmp 72, .tmp 73] #[25, 25] rfl _ rfl rfl rfl #[.slice Aa a.length ca, .slice Ab b.length cb] (by simp [Act.eval, f72, f73]) ?_
      refine (differ_calls _ (HA.out.below (below_step HW5.out hlow)) (HB.out.below (below_step HW5.out hlow)) HFA.out.1 HFB.out.1).mono ?_
      rintro e w7 ⟨v7, rfl, ho7, hb7⟩
      exact ⟨_, rfl, _, rfl, hb7, Sl.of_own ho7⟩
    | 22, ho =>
      obtain rfl := Option.some.inj ho
      have hg : aa.tmps.getD 71 undef = .bool false := F.of 18 (by kernel_rfl)
      refine flow_yes rfl rfl 71 rfl hg ?_
      have f0 : aa.tmps.getD 0 undef = .slice Aa a.length ca := eval_out F 0 (by kernel_rfl) _ rfl
      exact op_move (.tmp 0) rfl ⟨_, rfl, Below.refl _ _, f0⟩
    | 23, ho =>
      obtain rfl := Option.some.inj ho
      have hg : aa.tmps.getD 71 undef = .bool false := F.of 18 (by kernel_rfl)
      refine flow_yes rfl rfl 71 rfl hg ?_
      have f1 : aa.tmps.getD 1 undef = .slice Ab b.length cb := eval_out F 1 (by kernel_rfl) _ rfl
      exact op_move (.tmp 1) rfl ⟨_, rfl, Below.refl _ _, f1⟩
    | 24, ho =>
      obtain rfl := Option.some.inj ho
      have hg : aa.tmps.getD 71 undef = .bool false := F.of 18 (by kernel_rfl)
      refine flow_yes rfl rfl 71 rfl hg ?_
      have f75 : (aa.tmps.getD 75 undef) = .slice Aa a.length ca := F.of 22 (by kernel_rfl)
      have f76 : (aa.tmps.getD 76 undef) = .slice Ab b.length cb := F.of 23 (by kernel_rfl)
      refine op_call 27 #[.tmp 75, .tmp 76] #[25, 25] rfl _ rfl rfl rfl #[.slice Aa a.length ca, .slice Ab b.length cb] (by simp [Act.eval, f75, f76]) ?_
      refine (rdiffer_calls _ (HA.out.below (below_step HW5.out hlow)) (HB.out.below (below_step HW5.out hlow)) HFA.out.1 HFB.out.1).mono ?_
      rintro e w7 ⟨v7, rfl, ho7, hb7⟩
      exact ⟨_, rfl, _, rfl, hb7, Sl.of_own ho7⟩
    | 25, ho =>
      obtain rfl := Option.some.inj ho
      have hg : aa.tmps.getD 71 undef = .bool false := F.of 18 (by kernel_rfl)
      refine flow_yes rfl rfl 71 rfl hg ?_
      have f74 : Sl iv 3 w' 0 (aa.tmps.getD 74 undef) (differL a b) := F.of 21 (by kernel_rfl)
      have f77 : Sl iv 3 w' 0 (aa.tmps.getD 77 undef) (differL a b) := F.of 24 (by kernel_rfl)
      refine op_call 25 #[.tmp 74, .tmp 77] #[43, 43] rfl _ rfl rfl rfl #[aa.tmps.getD 74 undef, aa.tmps.getD 77 undef] (by simp [Act.eval]) ?_
      refine (ints_calls _ f74 f77).mono ?_
      rintro e w7 ⟨rfl, hb7⟩
      exact ⟨_, rfl, _, rfl, hb7, by rw [beq_self_eq_true]; rfl⟩
    | 26, ho =>
      obtain rfl := Option.some.inj ho
      have hg : aa.tmps.getD 71 undef = .bool false := F.of 18 (by kernel_rfl)
      refine flow_yes rfl rfl 71 rfl hg ?_
      have f78 : (aa.tmps.getD 78 undef) = .bool true := F.of 25 (by kernel_rfl)
      refine op_pure (.bool false) ?_ ⟨_, rfl, Below.refl _ _, rfl⟩
      simp [execOp, Act.eval, go_sem, f78]
    | 27, ho =>
      obtain rfl := Option.some.inj ho
      refine flow_plain rfl rfl ?_
      have f71 : (aa.tmps.getD 71 undef) = .bool false := F.of 18 (by kernel_rfl)
      have f79 : (aa.tmps.getD 79 undef) = .bool false := F.of 26 (by kernel_rfl)
      refine op_pure (.bool false) ?_ ⟨_, rfl, Below.refl _ _, rfl⟩
      simp [execOp, Act.eval, go_sem, f71, f79]
    | j + 28, ho => exact absurd (Array.getElem?_eq_some_iff.1 ho).1 (by simp)
  · intro vs w' hlow hvs
    have h27 : vs 27 = .bool false := hvs 27 (by simp)
    have HW6 := Aside0.mk (below_step HW5.out hlow)
    rw [puts_eq _ vs _ [53, 54, 55, 56, 57, 58, 59, 60, 61, 62, 63, 64, 65, 66, 67, 68, 69, 70, 71, 72, 73, 74, 75, 76, 77, 78, 79, 80] (by kernel_rfl)]
    simp only [putL, Act.put, List.setIfInBounds_toArray, List.set_cons_zero, List.set_cons_succ, Nat.reduceAdd]
    rw [h27]
    clear hvs hlow h27
    go_wp2_with fail
    refine (verify_calls k n _ (HR.out.below HW6.out) (HR.out.below HW6.out) (HP.out.below HW6.out) (by have := H4.out; omega) HFP.out (Nat.le_trans hb4 HW6.out.size) (Nat.le_trans hb5 HW6.out.size) hn).mono ?_
    rintro e w7 ⟨rfl, hb7⟩
    have HW7 := Aside0.mk (below_step HW6.out hb7)
    obtain ⟨V, hV⟩ : ∃ V, V = verifyL root root k n pr := ⟨_, rfl⟩
    rw [← hV]
    have HV := Aside0.mk hV
    clear hb7 hV
    go_wp2_with fail
    refine (rverify_calls k n _ (HR.out.below HW7.out) (HR.out.below HW7.out) (HP.out.below HW7.out) (by have := H4.out; omega) HFP.out hn).mono ?_
    rintro e w8 ⟨rfl, hb8⟩
    have HW8 := Aside0.mk (below_step HW7.out hb8)
    rw [← HV.out]
    have dv : (V == V) = true := beq_self_eq_true V
    clear hb8
    go_wp2_with fail
    refine (rroot_calls _ (HA.out.below HW8.out) (Nat.le_trans hb0 HW8.out.size) HFA.out).mono ?_
    rintro e w9 ⟨v9, rfl, hs9, hb9⟩
    have HW9 := Aside0.mk (below_step HW8.out hb9)
    have HR9 := Aside0.mk hs9
    clear hb9 hs9
    go_wp2_with fail
    refine (verify_calls k a.length _ HR9.out (HR.out.below HW9.out) (HP.out.below HW9.out) (by have := H4.out; omega) HFP.out (Nat.le_trans hb4 HW9.out.size) (Nat.le_trans hb5 HW9.out.size) (by omega)).mono ?_
    rintro e w10 ⟨rfl, hb10⟩
    have HW10 := Aside0.mk (below_step HW9.out hb10)
    obtain ⟨V2, hV2⟩ : ∃ V, V = verifyL (rootL a) root k a.length pr := ⟨_, rfl⟩
    rw [← hV2]
    have HV2 := Aside0.mk hV2
    clear hb10 hV2
    go_wp2_with fail
    refine (rroot_calls _ (HA.out.below HW10.out) (Nat.le_trans hb0 HW10.out.size) HFA.out).mono ?_
    rintro e w11 ⟨v11, rfl, hs11, hb11⟩
    have HW11 := Aside0.mk (below_step HW10.out hb11)
    have HR11 := Aside0.mk hs11
    clear hb11 hs11
    go_wp2_with fail
    refine (rverify_calls k a.length _ HR11.out (HR.out.below HW11.out) (HP.out.below HW11.out) (by have := H4.out; omega) HFP.out (by omega)).mono ?_
    rintro e w12 ⟨rfl, hb12⟩
    have HW12 := Aside0.mk (below_step HW11.out hb12)
    rw [← HV2.out]
    have dv2 : (V2 == V2) = true := beq_self_eq_true V2
    clear hb12
    go_wp2_with fail
    refine (awake2_calls _).mono ?_
    rintro e w13 ⟨rfl, hb13⟩
    have HW13 := Aside0.mk (below_step HW12.out hb13)
    clear hb13
    go_wp2_with fail
    go_ret
    exact ⟨rfl, HW13.out⟩

end Go.Proofs.Ytjoljmkedghcbaa
