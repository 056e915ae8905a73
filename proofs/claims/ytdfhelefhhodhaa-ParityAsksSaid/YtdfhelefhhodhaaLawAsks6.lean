/-
  Parity answers as the reference does: what it is, what it becomes, what is bad and what is mended. No condition.
-/
import Derived.Test.YtdfhelefhhodhaaRUpdate2
import Derived.Test.YtdfhelefhhodhaaRFix1
import Derived.Test.YtdfhelefhhodhaaBytesW
import Derived.Test.YtdfhelefhhodhaaIntsEq
import Derived.Test.YtdfhelefhhodhaaLaw6
namespace Go.Proofs.Ytdfhelefhhodhaa
open Go.RowKit
set_option linter.unusedVariables false
set_option linter.unusedSimpArgs false

def SmallAns (data : List UInt8) (e : Ending) : Prop := ∃ b : Bool, e = .returned (.bool b) ∧ (b = true → data.length ≤ 2000)
theorem small_calls {e0 b0 : Nat} {v : Value} {data : List UInt8} (block : Int) (w : World) (hv : Sl bv e0 w b0 v data) (hb : -9223372036854775808 ≤ block ∧ block ≤ 9223372036854775807) :
    Calls Try.prog 15 #[v, .int .i64 block] w fun e w' => SmallAns data e ∧ w = w' := by
  obtain ⟨A, c, rfl, hc, hm, _⟩ := hv
  by_cases h1 : data.length ≤ 2000
  · by_cases h2 : block < 1
    · go_enter Try.func15, Try.ntmps15
      go_wp2_with fail
      go_ret
      exact ⟨⟨_, rfl, fun _ => h1⟩, rfl⟩
    · by_cases h3 : 4096 < block
      · go_enter Try.func15, Try.ntmps15
        go_wp2_with fail
        go_ret
        exact ⟨⟨_, rfl, fun _ => h1⟩, rfl⟩
      · have hd0 : 0 ≤ (data.length : Int) / block := Int.ediv_nonneg (by omega) (by omega)
        have hd9 : (data.length : Int) / block ≤ 2000 := Int.le_trans (Int.ediv_le_self _ (by omega)) (by omega)
        go_enter Try.func15, Try.ntmps15
        go_wp2_with fail
        go_ret
        exact ⟨⟨_, rfl, fun _ => h1⟩, rfl⟩
  · have d1 : decide (data.length ≤ 2000) = false := decide_eq_false h1
    go_enter Try.func15, Try.ntmps15
    go_wp2_with fail
    go_ret
    exact ⟨⟨false, rfl, fun h => by cases h⟩, rfl⟩

theorem update_any {b0 b1 b2 e1 e2 : Nat} {vp vo vn : Value} {par : List (List UInt8)} {old now : List UInt8} (block k : Int) (w : World) (hp : SlL w b0 vp par) (ho : Sl bv e1 w b1 vo old) (hn : Sl bv e2 w b2 vn now)
    (hb : -9223372036854775808 ≤ block ∧ block ≤ 9223372036854775807) :
    Calls Try.prog 9 #[vp, vo, vn, .int .i64 block, .int .i64 k] w fun e w' => ∃ v' b, e = .returned (.tuple #[v', .int .i64 (if updOk par old block k = true then 0 else 1)]) ∧ SlL w' b v' (if updOk par old block k = true then updL par old now block k else []) ∧ Below w.heap.size w w' := by
  rcases h : updOk par old block k with _ | _
  · refine (update_bad block k w hp ho hn hb h).mono ?_
    rintro e w' ⟨rfl, hb'⟩
    exact ⟨_, 0, rfl, (OwnL.nil _ 0).reads, hb'⟩
  · refine (update_good block k w hp ho hn hb h).mono ?_
    rintro e w' ⟨v', rfl, hl, hb'⟩
    exact ⟨_, _, rfl, hl.reads, hb'⟩
theorem rupdate_any {b0 b1 b2 e1 e2 : Nat} {vp vo vn : Value} {par : List (List UInt8)} {old now : List UInt8} (block k : Int) (w : World) (hp : SlL w b0 vp par) (ho : Sl bv e1 w b1 vo old) (hn : Sl bv e2 w b2 vn now)
    (hb : -9223372036854775808 ≤ block ∧ block ≤ 9223372036854775807) (hk : -9223372036854775808 ≤ k ∧ k ≤ 9223372036854775807) :
    Calls Try.prog 16 #[vp, vo, vn, .int .i64 block, .int .i64 k] w fun e w' => ∃ v' b, e = .returned (.tuple #[v', .int .i64 (if updOk par old block k = true then 0 else 1)]) ∧ SlL w' b v' (if updOk par old block k = true then updL par old now block k else []) ∧ Below w.heap.size w w' := by
  rcases h : updOk par old block k with _ | _
  · refine (rupdate_bad block k w hp ho hn hb hk h).mono ?_
    rintro e w' ⟨rfl, hb'⟩
    exact ⟨_, 0, rfl, (OwnL.nil _ 0).reads, hb'⟩
  · refine (rupdate_good block k w hp ho hn hb hk h).mono ?_
    rintro e w' ⟨v', b, rfl, hl, hb'⟩
    exact ⟨_, _, rfl, hl, hb'⟩
set_option maxHeartbeats 8000000 in
set_option maxRecDepth 100000 in
theorem asks6 {b0 b1 b2 b3 : Nat} {vd vo vp vl : Value} {data old : List UInt8} {par leaves : List (List UInt8)} (block k : Int) (w : World) (hd : Sl bv 5 w b0 vd data) (ho : Sl bv 5 w b1 vo old) (hp : SlL w b2 vp par) (hl : SlL w b3 vl leaves)
    (hb : -9223372036854775808 ≤ block ∧ block ≤ 9223372036854775807) (hk : -9223372036854775808 ≤ k ∧ k ≤ 9223372036854775807) :
    Calls Try.prog 5 #[vd, vo, .int .i64 block, .int .i64 k, vp, vl] w fun e w' => e = .returned (.bool true) ∧ Below w.heap.size w w' := by
  have HD := Aside0.mk hd
  have HO := Aside0.mk ho
  have HP := Aside0.mk hp
  have HL := Aside0.mk hl
  have HB := Aside0.mk (Below.refl w.heap.size w)
  obtain ⟨Ad, cd, rfl, hcd, hmd, _⟩ := hd
  obtain ⟨Ao, co, rfl, hco, hmo, _⟩ := ho
  obtain ⟨Ap, cp, rfl, hcp, hmp⟩ := hp.shape
  obtain ⟨Al, cl, rfl, hcl, hml⟩ := hl.shape
  clear hp hl
  go_enter Try.func5, Try.ntmps5
  go_wp2_with fail
  refine (small_calls block w HD.out hb).mono ?_
  rintro e w' ⟨⟨b, rfl, hs1⟩, rfl⟩
  cases b with
  | false =>
    clear hs1
    go_wp2_with (go_at_call 7; refine (awake_calls _).mono ?_; rintro e w1 ⟨rfl, hb1⟩; have HB := Aside0.mk (below_step HB.out hb1); clear hb1)
    go_ret
    exact ⟨rfl, HB.out⟩
  | true =>
    have hd2 := hs1 rfl
    clear hs1
    go_wp2_with fail
    refine (small_calls block w HO.out hb).mono ?_
    rintro e w' ⟨⟨b, rfl, hs1⟩, rfl⟩
    cases b with
    | false =>
      clear hs1
      go_wp2_with (go_at_call 7; refine (awake_calls _).mono ?_; rintro e w1 ⟨rfl, hb1⟩; have HB := Aside0.mk (below_step HB.out hb1); clear hb1)
      go_ret
      exact ⟨rfl, HB.out⟩
    | true =>
      have ho2 := hs1 rfl
      clear hs1
      go_wp2_with fail
      refine (bytes_calls 4000 w HP.out (by decide)).mono ?_
      rintro e w1 ⟨q, rfl, _, _, hq3, hb1⟩
      have HB := Aside0.mk hb1
      clear hb1
      by_cases h1 : 4000 < q
      · have d1 : decide (4000 < q) = true := decide_eq_true h1
        go_wp2_with (go_at_call 7; refine (awake_calls _).mono ?_; rintro e w1 ⟨rfl, hb1⟩; have HB := Aside0.mk (below_step HB.out hb1); clear hb1)
        go_ret
        exact ⟨rfl, HB.out⟩
      · have d1 : decide (4000 < q) = false := decide_eq_false h1
        go_wp2_with fail
        refine (bytes_calls 4000 w1 (HL.out.below HB.out) (by decide)).mono ?_
        rintro e w2 ⟨q2, rfl, _, _, hq4, hb2⟩
        have HB := Aside0.mk (below_step HB.out hb2)
        clear hb2
        by_cases h2 : 4000 < q2
        · have d2 : decide (4000 < q2) = true := decide_eq_true h2
          go_wp2_with (go_at_call 7; refine (awake_calls _).mono ?_; rintro e w1 ⟨rfl, hb1⟩; have HB := Aside0.mk (below_step HB.out hb1); clear hb1)
          go_ret
          exact ⟨rfl, HB.out⟩
        · have d2 : decide (4000 < q2) = false := decide_eq_false h2
          obtain ⟨oc, hoc⟩ : ∃ oc : Int, (if updOk par old block k = true then (0 : Int) else 1) = oc := ⟨_, rfl⟩
          obtain ⟨UL, hUL⟩ : ∃ UL, (if updOk par old block k = true then updL par old data block k else []) = UL := ⟨_, rfl⟩
          obtain ⟨FL, hFL⟩ : ∃ FL, fixL data block k leaves par = FL := ⟨_, rfl⟩
          obtain ⟨gq, hgq⟩ : ∃ gq, grp data.length block k = gq := ⟨_, rfl⟩
          have HOC := Aside0.mk hoc
          have HUL := Aside0.mk hUL
          have HFL := Aside0.mk hFL
          have HGQ := Aside0.mk hgq
          clear hoc hUL hFL hgq
          go_wp2_with fail
          refine (update_any block k _ (HP.out.below HB.out) (HO.out.below HB.out) (HD.out.below HB.out) hb).mono ?_
          rintro e w3 ⟨v3, bb3, rfl, hl3, hb3⟩
          rw [HOC.out]
          rw [HUL.out] at hl3
          have HB := Aside0.mk (below_step HB.out hb3)
          have HU1 := Aside0.mk hl3
          obtain ⟨A3, c3, rfl, _⟩ := hl3.shape
          clear hl3 hb3
          go_wp2_with fail
          refine (rupdate_any block k _ (HP.out.below HB.out) (HO.out.below HB.out) (HD.out.below HB.out) hb hk).mono ?_
          rintro e w4 ⟨v4, bb4, rfl, hl4, hb4⟩
          rw [HOC.out]
          rw [HUL.out] at hl4
          have HB := Aside0.mk (below_step HB.out hb4)
          have HU2 := Aside0.mk (And.intro (HU1.out.below hb4) hl4)
          obtain ⟨A4, c4, rfl, _⟩ := hl4.shape
          clear hl4 hb4
          go_wp2_with fail
          refine (fix_calls block k _ (HD.out.below HB.out) (HL.out.below HB.out) (HP.out.below HB.out) hb (by omega)).mono ?_
          rintro e w5 ⟨vf5, vb5, rfl, hf5, hi5, hb5⟩
          rw [HFL.out] at hf5 hi5
          have HB := Aside0.mk (below_step HB.out hb5)
          have HF5 := Aside0.mk (And.intro (Sl.of_own (b := 0) hf5) (Sl.of_own (b := 0) hi5))
          have HU3 := Aside0.mk (And.intro (HU2.out.1.below hb5) (HU2.out.2.below hb5))
          obtain ⟨A5, c5, rfl, _⟩ := Sl.of_own (b := 0) hf5
          obtain ⟨A5', c5', rfl, _⟩ := Sl.of_own (b := 0) hi5
          clear hf5 hi5 hb5
          go_wp2_with fail
          refine (rfix_calls block k _ (HD.out.below HB.out) (HL.out.below HB.out) (HP.out.below HB.out) hb hk (by omega)).mono ?_
          rintro e w6 ⟨vf6, vb6, rfl, hf6, hi6, hb6⟩
          rw [HFL.out] at hf6 hi6
          have HB6 := Aside0.mk (below_step HB.out hb6)
          have HF6 := Aside0.mk (And.intro (Sl.of_own (b := 0) hf6) (Sl.of_own (b := 0) hi6))
          have HF5 := Aside0.mk (And.intro (HF5.out.1.below hb6) (HF5.out.2.below hb6))
          have HU := Aside0.mk (And.intro (HU3.out.1.below hb6) (HU3.out.2.below hb6))
          obtain ⟨A6, c6, rfl, _⟩ := Sl.of_own (b := 0) hf6
          obtain ⟨A6', c6', rfl, _⟩ := Sl.of_own (b := 0) hi6
          have HD6 := Aside0.mk (HD.out.below HB6.out)
          have HL6 := Aside0.mk (HL.out.below HB6.out)
          have HW := Aside0.mk (Below.refl w6.heap.size w6)
          clear hf6 hi6 hb6 HU1 HU2 HU3 HB HD HL HP HO
          go_wp2_with (first
            | (go_at_call 19; refine (groups_calls _ _ _ _ (by omega) hb).mono ?_; rintro e w7 ⟨rfl, rfl⟩; rw [HGQ.out])
            | (go_at_call 20; refine (rgroups_calls _ _ _ _ (by omega) hb).mono ?_; rintro e w7 ⟨rfl, rfl⟩; rw [HGQ.out])
            | (go_at_call 8; refine (build_calls block k _ (HD6.out.below HW.out) hb).mono ?_; rintro e w7 ⟨v7, rfl, hl7, hb7⟩; have HBL1 := Aside0.mk hl7.reads; obtain ⟨A7, c7, rfl, _⟩ := hl7.reads.shape; have HW := Aside0.mk (below_step HW.out hb7); clear hl7 hb7)
            | (go_at_call 11; refine (rbuild_calls block k _ (HD6.out.below HW.out) hb hk).mono ?_; rintro e w8 ⟨v8, rfl, hl8, hb8⟩; have HBL2 := Aside0.mk (And.intro (HBL1.out.below hb8) hl8.reads); obtain ⟨A8, c8, rfl, _⟩ := hl8.reads.shape; have HW := Aside0.mk (below_step HW.out hb8); clear hl8 hb8)
            | (go_at_call 10; refine (lists_calls _ HBL2.out.1 HBL2.out.2).mono ?_; rintro e w9 ⟨rfl, hb9⟩; rw [beq_self_eq_true]; have HW := Aside0.mk (below_step HW.out hb9); clear hb9 HBL2)
            | (go_at_call 10; refine (lists_calls _ (HU.out.1.below HW.out) (HU.out.2.below HW.out)).mono ?_; rintro e w9 ⟨rfl, hb9⟩; rw [beq_self_eq_true]; have HW := Aside0.mk (below_step HW.out hb9); clear hb9)
            | (go_at_call 22; refine (bad_calls block _ (HD6.out.below HW.out) (HL6.out.below HW.out) hb (by omega)).mono ?_; rintro e w10 ⟨v10, rfl, hi10, hb10⟩; have HI1 := Aside0.mk (Sl.of_own (b := 0) hi10); obtain ⟨A10, c10, rfl, _⟩ := Sl.of_own (b := 0) hi10; have HW := Aside0.mk (below_step HW.out hb10); clear hi10 hb10)
            | (go_at_call 23; refine (rbad_calls block _ (HD6.out.below HW.out) (HL6.out.below HW.out) hb (by omega)).mono ?_; rintro e w11 ⟨v11, rfl, hi11, hb11⟩; have HI2 := Aside0.mk (And.intro (HI1.out.below hb11) (Sl.of_own (b := 0) hi11)); obtain ⟨A11, c11, rfl, _⟩ := Sl.of_own (b := 0) hi11; have HW := Aside0.mk (below_step HW.out hb11); clear hi11 hb11)
            | (go_at_call 21; refine (ints_calls _ HI2.out.1 HI2.out.2).mono ?_; rintro e w12 ⟨rfl, hb12⟩; rw [beq_self_eq_true]; have HW := Aside0.mk (below_step HW.out hb12); clear hb12 HI2; have K5 := (HF5.out.1.below HW.out).string (P := Try.prog) Try.underlying25 Try.underlying5 Try.underlying9; have K6 := (HF6.out.1.below HW.out).string (P := Try.prog) Try.underlying25 Try.underlying5 Try.underlying9)
            | (go_at_call 21; refine (ints_calls _ (HF5.out.2.below HW.out) (HF6.out.2.below HW.out)).mono ?_; rintro e w13 ⟨rfl, hb13⟩; rw [beq_self_eq_true]; have HW := Aside0.mk (below_step HW.out hb13); clear hb13)
            | (go_at_call 7; refine (awake_calls _).mono ?_; rintro e w14 ⟨rfl, hb14⟩; have HW := Aside0.mk (below_step HW.out hb14); clear hb14))
          go_ret
          exact ⟨rfl, below_step HB6.out HW.out⟩
end Go.Proofs.Ytdfhelefhhodhaa
