/-
  Against any data the bad blocks are told, and what can be healed is healed, as the document says. No condition.
-/
import Derived.Test.YtplbmflgmfoanaaLaw7
import Derived.Test.YtplbmflgmfoanaaIntsEq
import Derived.Deep.RegionHeld3
namespace Go.Proofs.Ytplbmflgmfoanaa
open Go.RowKit
set_option linter.unusedVariables false
set_option linter.unusedSimpArgs false

set_option maxHeartbeats 8000000 in
set_option maxRecDepth 100000 in
theorem checks7 {b0 : Nat} {v vr vl vp : Value} {data root : List UInt8} {leaves par : List (List UInt8)} (size block k : Int) (w : World) (h : SideR w vr vl vp root leaves par) (hv : Sl bv 5 w b0 v data)
    (hs : -9223372036854775808 ≤ size ∧ size ≤ 9223372036854775807) (hb : -9223372036854775808 ≤ block ∧ block ≤ 9223372036854775807) (hk : -9223372036854775808 ≤ k ∧ k ≤ 9223372036854775807) :
    Calls Try.prog 4 #[.agg #[.int .i64 size, .int .i64 block, .int .i64 k, vr, vl, vp], v] w fun e w' => e = .returned (.bool true) ∧ Below w.heap.size w w' := by
  have HR := Aside0.mk h
  have HV := Aside0.mk hv
  obtain ⟨⟨br, hr⟩, ⟨bl, hl⟩, ⟨bp, hp⟩⟩ := h
  have HL := Aside0.mk hl
  obtain ⟨Ar, cr, rfl, _, hmr, _⟩ := hr
  obtain ⟨Al, cl, rfl, _, hml⟩ := hl.shape
  obtain ⟨Ap, cp, rfl, _, hmp⟩ := hp.shape
  obtain ⟨A, c, rfl, hc, hlv, _⟩ := hv
  have HB0 : Aside0 (∀ o, Below w.heap.size w (w.alloc o)) := ⟨fun o => (Below.refl _ _).alloc (Nat.le_refl _) _⟩
  have HS := Aside0.mk hs
  have HBB := Aside0.mk hb
  have HKK := Aside0.mk hk
  clear hl hp hs hb hk
  go_enter Try.func4, Try.ntmps4
  go_wp2_with fail
  refine (small7_calls _ _ _ _ (HR.out.below (HB0.out _))).mono ?_
  rintro e w1 ⟨⟨b, rfl, hs1⟩, hb1⟩
  have HB := Aside0.mk (below_step (HB0.out _) hb1)
  have HG1 := Aside0.mk (below_heap hb1 (heap_new rfl))
  clear hb1
  cases b with
  | false =>
    clear hs1
    go_wp2_with (go_at_call 5; refine (awake7_calls _).mono ?_; rintro e w1 ⟨rfl, hb1⟩; have HB := Aside0.mk (below_step HB.out hb1); clear hb1)
    go_ret
    exact ⟨rfl, HB.out⟩
  | true =>
    have HSM := Aside0.mk (hs1 rfl)
    clear hs1
    by_cases h1 : 3000 < data.length
    · have d1 : decide (3000 < data.length) = true := decide_eq_true h1
      go_wp2_with (go_at_call 5; refine (awake7_calls _).mono ?_; rintro e w1 ⟨rfl, hb1⟩; have HB := Aside0.mk (below_step HB.out hb1); clear hb1)
      go_ret
      exact ⟨rfl, HB.out⟩
    · have d1 : decide (3000 < data.length) = false := decide_eq_false h1
      have HF : Aside0 (leaves.length ≤ 1000000000) := ⟨by have := wt_length leaves; have := HSM.out.1; omega⟩
      have c1 := (blk HG1.out).1
      go_wp2_with fail
      refine (rsound_calls _ _ _ _ (HR.out.below HB.out) HS.out HBB.out HF.out).mono ?_
      rintro e w2 ⟨rfl, hb2⟩
      have HB2 := Aside0.mk (below_step HB.out hb2)
      have HG2 := Aside0.mk (below_heap hb2 HG1.out)
      clear hb2 c1 HG1
      rcases hso : soundB size block k root leaves par with _ | _
      · clear hso
        go_wp2_with (go_at_call 5; refine (awake7_calls _).mono ?_; rintro e w1 ⟨rfl, hb1⟩; have HB := Aside0.mk (below_step HB2.out hb1); clear hb1)
        go_ret
        exact ⟨rfl, HB.out⟩
      · obtain ⟨n, rfl⟩ : ∃ n : Nat, size = n := ⟨size.toNat, by have := (mayS_iff.1 (sound_get hso)).1; omega⟩
        have HSO := Aside0.mk hso
        have HN := Aside0.mk (mayS_iff.1 (sound_get hso))
        have HFL := Aside0.mk (fitL_length data n)
        have hn8 : n ≤ 8192 := by have := HN.out; omega
        obtain ⟨BL, hBL⟩ : ∃ BL, badL (fitL data n) block leaves = BL := ⟨_, rfl⟩
        obtain ⟨FX, hFX⟩ : ∃ FX, fixL (fitL data n) block k leaves par = FX := ⟨_, rfl⟩
        have hbn : BL.length ≤ 1048576 := by
          have h1 := badN_length (fitL data n) block leaves (cnt (fitL data n).length block).toNat
          have h3 := cnt_bd (fitL data n).length block
          rw [← hBL]
          unfold badL
          omega
        have HBL := Aside0.mk hBL
        have HFX := Aside0.mk hFX
        have HKC : Aside0 (∀ w', Below w2.heap.size w2 w' → w'.cell? ⟨w.heap.size, 0, none⟩ = some (.int .i64 n) ∧ w'.cell? ⟨w.heap.size, 1, none⟩ = some (.int .i64 block) ∧ w'.cell? ⟨w.heap.size, 4, none⟩ = some (.slice Al leaves.length cl)) := ⟨fun w' hb' => by
          have := (blk (below_heap hb' HG2.out)).1
          exact ⟨this 0, this 1, this 4⟩⟩
        have HW := Aside0.mk (Below.refl w2.heap.size w2)
        clear hso hBL hFX
        go_wp2_with fail
        go_region_held3 (fun w' => w'.cell? ⟨w.heap.size, 0, none⟩ = some (.int .i64 n) ∧ w'.cell? ⟨w.heap.size, 1, none⟩ = some (.int .i64 block) ∧ w'.cell? ⟨w.heap.size, 4, none⟩ = some (.slice Al leaves.length cl)) (first | exact HKC.out _ HW.out | exact HKC.out _ HW.out.drew) (first
          | ((go_at_call 14; refine (rfit_calls n _ (HV.out.below (below_step HB2.out (by first | exact HW.out.drew | exact HW.out))) (by omega) (by omega)).mono ?_; rintro e w3 ⟨v3, rfl, ho3, hb3⟩)
             have HFO := Aside0.mk (Sl.of_own (b := 0) ho3)
             obtain ⟨A3, c3, rfl, _⟩ := Sl.of_own (b := 0) ho3
             have HW := Aside0.mk (below_step (by first | exact HW.out.drew | exact HW.out) hb3)
             clear ho3 hb3)
          | ((go_at_call 13; refine (rbad_calls block _ (HFO.out.below (Below.refl _ _)) (HL.out.below (below_step HB2.out HW.out)) HBB.out (by rw [HFL.out]; omega)).mono ?_; rintro e w4 ⟨v4, rfl, ho4, hb4⟩)
             rw [HBL.out] at ho4
             have HBO := Aside0.mk (Sl.of_own (b := 0) ho4)
             obtain ⟨A4, c4, rfl, _⟩ := Sl.of_own (b := 0) ho4
             have HW := Aside0.mk (below_step HW.out hb4)
             clear ho4 hb4))
        have HC4 := Aside0.mk ((blk (below_heap HW.out HG2.out)).1)
        rcases hq : ((data.length : Int) == (n : Int)) with _ | _
        · have hc4 := HC4.out
          have HG5 := Aside0.mk (below_heap HW.out HG2.out)
          have HBW := Aside0.mk (below_step HB2.out HW.out)
          have HQ := Aside0.mk hq
          go_wp2_with fail
          clear HC4 HKC
          refine (made_calls _ _ _ _ ⟨_, _, _, rfl⟩ ⟨_, _, _, rfl⟩ ⟨_, _, _, rfl⟩).mono ?_
          rintro e w5 ⟨rfl, hb5⟩
          have HB5 := Aside0.mk (below_step HBW.out hb5)
          have HI5 := Aside0.mk (HBO.out.below hb5)
          have HG6 := Aside0.mk (below_heap hb5 HG5.out)
          clear hb5 hc4
          go_wp2_with fail
          refine (check_good n block k _ (HR.out.below HB5.out) (HV.out.below HB5.out) HSO.out HF.out).mono ?_
          rintro e w6 ⟨v6, rfl, ho6, hb6⟩
          rw [HBL.out] at ho6 ⊢
          rw [HQ.out]
          obtain ⟨A6, c6, rfl, _⟩ := Sl.of_own (b := 0) ho6
          have HI6 := Aside0.mk (And.intro (HI5.out.below hb6) (Sl.of_own (b := 0) ho6))
          have HB6 := Aside0.mk (below_step HB5.out hb6)
          have HG7 := Aside0.mk (below_heap hb6 HG6.out)
          have c7 := (blk HG7.out).1
          simp only [Bool.and_false, Bool.and_true]
          clear ho6 hb6
          go_wp2_with fail
          refine (made_calls _ _ _ _ ⟨_, _, _, rfl⟩ ⟨_, _, _, rfl⟩ ⟨_, _, _, rfl⟩).mono ?_
          rintro e w7 ⟨rfl, hb7⟩
          have HB7 := Aside0.mk (below_step HB6.out hb7)
          have HI7 := Aside0.mk (And.intro (HI6.out.1.below hb7) (HI6.out.2.below hb7))
          have HG8 := Aside0.mk (below_heap hb7 HG7.out)
          clear hb7 c7
          go_wp2_with fail
          refine (repair_good n block k _ (HR.out.below HB7.out) (HV.out.below HB7.out) HSO.out HF.out).mono ?_
          rintro e w8 ⟨vf8, vb8, rfl, hf8, ho8, hb8⟩
          rw [HFX.out] at hf8 ho8
          obtain ⟨A8, c8, rfl, _⟩ := Sl.of_own (b := 0) hf8
          obtain ⟨A8', c8', rfl, _⟩ := Sl.of_own (b := 0) ho8
          have HF8 := Aside0.mk (And.intro (Sl.of_own (b := 0) hf8) (Sl.of_own (b := 0) ho8))
          have HI8 := Aside0.mk (And.intro (HI7.out.1.below hb8) (HI7.out.2.below hb8))
          have HB8 := Aside0.mk (below_step HB7.out hb8)
          have HG9 := Aside0.mk (below_heap hb8 HG8.out)
          have c9 := (blk HG9.out).1
          clear hf8 ho8 hb8
          go_wp2_with fail
          refine (rrepair_good n block k _ (HR.out.below HB8.out) (HV.out.below HB8.out) HSO.out HF.out (by omega)).mono ?_
          rintro e w9 ⟨vf9, vb9, rfl, hf9, ho9, hb9⟩
          rw [HFX.out] at hf9 ho9
          obtain ⟨A9, c9', rfl, _⟩ := Sl.of_own (b := 0) hf9
          obtain ⟨A9', c9'', rfl, _⟩ := Sl.of_own (b := 0) ho9
          have HF9 := Aside0.mk (And.intro (Sl.of_own (b := 0) hf9) (Sl.of_own (b := 0) ho9))
          have HF8 := Aside0.mk (And.intro (HF8.out.1.below hb9) (HF8.out.2.below hb9))
          have HI9 := Aside0.mk (And.intro (HI8.out.1.below hb9) (HI8.out.2.below hb9))
          have HB9 := Aside0.mk (below_step HB8.out hb9)
          have HW := Aside0.mk (Below.refl w9.heap.size w9)
          clear hf9 ho9 hb9 c9
          go_wp2_with (first
            | (go_at_call 19; refine (ints_calls _ HI9.out.2 HI9.out.1).mono ?_; rintro e w12 ⟨rfl, hb12⟩; rw [beq_self_eq_true]; have HW := Aside0.mk (below_step HW.out hb12); clear hb12 HI9; have K5 := (HF8.out.1.below HW.out).string (P := Try.prog) Try.underlying22 Try.underlying5 Try.underlying9; have K6 := (HF9.out.1.below HW.out).string (P := Try.prog) Try.underlying22 Try.underlying5 Try.underlying9)
            | (go_at_call 19; refine (ints_calls _ (HF8.out.2.below HW.out) (HF9.out.2.below HW.out)).mono ?_; rintro e w13 ⟨rfl, hb13⟩; rw [beq_self_eq_true]; have HW := Aside0.mk (below_step HW.out hb13); clear hb13)
            | (go_at_call 5; refine (awake7_calls _).mono ?_; rintro e w14 ⟨rfl, hb14⟩; have HW := Aside0.mk (below_step HW.out hb14); clear hb14))
          go_ret
          exact ⟨rfl, below_step HB9.out HW.out⟩
        · have hc4 := HC4.out
          have HG5 := Aside0.mk (below_heap HW.out HG2.out)
          have HBW := Aside0.mk (below_step HB2.out HW.out)
          have HQ := Aside0.mk hq
          go_wp2_with fail
          clear HC4 HKC
          refine (made_calls _ _ _ _ ⟨_, _, _, rfl⟩ ⟨_, _, _, rfl⟩ ⟨_, _, _, rfl⟩).mono ?_
          rintro e w5 ⟨rfl, hb5⟩
          have HB5 := Aside0.mk (below_step HBW.out hb5)
          have HI5 := Aside0.mk (HBO.out.below hb5)
          have HG6 := Aside0.mk (below_heap hb5 HG5.out)
          clear hb5 hc4
          go_wp2_with fail
          refine (check_good n block k _ (HR.out.below HB5.out) (HV.out.below HB5.out) HSO.out HF.out).mono ?_
          rintro e w6 ⟨v6, rfl, ho6, hb6⟩
          rw [HBL.out] at ho6 ⊢
          rw [HQ.out]
          obtain ⟨A6, c6, rfl, _⟩ := Sl.of_own (b := 0) ho6
          have HI6 := Aside0.mk (And.intro (HI5.out.below hb6) (Sl.of_own (b := 0) ho6))
          have HB6 := Aside0.mk (below_step HB5.out hb6)
          have HG7 := Aside0.mk (below_heap hb6 HG6.out)
          have c7 := (blk HG7.out).1
          simp only [Bool.and_false, Bool.and_true]
          clear ho6 hb6
          go_wp2_with fail
          refine (made_calls _ _ _ _ ⟨_, _, _, rfl⟩ ⟨_, _, _, rfl⟩ ⟨_, _, _, rfl⟩).mono ?_
          rintro e w7 ⟨rfl, hb7⟩
          have HB7 := Aside0.mk (below_step HB6.out hb7)
          have HI7 := Aside0.mk (And.intro (HI6.out.1.below hb7) (HI6.out.2.below hb7))
          have HG8 := Aside0.mk (below_heap hb7 HG7.out)
          clear hb7 c7
          go_wp2_with fail
          refine (repair_good n block k _ (HR.out.below HB7.out) (HV.out.below HB7.out) HSO.out HF.out).mono ?_
          rintro e w8 ⟨vf8, vb8, rfl, hf8, ho8, hb8⟩
          rw [HFX.out] at hf8 ho8
          obtain ⟨A8, c8, rfl, _⟩ := Sl.of_own (b := 0) hf8
          obtain ⟨A8', c8', rfl, _⟩ := Sl.of_own (b := 0) ho8
          have HF8 := Aside0.mk (And.intro (Sl.of_own (b := 0) hf8) (Sl.of_own (b := 0) ho8))
          have HI8 := Aside0.mk (And.intro (HI7.out.1.below hb8) (HI7.out.2.below hb8))
          have HB8 := Aside0.mk (below_step HB7.out hb8)
          have HG9 := Aside0.mk (below_heap hb8 HG8.out)
          have c9 := (blk HG9.out).1
          clear hf8 ho8 hb8
          go_wp2_with fail
          refine (rrepair_good n block k _ (HR.out.below HB8.out) (HV.out.below HB8.out) HSO.out HF.out (by omega)).mono ?_
          rintro e w9 ⟨vf9, vb9, rfl, hf9, ho9, hb9⟩
          rw [HFX.out] at hf9 ho9
          obtain ⟨A9, c9', rfl, _⟩ := Sl.of_own (b := 0) hf9
          obtain ⟨A9', c9'', rfl, _⟩ := Sl.of_own (b := 0) ho9
          have HF9 := Aside0.mk (And.intro (Sl.of_own (b := 0) hf9) (Sl.of_own (b := 0) ho9))
          have HF8 := Aside0.mk (And.intro (HF8.out.1.below hb9) (HF8.out.2.below hb9))
          have HI9 := Aside0.mk (And.intro (HI8.out.1.below hb9) (HI8.out.2.below hb9))
          have HB9 := Aside0.mk (below_step HB8.out hb9)
          have HW := Aside0.mk (Below.refl w9.heap.size w9)
          clear hf9 ho9 hb9 c9
          go_wp2_with (first
            | (go_at_call 19; refine (ints_calls _ HI9.out.2 HI9.out.1).mono ?_; rintro e w12 ⟨rfl, hb12⟩; rw [beq_self_eq_true]; have HW := Aside0.mk (below_step HW.out hb12); clear hb12 HI9; have K5 := (HF8.out.1.below HW.out).string (P := Try.prog) Try.underlying22 Try.underlying5 Try.underlying9; have K6 := (HF9.out.1.below HW.out).string (P := Try.prog) Try.underlying22 Try.underlying5 Try.underlying9)
            | (go_at_call 19; refine (ints_calls _ (HF8.out.2.below HW.out) (HF9.out.2.below HW.out)).mono ?_; rintro e w13 ⟨rfl, hb13⟩; rw [beq_self_eq_true]; have HW := Aside0.mk (below_step HW.out hb13); clear hb13)
            | (go_at_call 5; refine (awake7_calls _).mono ?_; rintro e w14 ⟨rfl, hb14⟩; have HW := Aside0.mk (below_step HW.out hb14); clear hb14))
          go_ret
          exact ⟨rfl, below_step HB9.out HW.out⟩
end Go.Proofs.Ytplbmflgmfoanaa
