/-
  What is looked at, and what the document fixes, of chapter 7. No condition but that what comes in can be read.
-/
import Derived.Test.YtplbmflgmfoanaaSideRef
import Derived.Test.YtplbmflgmfoanaaWeight
import Derived.Test.YtplbmflgmfoanaaFlow
namespace Go.Proofs.Ytplbmflgmfoanaa
open Go.RowKit
set_option linter.unusedVariables false
set_option linter.unusedSimpArgs false

def SmallAns (root : List UInt8) (leaves par : List (List UInt8)) (e : Ending) : Prop := ∃ b : Bool, e = .returned (.bool b) ∧ (b = true → wt leaves ≤ 6000 ∧ wt par ≤ 6000 ∧ root.length ≤ 100)
set_option maxHeartbeats 1000000 in
theorem small7_calls {vr vl vp : Value} {root : List UInt8} {leaves par : List (List UInt8)} (size block k : Int) (w : World) (h : SideR w vr vl vp root leaves par) :
    Calls Try.prog 11 #[.agg #[.int .i64 size, .int .i64 block, .int .i64 k, vr, vl, vp]] w fun e w' => SmallAns root leaves par e ∧ Below w.heap.size w w' := by
  obtain ⟨⟨br, hr⟩, ⟨bl, hl⟩, ⟨bp, hp⟩⟩ := h
  have HL := Aside0.mk hl
  have HP := Aside0.mk hp
  obtain ⟨Ar, cr, rfl, _, hmr, _⟩ := hr
  obtain ⟨Al, cl, rfl, _, hml⟩ := hl.shape
  obtain ⟨Ap, cp, rfl, _, hmp⟩ := hp.shape
  have HB0 : Aside0 (∀ o, Below w.heap.size w (w.alloc o)) := ⟨fun o => (Below.refl _ _).alloc (Nat.le_refl _) _⟩
  clear hl hp
  go_enter Try.func11, Try.ntmps11
  go_wp2_with fail
  refine (bytes_calls 6000 _ (HL.out.below (HB0.out _)) (by decide)).mono ?_
  rintro e w1 ⟨q, rfl, hq, _, hq3, hb1⟩
  have HB1 := Aside0.mk (below_step (HB0.out _) hb1)
  have HG1 := Aside0.mk (below_heap hb1 (heap_new rfl))
  have HQ := Aside0.mk hq
  clear hb1 hq
  by_cases h1 : q ≤ 6000
  · have d1 : decide (q ≤ 6000) = true := decide_eq_true h1
    have c1 := (blk HG1.out).1
    go_wp2_with fail
    refine (bytes_calls 6000 _ (HP.out.below HB1.out) (by decide)).mono ?_
    rintro e w2 ⟨q2, rfl, hq2, _, hq4, hb2⟩
    have HB2 := Aside0.mk (below_step HB1.out hb2)
    have HG2 := Aside0.mk (below_heap hb2 HG1.out)
    have HQ2 := Aside0.mk hq2
    clear hb2 hq2 c1
    by_cases h2 : q2 ≤ 6000
    · have d2 : decide (q2 ≤ 6000) = true := decide_eq_true h2
      have c2 := (blk HG2.out).1
      go_wp2_with fail
      go_ret
      exact ⟨⟨_, rfl, fun h => ⟨by have := HQ.out h1; omega, by have := HQ2.out h2; omega, by have := of_decide_eq_true h; omega⟩⟩, HB2.out⟩
    · have d2 : decide (q2 ≤ 6000) = false := decide_eq_false h2
      go_wp2_with fail
      go_ret
      exact ⟨⟨false, rfl, fun h => by cases h⟩, HB2.out⟩
  · have d1 : decide (q ≤ 6000) = false := decide_eq_false h1
    go_wp2_with fail
    go_ret
    exact ⟨⟨false, rfl, fun h => by cases h⟩, HB1.out⟩

theorem leaves_none : leavesL [] 16 = [] := by decide
theorem build_none : buildL [] 16 4 = [] := by decide
theorem root_none : rootL [] = shaL [] := rfl
theorem sound_none : soundB 0 16 4 (shaL []) [] [] = true := by
  have h := made_sound (data := []) (block := 16) (k := 4) (by decide)
  rw [leaves_none, build_none, root_none] at h
  exact h

set_option maxHeartbeats 4000000 in
theorem awake7_calls (w : World) : Calls Try.prog 5 #[] w fun e w' => e = .returned (.bool true) ∧ Below w.heap.size w w' := by
  go_enter Try.func5, Try.ntmps5
  go_wp2_with fail
  refine (make_good (b0 := 0) (data := []) 16 4 _ (Sl.nil _ _ _ _) (by decide)).mono ?_
  rintro e w1 ⟨vr, vl, vp, rfl, hsr, hb1⟩
  rw [leaves_none, build_none, root_none] at hsr
  have HSR := Aside0.mk hsr
  obtain ⟨⟨br, hr⟩, ⟨bl, hl⟩, ⟨bp, hp⟩⟩ := hsr
  obtain ⟨Ar, cr, rfl, _, hmr, _⟩ := hr
  obtain ⟨Al, cl, rfl, _, hml⟩ := hl.shape
  obtain ⟨Ap, cp, rfl, _, hmp⟩ := hp.shape
  rw [sha_len] at HSR ⊢
  simp only [List.length_nil] at HSR ⊢
  have HB1 := Aside0.mk hb1
  clear hl hp hb1 hmr hml hmp
  go_wp2_with fail
  have HB2 : Aside0 (Below w1.heap.size w1 (w1.alloc (.cells #[.int .i64 0, .int .i64 16, .int .i64 4, .slice Ar 32 cr, .slice Al 0 cl, .slice Ap 0 cp] 26))) := ⟨(Below.refl _ _).alloc (Nat.le_refl _) _⟩
  have HSR2 := Aside0.mk (HSR.out.below HB2.out)
  refine (make_bad (b0 := 0) (data := []) 15 4 _ (Sl.nil _ _ _ _) (by decide)).mono ?_
  rintro e w2 ⟨rfl, hb2⟩
  have HG := Aside0.mk (below_heap hb2 (heap_new rfl))
  have HSR3 := Aside0.mk (HSR2.out.below hb2)
  have HB3 := Aside0.mk (below_step HB1.out (below_step HB2.out hb2))
  have hsz := hb2.size
  clear hb2
  have c1 := (blk HG.out).1
  have hlt : w1.heap.size < w2.heap.size := by simp at hsz; omega
  clear hsz
  have hne : ¬ w1.heap.size = w2.heap.size := by omega
  go_wp2_with fail
  refine (sound_calls 0 16 4 _ (HSR3.out.below ((Below.refl _ _).alloc (Nat.le_refl _) _)) (by decide) (by decide) (by decide)).mono ?_
  rintro e w3 ⟨rfl, hb3⟩
  rw [sound_none]
  have HB4 := Aside0.mk (below_step HB3.out (below_step ((Below.refl _ _).alloc (Nat.le_refl _) _) hb3))
  clear hb3 c1
  go_wp2_with fail
  go_ret
  exact ⟨rfl, HB4.out⟩
end Go.Proofs.Ytplbmflgmfoanaa
