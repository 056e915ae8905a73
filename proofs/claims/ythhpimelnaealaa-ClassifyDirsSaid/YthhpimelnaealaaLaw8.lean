/-
  The closed examples of chapter 8 hold. No condition.
-/
import Derived.Test.YthhpimelnaealaaClassRef
import Derived.Lib.SlBytesConst
namespace Go.Proofs.Ythhpimelnaealaa
open Go.RowKit
set_option linter.unusedVariables false
set_option linter.unusedSimpArgs false

set_option maxHeartbeats 1000000 in
theorem awake_calls (w : World) : Calls Try.prog 8 #[] w fun e w' => e = .returned (.bool true) ∧ Below w.heap.size w w' := by
  have kc := convert_const (P := Try.prog) 29 5 Try.underlying29 Try.underlying5
  go_enter Try.func8, Try.ntmps8
  go_wp2_with fail
  refine (of_calls (e := 5) (e' := 5) (base := 0) (base' := 0) _ _ _ _ _ _ [120] _ _ _ _ _ _ _ _ [121] _ (Sl.at (cur := #[.int .u8 120]) (fr := (1, 2)) (by repeat (first | exact heap_new (by simp) | refine heap_old ?_)) rfl rfl (by decide) (by decide)) (Sl.at (cur := #[.int .u8 121]) (fr := (1, 2)) (by repeat (first | exact heap_new (by simp) | refine heap_old ?_)) rfl rfl (by decide) (by decide))).mono ?_
  rintro e w1 ⟨rfl, hb⟩
  rw [show ofS 1 1 0 5 [120] true 1 1 0 5 true [121] = 6 from by decide]
  have H0 := Aside0.mk (below_heap hb (g := w.heap.size) (o := .cells #[.int .u8 120] 5 (1, 2)) (by repeat (first | exact heap_new (by simp) | refine heap_old ?_)))
  have H1 := Aside0.mk (below_heap hb (g := w.heap.size + 1) (o := .cells #[.string ⟨#[97]⟩, .int .i64 1, .int .i64 1, .int .i64 0, .int .u64 5, .slice (some ⟨w.heap.size, 0, none⟩) 1 1] 32 (0, 0)) (by repeat (first | exact heap_new (by simp) | refine heap_old ?_)))
  have H2 := Aside0.mk (below_heap hb (g := w.heap.size + 1 + 1) (o := .cells #[.string ⟨#[97]⟩, .int .i64 1, .int .i64 1, .int .i64 0, .int .u64 5] 28 (0, 0)) (by repeat (first | exact heap_new (by simp) | refine heap_old ?_)))
  have H3 := Aside0.mk (below_heap hb (g := w.heap.size + 1 + 1 + 1) (o := .cells #[.string ⟨#[97]⟩, .int .i64 1, .int .i64 1, .int .i64 0, .int .u64 6] 28 (0, 0)) (by repeat (first | exact heap_new (by simp) | refine heap_old ?_)))
  obtain ⟨c1, f1⟩ := blk H1.out
  obtain ⟨c2, f2⟩ := blk H2.out
  obtain ⟨c3, f3⟩ := blk H3.out
  have HB := Aside0.mk (show Below w.heap.size w w1 from below_step (by repeat (first | exact Below.refl _ _ | refine Below.alloc ?_ (by simp <;> omega) _)) hb)
  clear hb
  go_wp2_with fail
  refine (of_calls (e := 5) (e' := 5) (base := 0) (base' := 0) _ _ _ _ _ _ [120] _ _ _ _ _ _ _ _ [120] _ (Sl.at (cur := #[.int .u8 120]) (fr := (1, 2)) (heap_old H0.out) rfl rfl (by decide) (by decide)) (Sl.at (cur := #[.int .u8 120]) (fr := (1, 2)) (heap_new rfl) rfl rfl (by decide) (by decide))).mono ?_
  rintro e w2 ⟨rfl, hb⟩
  rw [show ofS 1 1 0 5 [120] true 1 1 0 5 true [120] = 1 from by decide]
  have HB1 := Aside0.mk (below_step (Below.alloc HB.out HB.out.size _) hb)
  have G0 := Aside0.mk (below_heap hb (heap_old H0.out))
  have G1 := Aside0.mk (below_heap hb (heap_old H1.out))
  have G2 := Aside0.mk (below_heap hb (heap_old H2.out))
  have G3 := Aside0.mk (below_heap hb (heap_old H3.out))
  clear c1 f1 c2 f2 c3 f3 H0 H1 H2 H3 hb
  have H0 := G0
  have H1 := G1
  have H2 := G2
  have H3 := G3
  clear G0 G1 G2 G3
  obtain ⟨c1, f1⟩ := blk H1.out
  obtain ⟨c2, f2⟩ := blk H2.out
  obtain ⟨c3, f3⟩ := blk H3.out
  go_wp2_with fail
  refine (of_calls (e := 5) (e' := 5) (base := 0) (base' := 0) _ _ _ _ _ _ [120] _ _ _ _ _ _ _ _ [121] _ (Sl.at (cur := #[.int .u8 120]) (fr := (1, 2)) (heap_old H0.out) rfl rfl (by decide) (by decide)) (Sl.at (cur := #[.int .u8 121]) (fr := (1, 2)) (heap_new rfl) rfl rfl (by decide) (by decide))).mono ?_
  rintro e w3 ⟨rfl, hb⟩
  rw [show ofS 1 1 0 5 [120] true 1 1 0 6 true [121] = 4 from by decide]
  have HB2 := Aside0.mk (below_step (Below.alloc HB1.out HB1.out.size _) hb)
  clear hb
  go_wp2_with fail
  refine (word_calls _ _).mono ?_
  rintro e w' ⟨rfl, rfl⟩
  rw [show word 6 = ⟨#[114, 111, 116]⟩ from rfl]
  go_wp2_with fail
  refine (rotten_calls _ _).mono ?_
  rintro e w' ⟨rfl, rfl⟩
  go_wp2_with fail
  go_ret
  exact ⟨rfl, HB2.out⟩
end Go.Proofs.Ythhpimelnaealaa
