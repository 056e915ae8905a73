/-
  The closed examples of chapter 6 hold. No condition.
-/
import Derived.Test.YtdfhelefhhodhaaUpdate2
namespace Go.Proofs.Ytdfhelefhhodhaa
open Go.RowKit
set_option linter.unusedVariables false
set_option linter.unusedSimpArgs false

/-- The first byte of the first row. -/
theorem SlL.byte0 {w : World} {base : Nat} {v : Value} {x : UInt8} (h : SlL w base v [[x]]) : ∃ (ad ad' : Addr) (c c' : Nat), v = .slice (some ad) 1 c ∧ w.cell? ad = some (.slice (some ad') 1 c') ∧ w.cell? ad' = some (.int .u8 (x.toNat : Int)) := by
  obtain ⟨ad, c, u, A', c', h1, h2, h3, A2, c2, h4, h5, h6, h7⟩ := h.at 0 (by simp)
  obtain ⟨ad', rfl, h8⟩ := h7.cell 0 (bv x) rfl
  rw [h4] at h3
  exact ⟨ad, ad', c, c2, h1, h3, h8⟩

set_option maxHeartbeats 2000000 in
theorem awake_calls (w : World) : Calls Try.prog 7 #[] w fun e w' => e = .returned (.bool true) ∧ Below w.heap.size w w' := by
  have HB0 : Aside0 (∀ (w : World) o, Below w.heap.size w (w.alloc o)) := ⟨fun w o => (Below.refl _ _).alloc (Nat.le_refl _) _⟩
  go_enter Try.func7, Try.ntmps7
  go_wp2_with fail
  refine (build_calls (e := 5) (b0 := 0) (data := [1, 2, 3]) _ _ _ (Sl.at (cur := #[.int .u8 1, .int .u8 2, .int .u8 3]) (fr := (0, 0)) (heap_new rfl) rfl rfl (by decide) (by decide)) (by decide)).mono ?_
  rintro e w1 ⟨v1, rfl, ho1, hb1⟩
  rw [show buildL [1, 2, 3] 1 8 = [[0]] from by decide +kernel] at ho1
  have H1 := Aside0.mk (show SlL w1 _ v1 [[0]] ∧ Below w.heap.size w w1 from ⟨ho1.reads, below_step (HB0.out _ _) hb1⟩)
  obtain ⟨A1, c1, rfl, _⟩ := ho1.reads.shape
  clear ho1 hb1
  go_wp2_with fail
  have HB2 := Aside0.mk (show ∀ o o' : Obj, Below w1.heap.size w1 ((w1.alloc o).alloc o') from fun o o' => (HB0.out _ _).alloc (by simp) _)
  refine (update_good (e1 := 5) (e2 := 5) (b1 := 0) (b2 := 0) (par := [[0]]) (old := [1, 2, 3]) (now := [1, 2, 7]) 1 8 _ (H1.out.1.below (HB2.out _ _)) (Sl.at (cur := #[.int .u8 1, .int .u8 2, .int .u8 3]) (fr := (0, 0)) (heap_old (heap_new rfl)) rfl rfl (by decide) (by decide))
    (Sl.at (cur := #[.int .u8 1, .int .u8 2, .int .u8 7]) (fr := (0, 0)) (heap_new (by simp)) rfl rfl (by decide) (by decide)) (by decide) (by decide +kernel)).mono ?_
  rintro e w2 ⟨v2, rfl, ho2, hb2⟩
  rw [show updL [[0]] [1, 2, 3] [1, 2, 7] 1 8 = [[4]] from by decide +kernel] at ho2
  have H2 := Aside0.mk (show SlL w2 _ v2 [[4]] ∧ SlL w2 _ _ [[0]] ∧ Below w.heap.size w w2 from ⟨ho2.reads, (H1.out.1.below (HB2.out _ _)).below hb2, below_step H1.out.2 (below_step (HB2.out _ _) hb2)⟩)
  obtain ⟨A2, c2, rfl, _⟩ := ho2.reads.shape
  clear ho2 hb2
  go_wp2_with fail
  refine (update_bad (e1 := 5) (e2 := 5) (b0 := 0) (b1 := 0) (b2 := 0) (par := []) (old := [1]) (now := []) 1 8 _ ⟨[], rfl, Sl.nil _ _ _ _, by simp⟩ (Sl.at (cur := #[.int .u8 1]) (fr := (0, 0)) (heap_new rfl) rfl rfl (by decide) (by decide)) (Sl.nil _ 5 _ _) (by decide) (by decide +kernel)).mono ?_
  rintro e w3 ⟨rfl, hb3⟩
  have H3 := Aside0.mk (show SlL w3 _ _ [[4]] ∧ SlL w3 _ _ [[0]] ∧ Below w.heap.size w w3 from ⟨(H2.out.1.below (HB0.out _ _)).below hb3, (H2.out.2.1.below (HB0.out _ _)).below hb3, below_step H2.out.2.2 (below_step (HB0.out _ _) hb3)⟩)
  clear hb3
  obtain ⟨ad, ad', d, d', h1, h2, h3⟩ := H3.out.1.byte0
  cases h1
  obtain ⟨ae, ae', f, f', h4, h5, h6⟩ := H3.out.2.1.byte0
  cases h4
  simp at h3 h6
  go_wp2_with fail
  refine (groups_calls 9 1 8 _ (by decide) (by decide)).mono ?_
  rintro e w4 ⟨rfl, rfl⟩
  rw [show grp 9 1 8 = 2 from by decide +kernel]
  go_wp2_with fail
  go_ret
  exact ⟨rfl, H3.out.2.2⟩
end Go.Proofs.Ytdfhelefhhodhaa
