/-
  linnetlaw19's awake. No condition.
-/
import Derived.Test.YtmpmngfimeojhaaNetSwap
namespace Go.Proofs.Ytmpmngfimeojhaa
open Go.RowKit Go.Joins
set_option linter.unusedVariables false
set_option linter.unusedSimpArgs false

theorem no_keys {fs : List Fr} (h : fs.map Fr.key = []) : fs = [] := by cases fs <;> simp_all

set_option maxHeartbeats 2000000 in
theorem awake_calls (w : World) : Calls Try.prog 6 #[] w fun e w' => e = .returned (.bool true) ∧ Below w.heap.size w w' := by
  have HB0 : Aside0 (∀ (w : World) o, Below w.heap.size w (w.alloc o)) := ⟨fun w o => (Below.refl _ _).alloc (Nat.le_refl _) _⟩
  have hcc := convert_const (P := Try.prog) 22 5 Try.underlying22 Try.underlying5
  go_enter Try.func6, Try.ntmps6
  go_wp2_with fail
  refine (new_calls _).mono ?_
  rintro e w1 ⟨rfl, N1, hb1⟩
  obtain ⟨g, hg⟩ : ∃ g, g = w.heap.size := ⟨_, rfl⟩
  rw [← hg] at N1 ⊢
  have HG := Aside0.mk hg
  have H1 := Aside0.mk (show NetR w1 g g (.slice none 0 0) ⟨0, 0, []⟩ ∧ Keeps netT g w w1 from ⟨N1, .of_below hb1⟩)
  have hsz : ¬ w1.heap.size = g := by have := blk_lt N1.box; omega
  clear N1 hb1 hg
  go_wp2_with fail
  refine (send_calls (b := [120]) 1 2 0 _ (H1.out.1.below (HB0.out _ _)) (Sl.at (cur := #[.int .u8 120]) (fr := (1, 2)) (heap_new rfl) rfl rfl (by decide) (by decide)) (by decide) (by decide) (by decide) (by decide)).mono ?_
  rintro e w2 ⟨rfl, ⟨v2, u2, N2, _⟩, K2⟩
  have H2 := Aside0.mk (show NetR w2 g g v2 ⟨1, 0, [⟨1, 1, 2, [120], u2⟩]⟩ ∧ Keeps netT g w w2 from ⟨N2, (H1.out.2.then_below (HB0.out _ _)).trans K2⟩)
  clear N2 K2
  go_wp2_with fail
  refine (double_calls 1 _ H2.out.1 0 _ rfl (by simp [idxI]) (by simp) (by simp) (by simp)).mono ?_
  rintro e w3 ⟨rfl, ⟨v3, u3, N3⟩, K3⟩
  have H3 := Aside0.mk (show NetR w3 g g v3 ⟨2, 0, [⟨1, 1, 2, [120], u2⟩, ⟨2, 1, 2, [120], u3⟩]⟩ ∧ Keeps netT g w w3 from ⟨N3, H2.out.2.trans K3⟩)
  clear N3 K3
  go_wp2_with fail
  refine (due_calls 1 1 _ H3.out.1 (by simp) (by simp)).mono ?_
  rintro e w4 ⟨⟨v4, fs4, rfl, O4, hk4⟩, hb4⟩
  obtain rfl := no_keys hk4
  obtain ⟨A4, c4, rfl, _⟩ := O4.shape
  have H4 := Aside0.mk (show NetR w4 g g v3 ⟨2, 0, [⟨1, 1, 2, [120], u2⟩, ⟨2, 1, 2, [120], u3⟩]⟩ ∧ Keeps netT g w w4 from ⟨H3.out.1.below hb4, H3.out.2.then_below hb4⟩)
  clear O4 hk4 hb4
  go_wp2_with fail
  refine (take_calls 1 2 _ H4.out.1 (by simp) (by simp)).mono ?_
  rintro e w5 ⟨⟨v5, rfl, O5⟩, ⟨vv5, N5⟩, K5⟩
  have O5' : OwnL w5 w4.heap.size v5 [[120], [120]] := O5
  have H5 := Aside0.mk (show NetR w5 g g vv5 ⟨2, 0, []⟩ ∧ Keeps netT g w w5 ∧ OwnL w5 w4.heap.size v5 [[120], [120]] from ⟨N5, H4.out.2.trans K5, O5⟩)
  obtain ⟨ad, c, u, A', c', rfl, rfl, hcell, hsl⟩ := O5'.reads.at 1 (by decide)
  have k1 := hsl.string (P := Try.prog) Try.underlying22 Try.underlying5 Try.underlying9
  have hstr : str ((([[120], [120]] : List (List UInt8)).getD 1 [])) = ⟨#[120]⟩ := rfl
  rw [hstr] at k1
  have hcell : w5.cell? ⟨ad.block, ad.off + 1, none⟩ = _ := hcell
  simp at hcell k1
  clear O5 N5 K5 O5' hsl hstr
  go_wp2_with fail
  refine (lose_bad 1 _ H5.out.1 (by simp [idxI])).mono ?_
  rintro e w6 ⟨rfl, hb6⟩
  have H6 := Aside0.mk (show NetR w6 g g vv5 ⟨2, 0, []⟩ ∧ Keeps netT g w w6 from ⟨H5.out.1.below hb6, H5.out.2.1.then_below hb6⟩)
  clear hb6
  go_wp2_with fail
  refine (waiting_calls _ H6.out.1 (by simp) (by simp)).mono ?_
  rintro e w7 ⟨⟨v7, fs7, rfl, O7, hk7⟩, hb7⟩
  obtain rfl := no_keys hk7
  obtain ⟨A7, c7, rfl, _⟩ := O7.shape
  have H7 := Aside0.mk (H6.out.2.then_below hb7)
  clear O7 hk7 hb7
  go_wp2_with fail
  go_ret
  exact ⟨rfl, HG.out ▸ H7.out.below (Nat.le_refl _) (by rw [HG.out]; exact Nat.le_refl _)⟩
end Go.Proofs.Ytmpmngfimeojhaa
