/-
  The hasher's Copy and Sum; Sum of pieces. No condition but that what is summed can be read.
-/
import Derived.Test.YtjoljmkedghcbaaDigHash
namespace Go.Proofs.Ytjoljmkedghcbaa
open Go.RowKit
set_option linter.unusedVariables false
set_option linter.unusedSimpArgs false

theorem info_hash : (Try.prog.info? 56).map (·.size) = some 11 := by kernel_rfl

theorem one_hC {s : St} {on : Bool} {wv : Value} {n : Nat} (h : wv.oneCell' = true) : (hC s on wv n).all (·.oneCell') = true := by
  simp [hC, Value.oneCell'] at h ⊢
  exact h
/-- Whatever state it is in, it can be started. -/
theorem start_calls {g : Nat} {s : St} {on : Bool} {wv : Value} {M : List UInt8} (w : World) (h : HB w g s on wv M.length) (h3 : on = true → s = stL M) (h4 : on = false → M = []) :
    Calls Try.prog 41 #[.pointer (some ⟨g, 0, none⟩)] w fun e w' => e = .returned (.tuple #[]) ∧ HB w' g (stL M) true wv M.length ∧ w.grownBy w' (some g) := by
  cases on with
  | true =>
    obtain rfl := h3 rfl
    refine (start_on w h).mono ?_
    rintro e w' ⟨rfl, rfl⟩
    exact ⟨rfl, h, World.grownBy.refl _ _⟩
  | false =>
    obtain rfl := h4 rfl
    exact start_off w h

set_option maxHeartbeats 2000000 in
set_option maxRecDepth 100000 in
theorem copy_calls {g : Nat} {M : List UInt8} (w : World) (h : IsH w g M) :
    Calls Try.prog 44 #[.pointer (some ⟨g, 0, none⟩)] w fun e w' => ∃ g', e = .returned (.pointer (some ⟨g', 0, none⟩)) ∧ w.heap.size ≤ g' ∧ IsH w' g' M ∧ Below w.heap.size w w' := by
  obtain ⟨s, on, wv, h1, h2, h3, h4⟩ := h
  have H1 := Aside0.mk h1
  have H2 := Aside0.mk h2
  have H34 := Aside0.mk (And.intro h3 h4)
  clear h3 h4
  go_enter Try.func44, Try.ntmps44
  have hone : wv.oneCell' = true := by obtain ⟨A, c, rfl, _⟩ := h2; rfl
  obtain ⟨Aw, cw, rfl, hcw, hwl, _⟩ := h2
  go_wp2_with (first
    | (refine wpList_load_row rfl 56 (.tmp 7) rfl g rfl 56 _ (0, 0) _ H1.out Try.underlying56 rfl info_hash ?_)
    | (refine wpList_store_arr rfl 56 (.tmp 3) (.tmp 8) rfl w.heap.size (hC s on (.slice Aw (waitL M).length cw) M.length) _ 56 rfl rfl (heap_new rfl) rfl info_hash (one_hC hone) ?_; intro w2 hh2 hgr2
       have hb2 : Below w.heap.size w w2 := ((Below.refl w.heap.size w).alloc (Nat.le_refl _) _).grown hgr2 (by simp) (fun k hk => by cases hk; exact Nat.le_refl _)
       have HB2 := Aside0.mk hb2
       have HH2 := Aside0.mk (show HB w2 w.heap.size s on (.slice Aw (waitL M).length cw) M.length from hh2)
       have HG := Aside0.mk (show HB w2 g s on (.slice Aw (waitL M).length cw) M.length from below_heap hb2 H1.out)
       obtain ⟨h8, h9, h10, f8, f9, f10⟩ := HG.out.cells
       clear hh2 hgr2 hb2))
  refine (clone_calls (b0 := 0) (x := waitL M) _ (H2.out.below HB2.out) (by have := waitL_length M; omega)).mono ?_
  rintro e w3 ⟨v3, rfl, hown, hb3⟩
  have HB3 := Aside0.mk (below_step HB2.out hb3)
  have HH3 := Aside0.mk (show HB w3 w.heap.size s on (.slice Aw (waitL M).length cw) M.length from below_heap hb3 HH2.out)
  have hS3 : Sl bv 5 w3 0 v3 (waitL M) := Sl.of_own (b := 0) hown
  obtain ⟨A3, c3, rfl, hc3, hl3, _⟩ := id hS3
  have HS3 := Aside0.mk hS3
  clear hS3
  clear h8 h9 h10 f8 f9 f10 hown hb3
  obtain ⟨h8, h9, h10, f8, f9, f10⟩ := HH3.out.cells
  go_wp2_with fail
  obtain ⟨w4, hw4⟩ : ∃ w4, w4 = w3.setCell ⟨w.heap.size, 9, none⟩ (.slice A3 (waitL M).length c3) := ⟨_, rfl⟩
  rw [← hw4]
  have hgr4 : w3.grownBy w4 (some w.heap.size) := by rw [hw4]; exact grown_set _ _ _ _
  have HH4 := Aside0.mk (show HB w4 w.heap.size s on (.slice A3 (waitL M).length c3) M.length by rw [hw4]; exact arr_set HH3.out)
  have HS4 := Aside0.mk (slh HH3.out HS3.out hgr4)
  have HB4 := Aside0.mk (HB3.out.grown hgr4 HB3.out.size (fun k hk => by cases hk; exact Nat.le_refl _))
  clear hw4 hgr4 h8 h9 h10 f8 f9 f10
  refine (start_calls w4 HH4.out H34.out.1 H34.out.2).mono ?_
  rintro e w5 ⟨rfl, hh5, hgr5⟩
  have HH5 := Aside0.mk hh5
  have HS5 := Aside0.mk (slh HH4.out HS4.out hgr5)
  have HB5 := Aside0.mk (HB4.out.grown hgr5 HB4.out.size (fun k hk => by cases hk; exact Nat.le_refl _))
  clear hh5 hgr5
  go_wp2_with fail
  go_ret
  exact ⟨w.heap.size, rfl, Nat.le_refl _, ⟨_, _, _, HH5.out, HS5.out, fun _ => rfl, fun h => by cases h⟩, HB5.out⟩
end Go.Proofs.Ytjoljmkedghcbaa
