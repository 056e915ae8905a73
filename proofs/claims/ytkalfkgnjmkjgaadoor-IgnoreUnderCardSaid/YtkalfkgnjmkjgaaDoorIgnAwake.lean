/-
  What the document fixes of chapter 12. No condition.
-/
import Derived.Test.YtkalfkgnjmkjgaaDoorIgnIgn
namespace Go.Proofs.YtkalfkgnjmkjgaaDoor
open Go.RowKit Go.Joins
set_option linter.unusedVariables false
set_option linter.unusedSimpArgs false

def aw1 : List (List UInt8) := [[42, 46, 111], [33, 97, 46, 111]]
def aw2 : List (List UInt8) := [[33]]
theorem aw1_ok : allOk aw1 = true := by kernel_rfl
theorem aw2_no : allOk aw2 = false := by kernel_rfl
theorem aw1_b : ignL (aw1.map rlOf) [98, 47, 120, 46, 111] false = true := by kernel_rfl
theorem aw1_a : ignL (aw1.map rlOf) [97, 46, 111] false = false := by kernel_rfl
theorem aw_m1 : matchL [97, 42] [97, 98] = true := by kernel_rfl
theorem aw_m2 : matchL [97, 42] [97, 47, 98] = false := by kernel_rfl
theorem aw_m3 : matchL [97, 42, 42] [97, 47, 98] = true := by kernel_rfl
/-- Texts that were just laid. -/
theorem texts_new {w : World} {x : List (List UInt8)} (hx : x.length ≤ 1000000) (b : Nat) : SlS (w.alloc (.cells (x.map tv).toArray 9 (0, 0))) b (.slice (some ⟨w.heap.size, 0, none⟩) x.length x.length) x :=
  Sl.at (heap_new rfl) (by simp only; exact List.take_of_length_le (by simp)) rfl (Nat.le_refl _) (by omega)
theorem new_ok {w : World} {L : List (List UInt8)} {e : Ending} {w' : World} (h : NewA w L e w') (h1 : L.length ≤ 50) (h2 : allOk L = true) : ∃ g, e = .returned (.tuple #[.pointer (some ⟨g, 0, none⟩), .int .i64 0]) ∧ IsR w' g w.heap.size L (L.map rlOf) ∧ Below w.heap.size w w' := by
  obtain ⟨h3, h4⟩ := h
  rw [if_neg (by omega), if_pos h2] at h3
  obtain ⟨g, h5, h6⟩ := h3
  exact ⟨g, h5, h6, h4⟩
theorem new_bad {w : World} {L : List (List UInt8)} {e : Ending} {w' : World} (h : NewA w L e w') (h1 : L.length ≤ 50) (h2 : allOk L = false) : e = .returned (.tuple #[.pointer none, .int .i64 1]) ∧ Below w.heap.size w w' := by
  obtain ⟨h3, h4⟩ := h
  rw [if_neg (by omega), if_neg (by rw [h2]; decide)] at h3
  exact ⟨h3, h4⟩

set_option maxRecDepth 4000 in
set_option maxHeartbeats 4000000 in
theorem awake12_calls (w : World) : Calls Tryd.prog 8 #[] w fun e w' => e = .returned (.bool true) ∧ Below w.heap.size w w' := by
  have HN1 : Aside0 (Calls Tryd.prog 13 #[.slice (some ⟨w.heap.size, 0, none⟩) 2 2] (w.alloc (.cells #[.string ⟨#[42, 46, 111]⟩, .string ⟨#[33, 97, 46, 111]⟩] 9 (0, 0))) fun e w' => ∃ g, e = .returned (.tuple #[.pointer (some ⟨g, 0, none⟩), .int .i64 0]) ∧ IsR w' g (w.heap.size + 1) aw1 (aw1.map rlOf) ∧ Below w.heap.size w w') := ⟨by
    refine (new_calls (b0 := 0) (L := aw1) _ (texts_new (x := aw1) (by decide) 0) (by decide) (by decide)).mono ?_
    intro e w' h
    obtain ⟨g, h1, h2, h3⟩ := new_ok h (by decide) aw1_ok
    rw [World.size_alloc] at h2
    exact ⟨g, h1, h2, below_step ((Below.refl _ w).alloc (Nat.le_refl _) _) h3⟩⟩
  have HN2 : Aside0 (∀ W : World, Calls Tryd.prog 13 #[.slice (some ⟨W.heap.size, 0, none⟩) 1 1] (W.alloc (.cells #[.string ⟨#[33]⟩] 9 (0, 0))) fun e w' => e = .returned (.tuple #[.pointer none, .int .i64 1]) ∧ Below W.heap.size W w') := ⟨fun W => by
    refine (new_calls (b0 := 0) (L := aw2) _ (texts_new (x := aw2) (by decide) 0) (by decide) (by decide)).mono ?_
    intro e w' h
    obtain ⟨h1, h2⟩ := new_bad h (by decide) aw2_no
    exact ⟨h1, below_step ((Below.refl _ W).alloc (Nat.le_refl _) _) h2⟩⟩
  have HM1 : Aside0 (∀ W, Calls Tryd.prog 9 #[.string ⟨#[97, 42]⟩, .string ⟨#[97, 98]⟩] W fun e w' => e = .returned (.bool true) ∧ Below W.heap.size W w') := ⟨fun W => by have h := match_any ⟨#[97, 42]⟩ ⟨#[97, 98]⟩ W; rw [show matchL (ByteArray.mk #[97, 42]).data.toList (ByteArray.mk #[97, 98]).data.toList = true from aw_m1] at h; exact h⟩
  have HM2 : Aside0 (∀ W, Calls Tryd.prog 9 #[.string ⟨#[97, 42]⟩, .string ⟨#[97, 47, 98]⟩] W fun e w' => e = .returned (.bool false) ∧ Below W.heap.size W w') := ⟨fun W => by have h := match_any ⟨#[97, 42]⟩ ⟨#[97, 47, 98]⟩ W; rw [show matchL (ByteArray.mk #[97, 42]).data.toList (ByteArray.mk #[97, 47, 98]).data.toList = false from aw_m2] at h; exact h⟩
  have HM3 : Aside0 (∀ W, Calls Tryd.prog 9 #[.string ⟨#[97, 42, 42]⟩, .string ⟨#[97, 47, 98]⟩] W fun e w' => e = .returned (.bool true) ∧ Below W.heap.size W w') := ⟨fun W => by have h := match_any ⟨#[97, 42, 42]⟩ ⟨#[97, 47, 98]⟩ W; rw [show matchL (ByteArray.mk #[97, 42, 42]).data.toList (ByteArray.mk #[97, 47, 98]).data.toList = true from aw_m3] at h; exact h⟩
  have HI1 : Aside0 (∀ (W : World) (g b : Nat), IsR W g b aw1 (aw1.map rlOf) → Calls Tryd.prog 14 #[.pointer (some ⟨g, 0, none⟩), .string ⟨#[98, 47, 120, 46, 111]⟩, .bool false] W fun e w' => e = .returned (.bool true) ∧ Below W.heap.size W w') := ⟨fun W g b hI => by have h := ignored_calls ⟨#[98, 47, 120, 46, 111]⟩ false W hI (by decide) (by decide); rw [show ignL (aw1.map rlOf) (ByteArray.mk #[98, 47, 120, 46, 111]).data.toList false = true from aw1_b] at h; exact h⟩
  have HI2 : Aside0 (∀ (W : World) (g b : Nat), IsR W g b aw1 (aw1.map rlOf) → Calls Tryd.prog 14 #[.pointer (some ⟨g, 0, none⟩), .string ⟨#[97, 46, 111]⟩, .bool false] W fun e w' => e = .returned (.bool false) ∧ Below W.heap.size W w') := ⟨fun W g b hI => by have h := ignored_calls ⟨#[97, 46, 111]⟩ false W hI (by decide) (by decide); rw [show ignL (aw1.map rlOf) (ByteArray.mk #[97, 46, 111]).data.toList false = false from aw1_a] at h; exact h⟩
  go_enter Tryd.func8, Tryd.ntmps8
  go_wp2_with fail
  refine HN1.out.mono ?_
  rintro e w1 ⟨g, rfl, hI, hb1⟩
  have HB1 := Aside0.mk hb1
  have H1 := Aside0.mk hI
  clear hI hb1
  go_wp2_with fail
  refine (HN2.out w1).mono ?_
  rintro e w2 ⟨rfl, hb2⟩
  have HB2 := Aside0.mk (below_step HB1.out hb2)
  have H2 := Aside0.mk (H1.out.below hb2)
  clear hb2
  go_wp2_with fail
  refine (HI1.out w2 g _ H2.out).mono ?_
  rintro e w3 ⟨rfl, hb3⟩
  have HB3 := Aside0.mk (below_step HB2.out hb3)
  have H3 := Aside0.mk (H2.out.below hb3)
  clear hb3
  go_wp2_with fail
  refine (HI2.out w3 g _ H3.out).mono ?_
  rintro e w4 ⟨rfl, hb4⟩
  have HB4 := Aside0.mk (below_step HB3.out hb4)
  clear hb4
  go_wp2_with fail
  refine (HM1.out w4).mono ?_
  rintro e w5 ⟨rfl, hb5⟩
  have HB5 := Aside0.mk (below_step HB4.out hb5)
  clear hb5
  go_wp2_with fail
  refine (HM2.out w5).mono ?_
  rintro e w6 ⟨rfl, hb6⟩
  have HB6 := Aside0.mk (below_step HB5.out hb6)
  clear hb6
  go_wp2_with fail
  refine (HM3.out w6).mono ?_
  rintro e w7 ⟨rfl, hb7⟩
  have HB7 := Aside0.mk (below_step HB6.out hb7)
  clear hb7
  go_wp2_with fail
  go_ret
  exact ⟨rfl, HB7.out⟩
end Go.Proofs.YtkalfkgnjmkjgaaDoor
