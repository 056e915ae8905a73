/-
  What the document fixes of digest. No condition.
-/
import Derived.Test.YtbgnffgefpbdpaaDigSum3
import Derived.Test.YtbgnffgefpbdpaaDigKnown
namespace Go.Proofs.Ytbgnffgefpbdpaa
open Go.RowKit
set_option linter.unusedVariables false
set_option linter.unusedSimpArgs false

theorem hsum_none (w : World) : Calls Try.prog 11 #[.pointer none] w fun e w' => e = .returned (.slice none 0 0) ∧ w = w' := by
  go_enter Try.func11, Try.ntmps11
  go_wp2_with fail
  go_ret
  exact ⟨rfl, rfl⟩
theorem len_none (w : World) : Calls Try.prog 12 #[.pointer none] w fun e w' => e = .returned (.int .i64 0) ∧ w = w' := by
  go_enter Try.func12, Try.ntmps12
  go_wp2_with fail
  go_ret
  exact ⟨rfl, rfl⟩
theorem copy_none (w : World) : Calls Try.prog 14 #[.pointer none] w fun e w' => e = .returned (.pointer none) ∧ w = w' := by
  go_enter Try.func14, Try.ntmps14
  go_wp2_with fail
  go_ret
  exact ⟨rfl, rfl⟩

/-- One byte of a row that the call owns. -/
theorem own_byte {w : World} {base n : Nat} {v : Value} {x : List UInt8} (h : w.ownsRow base 5 1 v n (x.map bv)) (hn : n = x.length) (hx : 0 < n) : ∃ g c, v = .slice (some ⟨g, 0, none⟩) n c ∧ ∀ j, j < n → w.cell? ⟨g, j, none⟩ = some (.int .u8 ((x.getD j 0).toNat : Int)) := by
  rcases h.2 with ⟨rfl, h0⟩ | ⟨g, cap, cur, rfl, hb, hg, h1, h2, h3, h4⟩
  · omega
  · refine ⟨g, cap, rfl, fun j hj => ?_⟩
    have hc := World.ownsRow.cells h (g := g) rfl j (bv (x.getD j 0)) (by simp [List.getElem?_eq_getElem (show j < x.length by omega)])
    have ha : (⟨g, 0, none⟩ : Addr).add j = ⟨g, j, none⟩ := by unfold Addr.add; split <;> simp_all
    rwa [ha] at hc

theorem one_list {w : World} {G B : Nat} {u : Value} {x : List UInt8} (h : w.heap[G]? = some (.cells #[u] 25 (0, 0))) (h1 : Sl bv 5 w B u x) : SlL w B (.slice (some ⟨G, 0, none⟩) 1 1) [x] := by
  refine ⟨[u], rfl, Sl.at h rfl rfl (by decide) (by decide), fun i u x hu hx => ?_⟩
  match i with
  | 0 => cases hu; cases hx; exact h1
  | i + 1 => simp at hu

set_option maxHeartbeats 2000000 in
theorem awake1_calls (w : World) : Calls Try.prog 7 #[] w fun e w' => e = .returned (.bool true) ∧ Below w.heap.size w w' := by
  have KC := convert_const (P := Try.prog) 25 5 Try.underlying25 Try.underlying5
  go_enter Try.func7, Try.ntmps7
  go_wp2_with fail
  refine (dsum_calls (b0 := 0) (L := []) w ⟨[], rfl, Sl.nil _ _ _ _, by simp⟩ (Nat.zero_le _) (by simp)).mono ?_
  rintro e w1 ⟨v1, rfl, hown1, hb1⟩
  have e1 : shaL (List.flatten []) = _ := sha_nil
  rw [e1] at hown1
  obtain ⟨g1, c1, rfl, hc1⟩ := own_byte hown1 rfl (by decide)
  have hc10 := hc1 0 (by decide)
  have hc13 := hc1 3 (by decide)
  have HC1 := Aside0.mk (And.intro hc10 hc13)
  have HB1 := Aside0.mk hb1
  clear hc1 hc10 hc13 hb1 hown1 e1
  have KC1 := KC w1 _ rfl
  clear KC
  go_wp2_with fail
  have hB2 : Below w1.heap.size w1 ((w1.alloc (.cells #[Value.int .u8 97, .int .u8 98, .int .u8 99] 5 (3, 4))).alloc (.cells #[.slice (some ⟨w1.heap.size, 0, none⟩) 3 3] 25)) := ((Below.refl _ _).alloc (Nat.le_refl _) _).alloc (by simp) _
  refine (dsum_calls (b0 := 0) (L := [[97, 98, 99]]) _ (one_list (heap_new (by simp)) (Sl.at (heap_old (heap_new rfl)) rfl rfl (by decide) (by decide))) (Nat.zero_le _) (by simp)).mono ?_
  rintro e w2 ⟨v2, rfl, hown2, hb2⟩
  have e1 : shaL (List.flatten [[97, 98, 99]]) = _ := sha_abc
  rw [e1] at hown2
  obtain ⟨g2, c2, rfl, hc2⟩ := own_byte hown2 rfl (by decide)
  have hc20 := hc2 0 (by decide)
  have hc23 := hc2 3 (by decide)
  have hbb := below_step hB2 hb2
  have hc10 := cell_keep hbb HC1.out.1
  have hc13 := cell_keep hbb HC1.out.2
  have HB2 := Aside0.mk (below_step HB1.out hbb)
  clear hc2 hb2 hown2 e1 hbb hB2 KC1
  go_wp2_with (first
    | (go_at_call 11; refine (hsum_none _).mono ?_; rintro e w' ⟨rfl, rfl⟩)
    | (go_at_call 12; refine (len_none _).mono ?_; rintro e w' ⟨rfl, rfl⟩)
    | (go_at_call 14; refine (copy_none _).mono ?_; rintro e w' ⟨rfl, rfl⟩))
  go_ret
  exact ⟨rfl, HB2.out⟩
end Go.Proofs.Ytbgnffgefpbdpaa
