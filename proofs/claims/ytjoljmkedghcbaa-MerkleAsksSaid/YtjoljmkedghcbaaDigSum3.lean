/-
  Sum of pieces, one behind the other. No condition but that the list can be read.
-/
import Derived.Test.YtjoljmkedghcbaaDigSum2
namespace Go.Proofs.Ytjoljmkedghcbaa
open Go.RowKit
set_option linter.unusedVariables false
set_option linter.unusedSimpArgs false

theorem IsH.zero {w : World} {g : Nat} (h : w.heap[g]? = some (.cells (hC ⟨0, 0, 0, 0, 0, 0, 0, 0⟩ false (.slice none 0 0) 0) 56 (0, 0))) : IsH w g [] :=
  ⟨_, _, _, h, Sl.nil _ _ _ _, fun h => (by cases h), fun _ => rfl⟩

set_option maxHeartbeats 4000000 in
set_option maxRecDepth 100000 in
theorem dsum_calls {b0 : Nat} {v : Value} {L : List (List UInt8)} (w : World) (hv : SlL w b0 v L) (hb0 : b0 ≤ w.heap.size) (hl : L.flatten.length ≤ 1000000000000) :
    Calls Try.prog 33 #[v] w fun e w' => ∃ v', e = .returned v' ∧ w'.ownsRow w.heap.size 5 1 v' (shaL L.flatten).length ((shaL L.flatten).map bv) ∧ Below w.heap.size w w' := by
  have HV := Aside0.mk hv
  have HL := Aside0.mk hl
  obtain ⟨A, c, rfl, hc, hm⟩ := hv.shape
  clear hv
  have H0 : ∀ o, o = Obj.cells (hC ⟨0, 0, 0, 0, 0, 0, 0, 0⟩ false (.slice none 0 0) 0) 56 → Aside0 (IsH (w.alloc o) w.heap.size (L.take 0).flatten ∧ Below w.heap.size w (w.alloc o)) := fun o ho => by
    subst ho
    exact ⟨by rw [List.take_zero, List.flatten_nil]; exact IsH.zero (heap_new rfl), (Below.refl _ _).alloc (Nat.le_refl _) _⟩
  have H0 := Aside0.mk H0
  go_enter Try.func33, Try.ntmps33
  go_wp2_with fail
  go_outline
  go_loopw [10] (fun i wr => ∃ k : Nat, k ≤ L.length ∧ i = .int .i64 (k : Int) ∧ Aside0 (IsH wr w.heap.size (L.take k).flatten ∧ Below w.heap.size w wr)) (fun i wr => L.length - (intOf i).toNat)
  case atStart => exact ⟨0, Nat.zero_le _, rfl, H0.out _ rfl⟩
  case round =>
    obtain ⟨k, hk, rfl, hs⟩ := hrel
    by_cases hlt : k < L.length
    · obtain ⟨ad, c', u, A', cu, he, hu, hcell, hsl⟩ := (HV.out.below hs.out.2).at k hlt
      cases he
      subst hu
      have HS := Aside0.mk hsl
      clear hsl
      have HF := Aside0.mk (flat_succ L k hlt)
      have hx1 : ((L.take k).flatten).length + (L.getD k []).length ≤ 1000000000000 := by
        have h1 := flat_le L (k + 1)
        have h2 := HL.out
        rw [flat_succ L k hlt, List.length_append] at h1
        omega
      obtain ⟨x, hxx⟩ : ∃ x, x = L.getD k [] := ⟨_, rfl⟩
      rw [← hxx] at hcell HS hx1 HF
      have HX1 := Aside0.mk hx1
      clear hxx hx1
      go_wp2_with fail
      refine (add_calls (x := x) wr hs.out.1 hb0 HS.out (by have := HX1.out; omega)).mono ?_
      rintro e w2 ⟨rfl, hi2, hg2⟩
      have H3 := Aside0.mk (show IsH w2 w.heap.size (L.take (k + 1)).flatten ∧ Below w.heap.size w w2 from ⟨by rw [HF.out]; exact hi2, hs.out.2.grown hg2 hs.out.2.size (fun j hj => by cases hj; exact Nat.le_refl _)⟩)
      clear hi2 hg2
      go_wp2_with fail
      go_roundw
      case rel => exact ⟨k + 1, by omega, by go_num, H3⟩
      case measure => simp [intOf]; omega
    · have hkl : k = L.length := by omega
      have hT : (L.take k).flatten = L.flatten := by rw [hkl, List.take_length]
      have HT := Aside0.mk hT
      rw [hT] at hs
      clear hT hkl
      go_wp2_with fail
      refine (hsum_calls wr hs.out.1 HL.out).mono ?_
      rintro e w2 ⟨v2, rfl, hown, hb2⟩
      have HO := Aside0.mk (And.intro hown hb2)
      clear hown hb2
      go_wp2_with fail
      go_ret
      exact ⟨_, rfl, own_mono HO.out.1 hs.out.2.size, below_step hs.out.2 HO.out.2⟩
end Go.Proofs.Ytjoljmkedghcbaa
