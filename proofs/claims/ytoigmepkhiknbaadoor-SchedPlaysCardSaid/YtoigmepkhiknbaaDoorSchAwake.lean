/-
  What nothing answers; what the document fixes of chapter 13. No condition but lengths.
-/
import Derived.Test.YtoigmepkhiknbaaDoorSchNext
namespace Go.Proofs.YtoigmepkhiknbaaDoor
open Go.RowKit Go.Maps Go.Joins
set_option linter.unusedVariables false
set_option linter.unusedSimpArgs false

theorem nset_calls (p : ByteArray) (n : Int) (w : World) (hp : p.size ≤ 1000000000) :
    Calls Tryd.prog 10 #[.pointer none, .string p, .int .i64 n] w fun e w' => e = .returned (.int .i64 (if (validB p.data.toList && (decide (0 ≤ n) && decide (n ≤ 4096))) = true then 4 else 1)) ∧ Below w.heap.size w w' := by
  have HV := Aside0.mk (valid_calls p w hp)
  obtain ⟨b, hb⟩ : ∃ b, validB p.data.toList = b := ⟨_, rfl⟩
  rw [hb] at HV ⊢
  clear hb
  by_cases h0 : n < 0
  · have d1 : decide (n < 0) = true := decide_eq_true h0
    have d2 : decide (0 ≤ n) = false := decide_eq_false (by omega)
    rw [d2]
    simp only [Bool.false_and, Bool.and_false, Bool.false_eq_true, if_false]
    cases b <;>
    · go_enter Tryd.func10, Tryd.ntmps10
      go_wp2_with fail
      refine HV.out.mono ?_
      rintro e w1 ⟨rfl, hb1⟩
      go_wp2_with fail
      go_ret
      exact ⟨rfl, hb1⟩
  · have d1 : decide (n < 0) = false := decide_eq_false h0
    have d2 : decide (0 ≤ n) = true := decide_eq_true (by omega)
    by_cases h1 : n ≤ 4096
    · have d3 : decide (4096 < n) = false := decide_eq_false (by omega)
      rw [d2, decide_eq_true h1]
      simp only [Bool.and_true]
      cases b <;>
      · go_enter Tryd.func10, Tryd.ntmps10
        go_wp2_with fail
        refine HV.out.mono ?_
        rintro e w1 ⟨rfl, hb1⟩
        go_wp2_with fail
        go_ret
        exact ⟨rfl, hb1⟩
    · have d3 : decide (4096 < n) = true := decide_eq_true (by omega)
      rw [decide_eq_false h1]
      simp only [Bool.and_false, Bool.false_eq_true, if_false]
      cases b <;>
      · go_enter Tryd.func10, Tryd.ntmps10
        go_wp2_with fail
        refine HV.out.mono ?_
        rintro e w1 ⟨rfl, hb1⟩
        go_wp2_with fail
        go_ret
        exact ⟨rfl, hb1⟩
theorem ndrop_calls (p : ByteArray) (w : World) : Calls Tryd.prog 15 #[.pointer none, .string p] w fun e w' => e = .returned (.bool false) ∧ w' = w := by
  go_enter Tryd.func15, Tryd.ntmps15
  go_wp2_with fail
  go_ret
  exact ⟨rfl, rfl⟩
theorem nnext_calls (q : Int) (w : World) : Calls Tryd.prog 11 #[.pointer none, .int .i64 q] w fun e w' => e = .returned (.slice none 0 0) ∧ w' = w := by
  go_enter Tryd.func11, Tryd.ntmps11
  go_wp2_with fail
  go_ret
  exact ⟨rfl, rfl⟩
theorem ntotal_calls (w : World) : Calls Tryd.prog 19 #[.pointer none] w fun e w' => e = .returned (.int .i64 0) ∧ w' = w := by
  go_enter Tryd.func19, Tryd.ntmps19
  go_wp2_with fail
  go_ret
  exact ⟨rfl, rfl⟩
theorem npaths_calls (w : World) : Calls Tryd.prog 22 #[.pointer none] w fun e w' => e = .returned (.slice none 0 0) ∧ w' = w := by
  go_enter Tryd.func22, Tryd.ntmps22
  go_wp2_with fail
  go_ret
  exact ⟨rfl, rfl⟩

theorem own_keepS {w w' : World} {g mb b e size n : Nat} {v : Value} {cs : List Value} (h : w.ownsRow b e size v n cs) (hk : KeepS g mb w w') (h1 : g < b) (h2 : mb < b) : w'.ownsRow b e size v n cs := by
  refine ⟨h.1, ?_⟩
  rcases h.2 with h3 | ⟨g2, cap, cur, h3, h4, h5, h6⟩
  · exact .inl h3
  · exact .inr ⟨g2, cap, cur, h3, h4, (hk.block g2 (blk_lt h5) (by omega) (by omega)).trans h5, h6⟩
theorem adr0 (r j : Nat) : (⟨r, 0, none⟩ : Addr).add j = ⟨r, j, none⟩ := by
  unfold Addr.add
  split
  · rename_i h
    have h : j = 0 := by simpa using h
    rw [h]
  · simp
theorem vis_form {w : World} {b : Nat} {v : Value} {L : List Ent} (h : w.ownsRow b 36 2 v L.length (L.flatMap visC)) (h0 : 0 < L.length) : ∃ r c, v = .slice (some ⟨r, 0, none⟩) L.length c ∧ b ≤ r ∧ r < w.heap.size ∧ ∀ i (hi : i < L.length), w.cell? ⟨r, i * 2, none⟩ = some (.string (str (L[i]'hi).1)) ∧ w.cell? ⟨r, i * 2 + 1, none⟩ = some (.int .i64 ((L[i]'hi).2 : Int)) := by
  obtain ⟨r, c, rfl, h4, h5⟩ := h.form h0
  refine ⟨r, c, rfl, h4, h5, fun i hi => ?_⟩
  have hf := flat_get visC_len L i
  have e0 := h.cells (g := r) rfl (i * 2 + 0) _ ((hf 0 hi (by decide)).trans rfl)
  have e1 := h.cells (g := r) rfl (i * 2 + 1) _ ((hf 1 hi (by decide)).trans rfl)
  rw [adr0] at e0 e1
  exact ⟨e0, e1⟩

def a1 : List Ent := [([97], 2)]
def a2 : List Ent := [([97], 2), ([98], 1)]
def a3 : SS := ⟨a2, [97], 1, true⟩
def a4 : SS := ⟨a2, [97], 0, true⟩
theorem aw_e1 : setE [] [97] 2 = 0 := by kernel_rfl
theorem aw_e2 : setE a1 [98] 1 = 0 := by kernel_rfl
theorem aw_l1 : setL [] [97] 2 = a1 := by kernel_rfl
theorem aw_l2 : setL a1 [98] 1 = a2 := by kernel_rfl
theorem aw_q (S : SS) (h : S.l = a2) : nextQ S 2 = 2 := by unfold nextQ; rw [h]; decide
theorem aw_v1 : visN ⟨a2, [], 0, false⟩ 2 = [([97], 0), ([97], 1)] := by kernel_rfl
theorem aw_s1 : afterN ⟨a2, [], 0, false⟩ 2 = a3 := by kernel_rfl
theorem aw_v2 : visN a3 2 = [([98], 0), ([97], 0)] := by kernel_rfl
theorem aw_s2 : afterN a3 2 = a4 := by kernel_rfl
theorem aw_t : totL a2 = 3 := by kernel_rfl

set_option maxRecDepth 4000 in
set_option maxHeartbeats 8000000 in
theorem awake13_calls (w : World) : Calls Tryd.prog 7 #[] w fun e w' => e = .returned (.bool true) ∧ Below w.heap.size w w' := by
  go_enter Tryd.func7, Tryd.ntmps7
  go_wp2_with fail
  refine (snew_calls w).mono ?_
  rintro e w1 ⟨g, mb, rfl, hI, hb1⟩
  have H1 := Aside0.mk hI
  have HB1 := Aside0.mk hb1
  clear hI hb1
  go_wp2_with fail
  refine (sset_calls ⟨#[97]⟩ 2 w1 H1.out (by decide) (by decide)).mono ?_
  rintro e w2 ⟨he, hI⟩
  have HE := Aside0.mk (show w.heap.size ≤ g ∧ w.heap.size ≤ mb from ⟨H1.out.hg, H1.out.hm⟩)
  have h2 : IsS w2 w.heap.size g mb ⟨a1, [], 0, false⟩ ∧ KeepS g mb w1 w2 := by
    have h := hI
    unfold SetQ at h
    rw [if_pos (show setE ([] : List Ent) (ByteArray.mk #[97]).data.toList 2 = 0 from aw_e1)] at h
    exact h
  obtain rfl : e = .returned (.int .i64 0) := he
  have H2 := Aside0.mk h2.1
  have HK2 := Aside0.mk h2.2
  clear hI h2
  go_wp2_with fail
  refine (sset_calls ⟨#[98]⟩ 1 w2 H2.out (by decide) (by decide)).mono ?_
  rintro e w3 ⟨he, hI⟩
  have h3 : IsS w3 w.heap.size g mb ⟨a2, [], 0, false⟩ ∧ KeepS g mb w2 w3 := by
    have h := hI
    unfold SetQ at h
    rw [if_pos (show setE a1 (ByteArray.mk #[98]).data.toList 1 = 0 from aw_e2)] at h
    exact h
  obtain rfl : e = .returned (.int .i64 0) := he
  have H3 := Aside0.mk h3.1
  have HK3 := Aside0.mk (HK2.out.trans h3.2)
  clear hI h3
  go_wp2_with fail
  refine (snext_calls 2 w3 H3.out (by decide)).mono ?_
  rintro e w4 ⟨v1, rfl, ho1, _, hI, hk⟩
  rw [aw_q _ rfl, aw_v1] at ho1
  rw [aw_q _ rfl, aw_s1] at hI
  have HO1 := Aside0.mk ho1
  have H4 := Aside0.mk hI
  have HK4 := Aside0.mk (HK3.out.trans hk)
  have hg3 := blk_lt H3.out.box
  have hm3 := H3.out.mlt
  clear hI hk
  obtain ⟨r1, c1, rfl, hr1, hr1l, hcl1⟩ := vis_form (L := [([97], 0), ([97], 1)]) ho1 (by decide)
  clear hcl1 ho1
  go_wp2_with fail
  refine (snext_calls 2 w4 H4.out (by decide)).mono ?_
  rintro e w5 ⟨v2, rfl, ho2, _, hI, hk⟩
  rw [aw_q _ rfl, aw_v2] at ho2
  rw [aw_q _ rfl, aw_s2] at hI
  have H5 := Aside0.mk hI
  obtain ⟨r2, c2, rfl, hr2, hr2l, hcl2⟩ := vis_form (L := [([98], 0), ([97], 0)]) ho2 (by decide)
  have ho1 := own_keepS HO1.out hk hg3 hm3
  obtain ⟨r1', c1', he, _, hr1l5, hcl1⟩ := vis_form (L := [([97], 0), ([97], 1)]) ho1 (by decide)
  cases he
  have x2 := (hcl1 1 (by decide)).1
  have x3 := (hcl1 1 (by decide)).2
  have y0 := (hcl2 0 (by decide)).1
  have y1 := (hcl2 0 (by decide)).2
  have y2 := (hcl2 1 (by decide)).1
  have y3 := (hcl2 1 (by decide)).2
  simp only [List.getElem_cons_zero, List.getElem_cons_succ, Nat.reduceMul, Nat.reduceAdd, Nat.zero_mul, Nat.one_mul, Nat.zero_add] at x2 x3 y0 y1 y2 y3
  have HK5 := Aside0.mk (HK4.out.trans hk)
  have HN : Aside0 (Below w.heap.size w w5) := ⟨by
    have hs := HB1.out
    exact ⟨HK5.out.os.trans hs.os, HK5.out.tape.trans hs.tape, HK5.out.output.trans hs.output, Nat.le_trans hs.size HK5.out.size, fun k hk => (HK5.out.block k (Nat.lt_of_lt_of_le hk hs.size) (by have := HE.out; omega) (by have := HE.out; omega)).trans (hs.block k hk)⟩⟩
  have e97 : str [97] = ⟨#[97]⟩ := rfl
  have e98 : str [98] = ⟨#[98]⟩ := rfl
  rw [e97] at x2 y2
  rw [e98] at y0
  clear hI hk ho1 ho2 hcl1 hcl2
  go_wp2_with fail
  refine (stotal_calls w5 H5.out).mono ?_
  rintro e w6 ⟨rfl, hb6⟩
  rw [show totL a4.l = 3 from aw_t]
  have HB6 := Aside0.mk (below_step HN.out hb6)
  clear hb6
  go_wp2_with fail
  refine (sround_calls 3 2 w6 (by decide) (by decide)).mono ?_
  rintro e w7 ⟨rfl, rfl⟩
  rw [show roundN 3 2 = 2 by decide]
  go_wp2_with fail
  go_ret
  exact ⟨rfl, HB6.out⟩
end Go.Proofs.YtoigmepkhiknbaaDoor
