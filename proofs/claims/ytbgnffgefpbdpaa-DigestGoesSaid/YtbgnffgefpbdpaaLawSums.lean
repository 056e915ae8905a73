/-
  Any bytes have the sum that the standard says, however they are cut. No condition.
-/
import Derived.Test.YtbgnffgefpbdpaaDigAwake
import Derived.Test.YtbgnffgefpbdpaaDigRef2
import Derived.Test.YtbgnffgefpbdpaaWeight
namespace Go.Proofs.Ytbgnffgefpbdpaa
open Go.RowKit
set_option linter.unusedVariables false
set_option linter.unusedSimpArgs false

theorem flat_wt : ∀ L : List (List UInt8), (L.flatten.length : Int) ≤ wt L
  | [] => by simp [wt]
  | x :: xs => by have := flat_wt xs; simp only [List.flatten_cons, List.length_append, wt]; omega
theorem ptr_neq (G : Nat) (w : World) : (binOp .neq 31 (.pointer (some ⟨G, 0, none⟩)) (.pointer (some ⟨G, 0, none⟩))).run Try.prog w = .ok (.bool false) w := by
  obtain ⟨i, hi, hz⟩ : ∃ i, Try.prog.info? 30 = some i ∧ i.size = 11 := by
    have := info_hash
    cases h : Try.prog.info? 30 with
    | none => rw [h] at this; cases this
    | some i => rw [h] at this; exact ⟨i, rfl, by simpa using this⟩
  have h0 : ∀ d, (Op.equalIn (d + 1) 31 (.pointer (some ⟨G, 0, none⟩)) (.pointer (some ⟨G, 0, none⟩))).run Try.prog w = .ok true w := fun d => by
    simp [Op.equalIn, run_underlying Try.underlying31, sizeOf, typeInfo, hi, hz, sameAddr]
  have h1 := h0 9999
  simp only [binOp]
  simp only [Sem.run_bind]
  rw [show (Op.equal 31 (.pointer (some ⟨G, 0, none⟩)) (.pointer (some ⟨G, 0, none⟩))).run Try.prog w = .ok true w from h1]
  rfl
theorem str_same (X : List UInt8) : ((str X).toList == (str X).toList) = true := by simp
/-- The hasher, and a row that does not meet what waits. -/
def Pair (w : World) (g : Nat) (a : Value) (base : Nat) (M : List UInt8) : Prop :=
  w.ownsRow base 5 1 a M.length (M.map bv) ∧ ∃ s on wv, HB w g s on wv M.length ∧ Sl bv 5 w 0 wv (waitL M) ∧ (on = true → s = stL M) ∧ (on = false → M = []) ∧ ∀ ad n c, wv = .slice (some ad) n c → some ad.block ≠ a.ownBlock

theorem Pair.isH {w : World} {g base : Nat} {a : Value} {M : List UInt8} (h : Pair w g a base M) : IsH w g M := by
  obtain ⟨_, s, on, wv, h1, h2, h3, h4, _⟩ := h
  exact ⟨s, on, wv, h1, h2, h3, h4⟩
/-- The row goes on. -/
theorem Pair.append {w w1 : World} {g base : Nat} {a : Value} {M : List UInt8} (h : Pair w g a base M) (hg : w.grownBy w1 a.ownBlock) : IsH w1 g M := by
  obtain ⟨ho, s, on, wv, h1, ⟨A, c, rfl, hc, hl, hR⟩, h3, h4, h5⟩ := h
  refine ⟨s, on, _, ?_, ⟨A, c, rfl, hc, hl, hR.move fun ad hA hn => ?_⟩, h3, h4⟩
  · refine (hg.block _ (blk_lt h1) (fun e => ?_)).trans h1
    obtain ⟨_, cur, fr, e', h6, rfl⟩ := own_row ho g e.symm
    rw [show w.heap[g]? = some (.cells _ 30 (0, 0)) from h1] at h6
    injection h6 with h6
    injection h6 with _ h6
    exact absurd h6 (by decide)
  · subst hA
    exact hg.block _ (hR.lt rfl hn) (h5 ad _ _ rfl)
theorem own_lt' {w : World} {base e size n : Nat} {v : Value} {cs : List Value} (h : w.ownsRow base e size v n cs) : ∀ k, v.ownBlock = some k → k < w.heap.size := by
  intro k hk
  obtain ⟨_, cur, fr, e', h2, _⟩ := own_row h k hk
  exact (Array.getElem?_eq_some_iff.1 h2).1
/-- The hasher goes on. -/
theorem Pair.add {w w1 : World} {g base : Nat} {a : Value} {M : List UInt8} (ho : w.ownsRow base 5 1 a M.length (M.map bv)) (hh : ∃ s on wv n, HB w g s on wv n) (h : IsHB w1 g M w.heap.size) (hg : w.grownBy w1 (some g)) : Pair w1 g a base M := by
  obtain ⟨s, on, wv, h1, h2, h3, h4, h5⟩ := h
  refine ⟨ho.kept hg ?_, s, on, wv, h1, h2, h3, h4, fun ad n c he hab => ?_⟩
  · refine .inr fun hk => ?_
    obtain ⟨_, _, _, _, hb⟩ := hh
    obtain ⟨_, cur, fr, e', h6, rfl⟩ := own_row ho g hk
    unfold HB at hb
    rw [hb] at h6
    injection h6 with h6
    injection h6 with _ h6
    exact absurd h6 (by decide)
  · have := h5 ad n c he
    have := own_lt' ho ad.block hab.symm
    omega

set_option maxHeartbeats 4000000 in
theorem sums_out {b0 : Nat} {v : Value} {L : List (List UInt8)} (w : World) (hv : SlL w b0 v L) (hout : ¬ wt L ≤ 2000) :
    Calls Try.prog 3 #[v] w fun e w' => e = .returned (.bool true) ∧ Below w.heap.size w w' := by
  have HV := Aside0.mk hv
  obtain ⟨A, c, rfl, hc, hm⟩ := hv.shape
  clear hv
  go_enter Try.func3, Try.ntmps3
  go_wp2_with fail
  refine (bytes_calls 2000 _ HV.out (by decide)).mono ?_
  rintro e w1 ⟨q, rfl, hq1, hq2, hq3, hb1⟩
  have h1 : 2000 < q := by
    rcases Int.lt_or_le 2000 q with h | h
    · exact h
    · have := hq1 h; omega
  have d1 : decide (2000 < q) = true := by simpa using h1
  have HB := Aside0.mk hb1
  clear hq1 hq2 hb1
  go_wp2_with fail
  refine (awake1_calls _).mono ?_
  rintro e w2 ⟨rfl, hb2⟩
  go_wp2_with fail
  go_ret
  exact ⟨rfl, below_step HB.out hb2⟩

set_option maxHeartbeats 8000000 in
set_option maxRecDepth 100000 in
theorem sums_in {b0 : Nat} {v : Value} {L : List (List UInt8)} (w : World) (hv : SlL w b0 v L) (hb0 : b0 ≤ w.heap.size) (hin : wt L ≤ 2000) :
    Calls Try.prog 3 #[v] w fun e w' => e = .returned (.bool true) ∧ Below w.heap.size w w' := by
  have HV := Aside0.mk hv
  have hF : L.flatten.length ≤ 2000 := by have := flat_wt L; omega
  have HF := Aside0.mk hF
  obtain ⟨A, c, rfl, hc, hm⟩ := hv.shape
  clear hv hF
  go_enter Try.func3, Try.ntmps3
  go_wp2_with fail
  refine (bytes_calls 2000 _ HV.out (by decide)).mono ?_
  rintro e w1 ⟨q, rfl, hq1, hq2, hq3, hb1⟩
  have h1 : ¬ 2000 < q := by intro h; have := hq2 h; omega
  have d1 : decide (2000 < q) = false := by simpa using h1
  have HB1 := Aside0.mk hb1
  clear hq1 hq2 hb1 h1
  have H0 : ∀ o, o = Obj.cells (hC ⟨0, 0, 0, 0, 0, 0, 0, 0⟩ false (.slice none 0 0) 0) 30 → Aside0 (Pair (w1.alloc o) w1.heap.size (.slice none 0 0) w.heap.size (L.take 0).flatten ∧ Below w.heap.size w (w1.alloc o)) := fun o ho => by
    subst ho
    refine ⟨⟨by simpa using World.ownsRow_nil _ _ _ _, ?_⟩, below_step HB1.out ((Below.refl _ _).alloc (Nat.le_refl _) _)⟩
    rw [List.take_zero, List.flatten_nil]
    exact ⟨_, _, _, heap_new rfl, Sl.nil _ _ _ _, fun h => (by cases h), fun _ => rfl, fun ad n c h => by cases h⟩
  have H0 := Aside0.mk H0
  have hgw := HB1.out.size
  have hpn := ptr_neq w1.heap.size
  go_wp2_with fail
  go_loopw [3, 5] (fun a i wr => ∃ k : Nat, k ≤ L.length ∧ i = .int .i64 (k : Int) ∧ Aside0 (Pair wr w1.heap.size a w.heap.size (L.take k).flatten ∧ Below w.heap.size w wr)) (fun a i wr => L.length - (intOf i).toNat)
  case atStart => exact ⟨0, Nat.zero_le _, rfl, H0.out _ rfl⟩
  case round =>
    obtain ⟨k, hk, rfl, hs⟩ := hrel
    by_cases hlt : k < L.length
    · obtain ⟨ad, c', u, A', cu, he, hu, hcell, hsl⟩ := (HV.out.below hs.out.2).at k hlt
      cases he
      subst hu
      have HS := Aside0.mk hsl
      have HFS := Aside0.mk (flat_succ L k hlt)
      have hx1 : ((L.take k).flatten).length + (L.getD k []).length ≤ 2000 := by
        have h1 := flat_le L (k + 1)
        have h2 := HF.out
        rw [flat_succ L k hlt, List.length_append] at h1
        omega
      obtain ⟨x, hxx⟩ : ∃ x, x = L.getD k [] := ⟨_, rfl⟩
      rw [← hxx] at hcell HS hx1 HFS
      have HX1 := Aside0.mk hx1
      have HXX := Aside0.mk hxx
      have hb0' : b0 ≤ w1.heap.size := by omega
      clear hxx hx1 hsl H0
      go_wp2_with (first
        | (at_builtin; refine append_row bv (fun _ => rfl) rfl (.tmp 17) (.tmp 21) 25 rfl w.heap.size 5 _ _ _ _ Try.underlying25 info_u8 rfl (by decide) _ _ x _ rfl rfl hs.out.1.1 HS.out (by have := HX1.out; omega) hs.out.2.size ?_; intro v' w' hown hg _
           have H2 := Aside0.mk (And.intro (hs.out.1.append hg) (And.intro hown (hs.out.2.grown hg hs.out.2.size (own_base hs.out.1.1))))
           clear hown hg hcell
           obtain ⟨ad2, c2, u2, A2, cu2, he2, hu2, hcell2, hsl2⟩ := (HV.out.below H2.out.2.2).at k hlt
           cases he2
           subst hu2
           rw [← HXX.out] at hcell2 hsl2
           have HS2 := Aside0.mk hsl2
           clear hsl2))
      have hhb : ∃ s on wv n, HB w' w1.heap.size s on wv n := by obtain ⟨s, on, wv, h, _⟩ := H2.out.1; exact ⟨s, on, wv, _, h⟩
      have HHB := Aside0.mk hhb
      clear hhb
      refine (addB_calls (x := x) w' H2.out.1 hb0' HS2.out (by have := HX1.out; omega)).mono ?_
      rintro e w2 ⟨rfl, hi2, hg2⟩
      have H3 := Aside0.mk (show Pair w2 w1.heap.size v' w.heap.size (L.take (k + 1)).flatten ∧ Below w.heap.size w w2 from
        ⟨by rw [HFS.out]; exact Pair.add H2.out.2.1 HHB.out hi2 hg2, H2.out.2.2.grown hg2 H2.out.2.2.size (fun j hj => by cases hj; exact hgw)⟩)
      clear hi2 hg2
      go_wp2_with fail
      go_roundw
      case rel => exact ⟨k + 1, by omega, by go_num, H3⟩
      case measure => simp [intOf]; omega
    · have hkl : k = L.length := by omega
      have hT : (L.take k).flatten = L.flatten := by rw [hkl, List.take_length]
      rw [hT] at hs
      obtain ⟨F, hFe⟩ : ∃ F, F = L.flatten := ⟨_, rfl⟩
      rw [← hFe] at hs HF
      have HFE := Aside0.mk hFe
      have hfl : F.length ≤ 2000 := HF.out
      obtain ⟨X, hX⟩ : ∃ X, X = shaL F := ⟨_, rfl⟩
      have HX := Aside0.mk hX
      obtain ⟨Aa, ca, hae⟩ : ∃ A c, _ = Value.slice A F.length c := Grow.shape (W := w) ⟨by simpa [own_mono] using hs.out.1.1, hs.out.2⟩
      subst hae
      have hss := str_same X
      clear hT hkl H0 hFe hX hfl
      obtain ⟨wz, rfl⟩ : ∃ wz : World, wz = wr := ⟨_, rfl⟩
      go_wp2_with fail
      refine (rsum_calls (b0 := 0) (b := F) wz (Sl.of_own hs.out.1.1) (by have := HF.out; omega)).mono ?_
      rintro e w2 ⟨v2, rfl, hown2, hb2⟩
      rw [← HX.out] at hown2
      have k2 := (Sl.of_own (b := 0) hown2).string (P := Try.prog) Try.underlying25 Try.underlying5 Try.underlying9
      have HB2 := Aside0.mk hb2
      clear hown2 hb2
      go_wp2_with fail
      have HW2 := Aside0.mk (below_step hs.out.2 HB2.out)
      refine (dsum_calls (b0 := b0) (L := L) w2 (HV.out.below HW2.out) (Nat.le_trans hb0 HW2.out.size) (by rw [← HFE.out]; have := HF.out; omega)).mono ?_
      rintro e w3 ⟨v3, rfl, hown3, hb3⟩
      rw [← HFE.out, ← HX.out] at hown3
      have k3 := (Sl.of_own (b := 0) hown3).string (P := Try.prog) Try.underlying25 Try.underlying5 Try.underlying9
      have HB3 := Aside0.mk (below_step HB2.out hb3)
      clear hown3 hb3 k2
      go_wp2_with fail
      have hba : Below wz.heap.size wz (w3.alloc (.cells #[.slice Aa F.length ca] 25)) := below_step HB3.out ((Below.refl _ _).alloc (Nat.le_refl _) _)
      refine (dsum_calls (b0 := 0) (L := [F]) _ (one_list (heap_new rfl) ((Sl.of_own hs.out.1.1).below hba)) (Nat.zero_le _) (by have := HF.out; simp; omega)).mono ?_
      rintro e w4 ⟨v4, rfl, hown4, hb4⟩
      rw [show List.flatten [F] = F by simp, ← HX.out] at hown4
      have k4 := (Sl.of_own (b := 0) hown4).string (P := Try.prog) Try.underlying25 Try.underlying5 Try.underlying9
      have HB4 := Aside0.mk (below_step hba hb4)
      clear hown4 hb4 k3 hba
      go_wp2_with fail
      refine (hsum_calls (M := F) w4 (hs.out.1.isH.below HB4.out) (by have := HF.out; omega)).mono ?_
      rintro e w5 ⟨v5, rfl, hown5, hb5⟩
      rw [← HX.out] at hown5
      have k5 := (Sl.of_own (b := 0) hown5).string (P := Try.prog) Try.underlying25 Try.underlying5 Try.underlying9
      have HB5 := Aside0.mk (below_step HB4.out hb5)
      clear hown5 hb5 k4
      go_wp2_with fail
      refine (len_calls (M := F) w5 (hs.out.1.isH.below HB5.out)).mono ?_
      rintro e w6 ⟨rfl, rfl⟩
      go_wp2_with fail
      refine (awake1_calls w5).mono ?_
      rintro e w7 ⟨rfl, hb7⟩
      have HB7 := Aside0.mk (below_step HB5.out hb7)
      clear hb7
      go_wp2_with fail
      go_ret
      exact ⟨rfl, below_step hs.out.2 HB7.out⟩
end Go.Proofs.Ytbgnffgefpbdpaa
