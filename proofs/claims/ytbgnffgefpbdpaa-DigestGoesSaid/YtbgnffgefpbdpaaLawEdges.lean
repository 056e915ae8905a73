/-
  Texts of each length, about the edges of a block too, have the standard's sum, all at once, byte by byte, and in two pieces. No condition.
-/
import Derived.Test.YtbgnffgefpbdpaaLawSums
import Derived.Test.YtbgnffgefpbdpaaRound
import Derived.Deep.RegionHeld3
namespace Go.Proofs.Ytbgnffgefpbdpaa
open Go.RowKit
set_option linter.unusedVariables false
set_option linter.unusedSimpArgs false

theorem edges_out (n k x : Int) (w : World) (hout : ¬ (0 ≤ n ∧ n ≤ 300)) :
    Calls Try.prog 5 #[.int .i64 n, .int .i64 k, .int .u8 x] w fun e w' => e = .returned (.bool true) ∧ Below w.heap.size w w' := by
  by_cases h0 : n < 0
  · have d0 : decide (n < 0) = true := by simpa using h0
    clear hout
    go_enter Try.func5, Try.ntmps5
    go_wp2_with fail
    refine (awake1_calls _).mono ?_
    rintro e w2 ⟨rfl, hb2⟩
    go_wp2_with fail
    go_ret
    exact ⟨rfl, hb2⟩
  · have d0 : decide (n < 0) = false := by simpa using h0
    have d1 : decide (300 < n) = true := by simp; omega
    clear hout
    go_enter Try.func5, Try.ntmps5
    go_wp2_with fail
    refine (awake1_calls _).mono ?_
    rintro e w2 ⟨rfl, hb2⟩
    go_wp2_with fail
    go_ret
    exact ⟨rfl, hb2⟩

/-- Bytes of the call's own, so many. -/
def Some8 (w : World) (base : Nat) (v : Value) (n : Nat) : Prop := ∃ Y : List UInt8, Y.length = n ∧ w.ownsRow base 5 1 v n (Y.map bv)
theorem some8_set {w : World} {base g n c : Nat} (h : Some8 w base (.slice (some ⟨g, 0, none⟩) n c) n) (i : Nat) (y : Int) (hy0 : 0 ≤ y) (hy : y < 256) : Some8 (w.setCell ⟨g, i, none⟩ (.int .u8 y)) base (.slice (some ⟨g, 0, none⟩) n c) n ∧ w.grownBy (w.setCell ⟨g, i, none⟩ (.int .u8 y)) (some g) := by
  obtain ⟨Y, hY, ho⟩ := h
  obtain ⟨h1, h2⟩ := ho.stored i (.int .u8 y)
  refine ⟨⟨Y.set i (UInt8.ofNat y.toNat), by rw [List.length_set, hY], ?_⟩, h2⟩
  rw [List.map_set]
  have : bv (UInt8.ofNat y.toNat) = .int .u8 y := by
    unfold bv
    rw [UInt8.toNat_ofNat']
    congr 1
    omega
  rw [this]
  exact h1

theorem sl_mid {w : World} {b n c e base : Nat} {Y : List UInt8} (h : Sl bv e w base (.slice (some ⟨b, 0, none⟩) n c) Y) (lo hi : Nat) (h1 : lo ≤ hi) (h2 : hi ≤ Y.length) : Sl bv e w base (.slice (some ⟨b, lo, none⟩) (hi - lo) (c - lo)) ((Y.drop lo).take (hi - lo)) := by
  have := h.cut lo hi h1 h2
  have ha : (⟨b, 0, none⟩ : Addr).add lo = ⟨b, lo, none⟩ := by unfold Addr.add; split <;> simp_all
  rwa [ha] at this
/-- Another hasher is written. -/
theorem IsH.hother {w w1 : World} {g g' : Nat} {M : List UInt8} (h : IsH w g M) (hg : w.grownBy w1 (some g')) (hne : g ≠ g') (hh : ∃ s on wv n, HB w g' s on wv n) : IsH w1 g M := by
  obtain ⟨s, on, wv, h1, h2, h3, h4⟩ := h
  obtain ⟨s', on', wv', n', h5⟩ := hh
  exact ⟨s, on, wv, (hg.block _ (blk_lt h1) (fun e => hne (Option.some.inj e))).trans h1, slh h5 h2 hg, h3, h4⟩
theorem IsH.hb {w : World} {g : Nat} {M : List UInt8} (h : IsH w g M) : ∃ s on wv n, HB w g s on wv n := by
  obtain ⟨s, on, wv, h1, _⟩ := h
  exact ⟨s, on, wv, _, h1⟩

set_option maxHeartbeats 4000000 in
set_option maxRecDepth 100000 in
theorem edges_in (n : Nat) (k : Int) (x : Int) (w : World) (hn : n ≤ 300) (hk : -9223372036854775808 ≤ k ∧ k ≤ 9223372036854775807) (hx : 0 ≤ x ∧ x ≤ 255) :
    Calls Try.prog 5 #[.int .i64 (n : Int), .int .i64 k, .int .u8 x] w fun e w' => e = .returned (.bool true) ∧ Below w.heap.size w w' := by
  have d0 : decide ((n : Int) < 0) = false := by simp
  have d1 : decide (300 < (n : Int)) = false := by simp; omega
  obtain ⟨i0, hi, hz0, hz1, hz2⟩ := info_parts info_u8
  go_enter Try.func5, Try.ntmps5
  go_wp2_with (at_make; refine wpList_make_full _ rfl _ _ 25 rfl w.heap.size 5 i0 _ 1 Try.underlying25 hi hz0 hz1 _ _ _ _ n rfl rfl rfl rfl (by rw [hz2]; omega) (by simp only [maxLen]; omega) (Nat.le_refl _) ?_; intro w1 hown hgrow)
  have H1 := Aside0.mk (show Some8 w1 w.heap.size (.slice (some ⟨w.heap.size, 0, none⟩) n n) n ∧ Below w.heap.size w w1 from by
    refine ⟨⟨List.replicate n 0, by simp, ?_⟩, below_none hgrow⟩
    have he : (madeCells #[Value.int .u8 0] n).toList = (List.replicate n (0 : UInt8)).map bv := by
      apply List.ext_getElem
      · simp [madeCells]
      · intro i h1 h2
        simp [madeCells, Nat.mod_one, bv]
    simp only [Value.cells, Nat.mul_one] at hown
    rw [he] at hown
    exact hown)
  clear hown hgrow hi hz0 hz1 hz2
  go_loopw [8] (fun i wr => ∃ m : Nat, m ≤ n ∧ i = .int .i64 (m : Int) ∧ Aside0 (Some8 wr w.heap.size (.slice (some ⟨w.heap.size, 0, none⟩) n n) n ∧ Below w.heap.size w wr)) (fun i wr => n - (intOf i).toNat)
  case atStart => exact ⟨0, Nat.zero_le _, rfl, H1⟩
  case round =>
    obtain ⟨m, hm, rfl, hs⟩ := hrel
    by_cases hlt : m < n
    · have hm1 : (m : Int) < (n : Int) := by omega
      obtain ⟨Y, hY, hoY⟩ := hs.out.1
      have hc1 : wr.cell? ⟨w.heap.size, m, none⟩ = some (.int .u8 ((Y.getD m 0).toNat : Int)) := by
        obtain ⟨g, c, he, h⟩ := own_byte hoY hY.symm (by omega)
        cases he
        exact h m hlt
      have hf1 : wr.frozen? ⟨w.heap.size, m, none⟩ = false := by
        rcases hoY.2 with ⟨h', _⟩ | ⟨g', cap', cur, h', _, hh, _⟩
        · cases h'
        · cases h'; simp [World.frozen?, hh]
      clear hY hoY H1
      go_wp2_with fail
      go_roundw
      case rel =>
        obtain ⟨q1, q2⟩ := some8_set hs.out.1 m ((x + m) % 256) (by omega) (by omega)
        exact ⟨m + 1, by omega, by go_num, ⟨q1, hs.out.2.grown q2 hs.out.2.size (fun j hj => by cases hj; exact Nat.le_refl _)⟩⟩
      case measure => simp [intOf]; omega
    · have hmn : ¬ (m : Int) < (n : Int) := by omega
      obtain ⟨Y, hY, hoY⟩ := hs.out.1
      subst hY
      have HO := Aside0.mk (And.intro hoY hs.out.2)
      obtain ⟨X, hX⟩ : ∃ X, X = shaL Y := ⟨_, rfl⟩
      have HX := Aside0.mk hX
      have hss := str_same X
      obtain ⟨w0, rfl⟩ : ∃ w0 : World, w0 = wr := ⟨_, rfl⟩
      clear hX hoY hs H1 hlt hm
      go_wp2_with fail
      refine (rsum_calls (b0 := 0) (b := Y) w0 (Sl.of_own HO.out.1) (by omega)).mono ?_
      rintro e w2 ⟨v2, rfl, hown2, hb2⟩
      rw [← HX.out] at hown2
      have k2 := (Sl.of_own (b := 0) hown2).string (P := Try.prog) Try.underlying25 Try.underlying5 Try.underlying9
      have HB2 := Aside0.mk hb2
      have HS2 := Aside0.mk (show Sl bv 5 w2 0 (.slice (some ⟨w.heap.size, 0, none⟩) Y.length Y.length) Y from (Sl.of_own HO.out.1).below hb2)
      clear hown2 hb2
      have H4 : ∀ o, o = Obj.cells (hC ⟨0, 0, 0, 0, 0, 0, 0, 0⟩ false (.slice none 0 0) 0) 30 → Aside0 (IsH ((w2.alloc o).alloc o) w2.heap.size (Y.take 0) ∧ IsH ((w2.alloc o).alloc o) (w2.heap.size + 1) [] ∧ Below w2.heap.size w2 ((w2.alloc o).alloc o)) := fun o ho => by
        subst ho
        exact ⟨IsH.zero (heap_old (heap_new rfl)), IsH.zero (heap_new (by simp)), ((Below.refl _ _).alloc (Nat.le_refl _) _).alloc (by simp) _⟩
      have H4 := Aside0.mk H4
      go_wp2_with fail
      go_loopw [12] (fun i wr => ∃ m : Nat, m ≤ Y.length ∧ i = .int .i64 (m : Int) ∧ Aside0 (IsH wr w2.heap.size (Y.take m) ∧ IsH wr (w2.heap.size + 1) [] ∧ Below w2.heap.size w2 wr)) (fun i wr => Y.length - (intOf i).toNat)
      case atStart => exact ⟨0, Nat.zero_le _, rfl, H4.out _ rfl⟩
      case round =>
        obtain ⟨m, hm, rfl, hs⟩ := hrel
        clear H4
        by_cases hlt : m < Y.length
        · have hm1 : (m : Int) < (Y.length : Int) := by omega
          have hm2 : (m : Int) + 1 ≤ (Y.length : Int) := by omega
          go_wp2_with fail
          have hne12 : w2.heap.size + 1 ≠ w2.heap.size := by omega
          refine (add_calls (b0 := 0) (x := (Y.drop m).take 1) wr hs.out.1 (Nat.zero_le _) (by have := sl_mid (HS2.out.below hs.out.2.2) m (m + 1) (by omega) (by omega); rwa [show m + 1 - m = 1 by omega] at this) (by rw [List.length_take, List.length_take]; omega)).mono ?_
          rintro e w3 ⟨rfl, hi3, hg3⟩
          have H3 := Aside0.mk (show IsH w3 w2.heap.size (Y.take (m + 1)) ∧ IsH w3 (w2.heap.size + 1) [] ∧ Below w2.heap.size w2 w3 from
            ⟨by rw [show Y.take (m + 1) = Y.take m ++ (Y.drop m).take 1 by rw [List.take_add]]; exact hi3, hs.out.2.1.hother hg3 hne12 hs.out.1.hb, hs.out.2.2.grown hg3 hs.out.2.2.size (fun j hj => by cases hj; exact Nat.le_refl _)⟩)
          clear hi3 hg3
          go_wp2_with fail
          go_roundw
          case rel => exact ⟨m + 1, by omega, by go_num, H3⟩
          case measure => simp [intOf]; omega
        · have hmY : ¬ (m : Int) < (Y.length : Int) := by omega
          have hT : Y.take m = Y := List.take_of_length_le (by omega)
          rw [hT] at hs
          have hrb := rndI_bd k (show (0 : Int) < (Y.length : Int) + 1 by omega)
          obtain ⟨r, hr⟩ : ∃ r, r = rndI k ((Y.length : Int) + 1) := ⟨_, rfl⟩
          rw [← hr] at hrb
          obtain ⟨K, rfl⟩ : ∃ K : Nat, r = (K : Int) := ⟨r.toNat, by omega⟩
          have HR := Aside0.mk hr
          obtain ⟨hrb0, hrb1⟩ := hrb
          have hK : K ≤ Y.length := by omega
          have hK1 : (K : Int) ≤ (Y.length : Int) := by omega
          obtain ⟨w4, rfl⟩ : ∃ w4 : World, w4 = wr := ⟨_, rfl⟩
          clear hr hT hlt hm hrb1
          go_wp2_with fail
          refine (roundI_calls k ((Y.length : Int) + 1) w4 (by omega) (by omega) hk).mono ?_
          rintro e w' ⟨rfl, rfl⟩
          rw [← HR.out]
          have hne12 : w2.heap.size ≠ w2.heap.size + 1 := by omega
          have HSA := Aside0.mk (show Sl bv 5 w4 0 (.slice (some ⟨w.heap.size, 0, none⟩) K Y.length) (Y.take K) from (HS2.out.below hs.out.2.2).head K hK)
          go_wp2_with fail
          refine (add_calls (b0 := 0) (x := Y.take K) w4 hs.out.2.1 (Nat.zero_le _) HSA.out (by rw [List.length_take]; simp; omega)).mono ?_
          rintro e w5 ⟨rfl, hi5, hg5⟩
          have H5 := Aside0.mk (show IsH w5 w2.heap.size Y ∧ IsH w5 (w2.heap.size + 1) (Y.take K) ∧ Below w2.heap.size w2 w5 from
            ⟨hs.out.1.hother hg5 hne12 hs.out.2.1.hb, hi5, hs.out.2.2.grown hg5 hs.out.2.2.size (fun j hj => by cases hj; omega)⟩)
          clear hi5 hg5 hs
          have hcat : Y.take K ++ Y.drop K = Y := List.take_append_drop _ _
          by_cases hKY : Y.length = K
          · obtain rfl : K = Y.length := hKY.symm
            clear hKY
            have HSB : ∀ w', Below w2.heap.size w2 w' → Sl bv 5 w' 0 (.slice (some ⟨w.heap.size, 0, none⟩) 0 0) (Y.drop Y.length) := fun w' hb => by
              have := (HS2.out.below hb).tail_all Y.length (Nat.le_refl _) rfl
              rwa [Nat.sub_self] at this
            have HSB := Aside0.mk HSB
            have HSA : ∀ w', Below w2.heap.size w2 w' → Sl bv 5 w' 0 (.slice (some ⟨w.heap.size, 0, none⟩) Y.length Y.length) (Y.take Y.length) := fun w' hb => (HS2.out.below hb).head _ (by omega)
            have HSA := Aside0.mk HSA
            have HCAT := Aside0.mk hcat
            clear hcat
            go_wp2_with fail
            refine (add_calls (b0 := 0) (x := Y.drop Y.length) w5 H5.out.2.1 (Nat.zero_le _) (HSB.out _ H5.out.2.2) (by rw [List.length_take, List.length_drop]; omega)).mono ?_
            rintro e w6 ⟨rfl, hi6, hg6⟩
            have H6 := Aside0.mk (show IsH w6 w2.heap.size Y ∧ IsH w6 (w2.heap.size + 1) Y ∧ Below w2.heap.size w2 w6 from
              ⟨H5.out.1.hother hg6 hne12 H5.out.2.1.hb, by rw [HCAT.out] at hi6; exact hi6, H5.out.2.2.grown hg6 H5.out.2.2.size (fun j hj => by cases hj; omega)⟩)
            clear hi6 hg6
            have tok1 : True := trivial
            go_wp2_with fail
            go_region_held (fun w' => True) (trivial) (first
              | ((have _t := tok1; go_at_call 10)
                 have hb7 : Below w6.heap.size w6 (w6.alloc (.cells #[.slice (some ⟨w.heap.size, 0, none⟩) Y.length Y.length] 25)).drew := ((Below.refl _ _).alloc (Nat.le_refl _) _).drew
                 refine (dsum_calls (b0 := 0) (L := [Y]) _ (one_list (w := (w6.alloc (.cells #[.slice (some ⟨w.heap.size, 0, none⟩) Y.length Y.length] 25)).drew) (G := w6.heap.size) (heap_new (w := w6) rfl) (HS2.out.below (below_step H6.out.2.2 hb7))) (Nat.zero_le _) (by simp; omega)).mono ?_
                 rintro e w7 ⟨v7, rfl, hown7, hb7'⟩
                 rw [show List.flatten [Y] = Y by simp, ← HX.out] at hown7
                 have k7 := (Sl.of_own (b := 0) hown7).string (P := Try.prog) Try.underlying25 Try.underlying5 Try.underlying9
                 have HB7 := Aside0.mk (below_step hb7 hb7')
                 clear hown7 hb7 hb7' tok1 _t)
              | ((go_at_call 10)
                 have hb8 : Below w6.heap.size w6 (w7.alloc (.cells #[.slice (some ⟨w.heap.size, 0, none⟩) Y.length Y.length, .slice (some ⟨w.heap.size, 0, none⟩) 0 0] 25)) := below_step HB7.out ((Below.refl _ _).alloc (Nat.le_refl _) _)
                 refine (dsum_calls (b0 := 0) (L := [Y.take Y.length, Y.drop Y.length]) _ (pair_list (G := w7.heap.size) (heap_new (w := w7) rfl) (HSA.out _ (below_step H6.out.2.2 hb8)) (HSB.out _ (below_step H6.out.2.2 hb8))) (Nat.zero_le _) (by rw [show List.flatten [Y.take Y.length, Y.drop Y.length] = Y by simp]; omega)).mono ?_
                 rintro e w8 ⟨v8, rfl, hown8, hb8'⟩
                 rw [show List.flatten [Y.take Y.length, Y.drop Y.length] = Y by simp, ← HX.out] at hown8
                 have k8 := (Sl.of_own (b := 0) hown8).string (P := Try.prog) Try.underlying25 Try.underlying5 Try.underlying9
                 have HB8 := Aside0.mk (below_step hb8 hb8')
                 clear hown8 hb8 hb8' k7)
              | ((go_at_call_of 11 (Value.pointer (some ⟨w2.heap.size, 0, none⟩)))
                 refine (hsum_calls (M := Y) w8 (H6.out.1.below HB8.out) (by omega)).mono ?_
                 rintro e w9 ⟨v9, rfl, hown9, hb9'⟩
                 rw [← HX.out] at hown9
                 have k9 := (Sl.of_own (b := 0) hown9).string (P := Try.prog) Try.underlying25 Try.underlying5 Try.underlying9
                 have HB9 := Aside0.mk (below_step HB8.out hb9')
                 clear hown9 hb9' k8)
              | ((go_at_call 11)
                 refine (hsum_calls (M := Y) w9 (H6.out.2.1.below HB9.out) (by omega)).mono ?_
                 rintro e w10 ⟨v10, rfl, hown10, hb10'⟩
                 rw [← HX.out] at hown10
                 have k10 := (Sl.of_own (b := 0) hown10).string (P := Try.prog) Try.underlying25 Try.underlying5 Try.underlying9
                 have HB10 := Aside0.mk (below_step HB9.out hb10')
                 clear hown10 hb10' k9)
              | ((go_at_call 12); refine (len_calls (M := Y) w10 (H6.out.1.below HB10.out)).mono ?_; rintro e w11 ⟨rfl, rfl⟩)
              | ((go_at_call 7); refine (awake1_calls w10).mono ?_; rintro e w12 ⟨rfl, hb12⟩; have HB12 := Aside0.mk (below_step HB10.out hb12); clear hb12))
            all_goals
              go_wp2_with fail
              go_ret
              exact ⟨rfl, below_step (below_step HO.out.2 HB2.out) (below_step H6.out.2.2 HB12.out)⟩
          · have HSB : ∀ w', Below w2.heap.size w2 w' → Sl bv 5 w' 0 (.slice (some ⟨w.heap.size, K, none⟩) (Y.length - K) (Y.length - K)) (Y.drop K) := fun w' hb => by
              have := sl_mid (HS2.out.below hb) K Y.length hK (Nat.le_refl _)
              rwa [List.take_of_length_le (by rw [List.length_drop]; omega)] at this
            have HSB := Aside0.mk HSB
            have HSA : ∀ w', Below w2.heap.size w2 w' → Sl bv 5 w' 0 (.slice (some ⟨w.heap.size, 0, none⟩) K Y.length) (Y.take K) := fun w' hb => (HS2.out.below hb).head _ (by omega)
            have HSA := Aside0.mk HSA
            have HCAT := Aside0.mk hcat
            clear hcat
            go_wp2_with fail
            refine (add_calls (b0 := 0) (x := Y.drop K) w5 H5.out.2.1 (Nat.zero_le _) (HSB.out _ H5.out.2.2) (by rw [List.length_take, List.length_drop]; omega)).mono ?_
            rintro e w6 ⟨rfl, hi6, hg6⟩
            have H6 := Aside0.mk (show IsH w6 w2.heap.size Y ∧ IsH w6 (w2.heap.size + 1) Y ∧ Below w2.heap.size w2 w6 from
              ⟨H5.out.1.hother hg6 hne12 H5.out.2.1.hb, by rw [HCAT.out] at hi6; exact hi6, H5.out.2.2.grown hg6 H5.out.2.2.size (fun j hj => by cases hj; omega)⟩)
            clear hi6 hg6
            have tok1 : True := trivial
            go_wp2_with fail
            go_region_held (fun w' => True) (trivial) (first
              | ((have _t := tok1; go_at_call 10)
                 have hb7 : Below w6.heap.size w6 (w6.alloc (.cells #[.slice (some ⟨w.heap.size, 0, none⟩) Y.length Y.length] 25)).drew := ((Below.refl _ _).alloc (Nat.le_refl _) _).drew
                 refine (dsum_calls (b0 := 0) (L := [Y]) _ (one_list (w := (w6.alloc (.cells #[.slice (some ⟨w.heap.size, 0, none⟩) Y.length Y.length] 25)).drew) (G := w6.heap.size) (heap_new (w := w6) rfl) (HS2.out.below (below_step H6.out.2.2 hb7))) (Nat.zero_le _) (by simp; omega)).mono ?_
                 rintro e w7 ⟨v7, rfl, hown7, hb7'⟩
                 rw [show List.flatten [Y] = Y by simp, ← HX.out] at hown7
                 have k7 := (Sl.of_own (b := 0) hown7).string (P := Try.prog) Try.underlying25 Try.underlying5 Try.underlying9
                 have HB7 := Aside0.mk (below_step hb7 hb7')
                 clear hown7 hb7 hb7' tok1 _t)
              | ((go_at_call 10)
                 have hb8 : Below w6.heap.size w6 (w7.alloc (.cells #[.slice (some ⟨w.heap.size, 0, none⟩) K Y.length, .slice (some ⟨w.heap.size, K, none⟩) (Y.length - K) (Y.length - K)] 25)) := below_step HB7.out ((Below.refl _ _).alloc (Nat.le_refl _) _)
                 refine (dsum_calls (b0 := 0) (L := [Y.take K, Y.drop K]) _ (pair_list (G := w7.heap.size) (heap_new (w := w7) rfl) (HSA.out _ (below_step H6.out.2.2 hb8)) (HSB.out _ (below_step H6.out.2.2 hb8))) (Nat.zero_le _) (by rw [show List.flatten [Y.take K, Y.drop K] = Y by simp]; omega)).mono ?_
                 rintro e w8 ⟨v8, rfl, hown8, hb8'⟩
                 rw [show List.flatten [Y.take K, Y.drop K] = Y by simp, ← HX.out] at hown8
                 have k8 := (Sl.of_own (b := 0) hown8).string (P := Try.prog) Try.underlying25 Try.underlying5 Try.underlying9
                 have HB8 := Aside0.mk (below_step hb8 hb8')
                 clear hown8 hb8 hb8' k7)
              | ((go_at_call_of 11 (Value.pointer (some ⟨w2.heap.size, 0, none⟩)))
                 refine (hsum_calls (M := Y) w8 (H6.out.1.below HB8.out) (by omega)).mono ?_
                 rintro e w9 ⟨v9, rfl, hown9, hb9'⟩
                 rw [← HX.out] at hown9
                 have k9 := (Sl.of_own (b := 0) hown9).string (P := Try.prog) Try.underlying25 Try.underlying5 Try.underlying9
                 have HB9 := Aside0.mk (below_step HB8.out hb9')
                 clear hown9 hb9' k8)
              | ((go_at_call 11)
                 refine (hsum_calls (M := Y) w9 (H6.out.2.1.below HB9.out) (by omega)).mono ?_
                 rintro e w10 ⟨v10, rfl, hown10, hb10'⟩
                 rw [← HX.out] at hown10
                 have k10 := (Sl.of_own (b := 0) hown10).string (P := Try.prog) Try.underlying25 Try.underlying5 Try.underlying9
                 have HB10 := Aside0.mk (below_step HB9.out hb10')
                 clear hown10 hb10' k9)
              | ((go_at_call 12); refine (len_calls (M := Y) w10 (H6.out.1.below HB10.out)).mono ?_; rintro e w11 ⟨rfl, rfl⟩)
              | ((go_at_call 7); refine (awake1_calls w10).mono ?_; rintro e w12 ⟨rfl, hb12⟩; have HB12 := Aside0.mk (below_step HB10.out hb12); clear hb12))
            all_goals
              go_wp2_with fail
              go_ret
              exact ⟨rfl, below_step (below_step HO.out.2 HB2.out) (below_step H6.out.2.2 HB12.out)⟩
end Go.Proofs.Ytbgnffgefpbdpaa
