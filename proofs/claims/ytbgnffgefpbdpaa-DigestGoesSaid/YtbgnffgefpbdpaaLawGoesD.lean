/-
  A sum that was told may go on; a copy goes on by itself; what was told, and handed in, may be changed behind it. No condition.
-/
import Derived.Test.YtbgnffgefpbdpaaLawEdges
namespace Go.Proofs.Ytbgnffgefpbdpaa
open Go.RowKit
set_option linter.unusedVariables false
set_option linter.unusedSimpArgs false

set_option maxHeartbeats 1000000 in
theorem dgoes_out {e b0 e' b0' e'' b0'' : Nat} (v v' v'' : Value) (x y z : List UInt8) (w : World) (hx : Sl bv e w b0 v x) (hy : Sl bv e' w b0' v' y) (hz : Sl bv e'' w b0'' v'' z) (hbig : ¬ sumI x.length [(y.length : Int), (z.length : Int)] ≤ 2000) :
    Calls Try.prog 4 #[v, v', v''] w fun e w' => e = .returned (.bool true) ∧ Below w.heap.size w w' := by
  obtain ⟨A, c, rfl, _, hm, _⟩ := hx
  obtain ⟨A', c', rfl, _, hm', _⟩ := hy
  obtain ⟨A'', c'', rfl, _, hm'', _⟩ := hz
  have HG : Aside0 (decide (2000 < sumI x.length [(y.length : Int), (z.length : Int)]) = true) := ⟨by simp; omega⟩
  clear hbig
  go_enter Try.func4, Try.ntmps4
  go_wp2_with fail
  refine (sum_calls (e := 3) (b0 := 0) _ _ [(y.length : Int), (z.length : Int)] _ (by omega) (by omega) (by intro z hz; simp at hz; rcases hz with rfl | rfl <;> omega)
    (Sl.at (cur := #[.int .i64 y.length, .int .i64 z.length]) (fr := (0, 0)) (heap_new rfl) rfl rfl (by simp) (by simp))).mono ?_
  rintro e w1 ⟨rfl, rfl⟩
  have hg := HG.out
  generalize sumI x.length [(y.length : Int), (z.length : Int)] = q at *
  go_wp2_with fail
  refine (awake1_calls _).mono ?_
  rintro e w1 ⟨rfl, hb⟩
  go_wp2_with fail
  go_ret
  exact ⟨rfl, below_step ((Below.refl _ _).alloc (Nat.le_refl _) _) hb⟩

/-- Bytes of the call's own, so many, below its base as it was. -/
theorem Some8.below {w w1 : World} {base n : Nat} {v : Value} (h : Some8 w base v n) (hb : Below w.heap.size w w1) : Some8 w1 base v n := by
  obtain ⟨Y, hY, ho⟩ := h
  exact ⟨Y, hY, own_below ho hb⟩

/-- A row of bytes stays where a hasher is written. -/
theorem own_hkept {w w1 : World} {g base n : Nat} {a : Value} {cs : List Value} (ho : w.ownsRow base 5 1 a n cs) (hh : ∃ s on wv n, HB w g s on wv n) (hg : w.grownBy w1 (some g)) : w1.ownsRow base 5 1 a n cs := by
  refine ho.kept hg (.inr fun hk => ?_)
  obtain ⟨_, _, _, _, hb⟩ := hh
  obtain ⟨_, cur, fr, e', h6, rfl⟩ := own_row ho g hk
  unfold HB at hb
  rw [hb] at h6
  injection h6 with h6
  injection h6 with _ h6
  exact absurd h6 (by decide)
theorem shaL_length (x : List UInt8) : (shaL x).length = 32 := by simp [shaL, St.bytes, bytesW]
theorem str_not (X : List UInt8) : ((str X).toList != (str X).toList) = false := by simp
theorem IsHB.hb {w : World} {g B : Nat} {M : List UInt8} (h : IsHB w g M B) : ∃ s on wv n, HB w g s on wv n := h.isH.hb

set_option maxHeartbeats 8000000 in
set_option maxRecDepth 100000 in
theorem dgoes_in (v v' v'' : Value) (a b c : List UInt8) (w : World) (hx : Sl bv 5 w w.heap.size v a) (hy : Sl bv 5 w w.heap.size v' b) (hz : Sl bv 5 w w.heap.size v'' c) (hin : sumI a.length [(b.length : Int), (c.length : Int)] ≤ 2000) :
    Calls Try.prog 4 #[v, v', v''] w fun e w' => e = .returned (.bool true) ∧ Below w.heap.size w w' := by
  have hsum := sumI_le 2000 (by decide) _ _ hin
  simp at hsum
  have hla : a.length + b.length + c.length ≤ 2000 := by omega
  have HL := Aside0.mk hla
  have HXs := Aside0.mk hx
  have HYs := Aside0.mk hy
  have HZs := Aside0.mk hz
  obtain ⟨Ax, cx, rfl, _, hm, _⟩ := hx
  obtain ⟨Ay, cy, rfl, _, hm', _⟩ := hy
  obtain ⟨Az, cz, rfl, _, hm'', _⟩ := hz
  have HG : Aside0 (decide (2000 < sumI a.length [(b.length : Int), (c.length : Int)]) = false) := ⟨by simp; omega⟩
  clear hin hsum hla
  go_enter Try.func4, Try.ntmps4
  go_wp2_with fail
  refine (sum_calls (e := 3) (b0 := 0) _ _ [(b.length : Int), (c.length : Int)] _ (by omega) (by omega) (by intro z hz; simp at hz; rcases hz with rfl | rfl <;> omega)
    (Sl.at (cur := #[.int .i64 b.length, .int .i64 c.length]) (fr := (0, 0)) (heap_new rfl) rfl rfl (by simp) (by simp))).mono ?_
  rintro e w1 ⟨rfl, rfl⟩
  have hg := HG.out
  generalize sumI a.length [(b.length : Int), (c.length : Int)] = q at *
  obtain ⟨w1, hw1⟩ : ∃ w1, w1 = w.alloc (.cells #[.int .i64 b.length, .int .i64 c.length] 3) := ⟨_, rfl⟩
  have HB1 := Aside0.mk (show Below w.heap.size w w1 by rw [hw1]; exact (Below.refl _ _).alloc (Nat.le_refl _) _)
  rw [← hw1]
  clear hw1
  go_upto_region 4 with fail
  refine (show (∀ w2, w2 = w1.alloc (.cells (hC ⟨0, 0, 0, 0, 0, 0, 0, 0⟩ false (.slice none 0 0) 0) 30) → Code.wp _ _ _ _ w2) → Code.wp _ _ _ _ (w1.alloc (.cells (hC ⟨0, 0, 0, 0, 0, 0, 0, 0⟩ false (.slice none 0 0) 0) 30)) from fun h => h _ rfl) ?_
  intro w2 hw2
  have H3 := Aside0.mk (show IsH w2 w1.heap.size [] ∧ Below w.heap.size w w2 ∧ w2.heap.size = w1.heap.size + 1 by
    subst hw2
    exact ⟨IsH.zero (heap_new rfl), below_step HB1.out ((Below.refl _ _).alloc (Nat.le_refl _) _), by simp⟩)
  have hg1 : w.heap.size ≤ w1.heap.size := HB1.out.size
  clear hw2
  go_upto_region 5 with (at_builtin; refine append_row bv (fun _ => rfl) rfl (.tmp 23) (.tmp 24) 25 rfl w2.heap.size 5 _ _ _ _ Try.underlying25 info_u8 rfl (by decide) _ [] a _ (by rfl) (by rfl) (World.ownsRow_made w2 #[] 0 (Nat.le_refl _) (by decide) rfl) (HXs.out.below (below_step H3.out.2.1 ((Below.refl _ _).alloc (Nat.le_refl _) _))) (by simp; have := HL.out; omega) (by simp) ?_; intro v4 w4 hown hgr hnn)
  have hne : v4 ≠ .slice none 0 0 := fun h => by have := (hnn.1 h).1; cases this
  obtain ⟨gx, c4, rfl⟩ : ∃ gx c, v4 = .slice (some ⟨gx, 0, none⟩) a.length c := by
    rcases hown.2 with ⟨h, _⟩ | ⟨g, cap, cur, h, _⟩
    · exact absurd h hne
    · exact ⟨g, cap, by simpa using h⟩
  have hb4 : Below w2.heap.size w2 w4 := ((Below.refl w2.heap.size w2).alloc (Nat.le_refl _) _).grown hgr (by simp) (fun k hk => by cases hk; exact Nat.le_refl _)
  have hgx1 := own_base hown gx rfl
  have hgx2 := own_lt' hown gx rfl
  simp only [List.nil_append] at hown
  have H4 := Aside0.mk (And.intro (H3.out.1.below hb4) (And.intro hown (And.intro (below_step H3.out.2.1 hb4) (And.intro hgx1 hgx2))))
  have hgne : w1.heap.size ≠ gx := by have := H3.out.2.2; omega
  clear hne hnn hown hgr hb4 hgx1 hgx2
  go_wp2_with fail
  refine (addB_calls (b0 := 0) (x := a) w4 H4.out.1 (Nat.zero_le _) (Sl.of_own H4.out.2.1) (by have := HL.out; simp; omega)).mono ?_
  rintro e w5 ⟨rfl, hi5, hg5⟩
  simp only [List.nil_append] at hi5
  have H5 := Aside0.mk (show IsHB w5 w1.heap.size a w4.heap.size ∧ Some8 w5 w2.heap.size (.slice (some ⟨gx, 0, none⟩) a.length c4) a.length ∧ Below w.heap.size w w5 from
    ⟨hi5, ⟨a, rfl, own_hkept H4.out.2.1 H4.out.1.hb hg5⟩, H4.out.2.2.1.grown hg5 H4.out.2.2.1.size (fun j hj => by cases hj; exact hg1)⟩)
  clear hi5 hg5
  go_wp2_with fail
  go_loopw [9] (fun i wr => ∃ m : Nat, m ≤ a.length ∧ i = .int .i64 (m : Int) ∧ Aside0 (IsHB wr w1.heap.size a w4.heap.size ∧ Some8 wr w2.heap.size (.slice (some ⟨gx, 0, none⟩) a.length c4) a.length ∧ Below w.heap.size w wr)) (fun i wr => a.length - (intOf i).toNat)
  case atStart => exact ⟨0, Nat.zero_le _, rfl, H5⟩
  case round =>
    obtain ⟨m, hm, rfl, hs⟩ := hrel
    clear H5
    by_cases hlt : m < a.length
    · have hm1 : (m : Int) < (a.length : Int) := by omega
      obtain ⟨Y, hY, hoY⟩ := hs.out.2.1
      have hc1 : wr.cell? ⟨gx, m, none⟩ = some (.int .u8 ((Y.getD m 0).toNat : Int)) := by
        obtain ⟨g, c, he, h⟩ := own_byte hoY hY.symm (by omega)
        cases he
        exact h m hlt
      have hf1 : wr.frozen? ⟨gx, m, none⟩ = false := by
        rcases hoY.2 with ⟨h', _⟩ | ⟨g', cap', cur, h', _, hh, _⟩
        · cases h'
        · cases h'; simp [World.frozen?, hh]
      obtain ⟨y, hy⟩ : ∃ y, y = Y.getD m 0 := ⟨_, rfl⟩
      rw [← hy] at hc1
      clear hY hoY hy
      go_wp2_with fail
      go_roundw
      case rel =>
        obtain ⟨q1, q2⟩ := some8_set hs.out.2.1 m (((y.toNat : Int) + 1) % 256) (by omega) (by omega)
        exact ⟨m + 1, by omega, by go_num, ⟨hs.out.1.other q2 H4.out.2.2.2.2 hgne, q1, hs.out.2.2.grown q2 hs.out.2.2.size (fun j hj => by cases hj; have := H4.out.2.2.2.1; have := H3.out.2.2; omega)⟩⟩
      case measure => simp [intOf]; omega
    · have hmn : ¬ (m : Int) < (a.length : Int) := by omega
      obtain ⟨w6, rfl⟩ : ∃ w6 : World, w6 = wr := ⟨_, rfl⟩
      have hgl : w1.heap.size < w6.heap.size := by obtain ⟨_, _, _, _, h⟩ := hs.out.1.hb; exact blk_lt h
      go_wp2_with fail
      refine (copy_calls w6 hs.out.1.isH).mono ?_
      rintro e w7 ⟨gk, rfl, hgk, hi7, hb7⟩
      have H7 := Aside0.mk (And.intro (hs.out.1.below hb7) (And.intro hi7 (below_step hs.out.2.2 hb7)))
      have hkne : gk ≠ w1.heap.size := by omega
      clear hi7 hb7
      go_wp2_with fail
      refine (hsum_calls (M := a) w7 H7.out.1.isH (by have := HL.out; omega)).mono ?_
      rintro e w8 ⟨v8, rfl, hown8, hb8⟩
      have h32 := shaL_length a
      obtain ⟨X7, hX7⟩ : ∃ X, X = shaL a := ⟨_, rfl⟩
      rw [← hX7] at hown8 h32
      rw [h32] at hown8
      obtain ⟨r, c8, rfl, _⟩ := own_byte hown8 h32.symm (by decide)
      have hr1 := own_base hown8 r rfl
      have hr2 := own_lt' hown8 r rfl
      have H8 := Aside0.mk (And.intro (H7.out.1.below hb8) (And.intro (H7.out.2.1.below hb8) (And.intro hown8 (And.intro (below_step H7.out.2.2 hb8) (And.intro hr1 hr2)))))
      have HX7 := Aside0.mk hX7
      have hgk8 : gk < w8.heap.size := by obtain ⟨_, _, _, _, h⟩ := (H7.out.2.1.below hb8).hb; exact blk_lt h
      have hrk : gk < r := by obtain ⟨_, _, _, _, h⟩ := H7.out.2.1.hb; have := blk_lt h; omega
      have h32' := Aside0.mk h32
      clear hown8 hb8 hX7 hr1 hr2 h32
      go_wp2_with fail
      refine (addB_calls (x := b) w8 H8.out.1.isH hg1 (HYs.out.below H8.out.2.2.2.1) (by have := HL.out; omega)).mono ?_
      rintro e w9 ⟨rfl, hi9, hg9⟩
      have H9 := Aside0.mk (show IsHB w9 w1.heap.size (a ++ b) w8.heap.size ∧ IsH w9 gk a ∧ w9.ownsRow w7.heap.size 5 1 (.slice (some ⟨r, 0, none⟩) 32 c8) 32 (X7.map bv) ∧ Below w.heap.size w w9 from
        ⟨hi9, H8.out.2.1.hother hg9 hkne H8.out.1.hb, own_hkept H8.out.2.2.1 H8.out.1.hb hg9, H8.out.2.2.2.1.grown hg9 H8.out.2.2.2.1.size (fun j hj => by cases hj; exact hg1)⟩)
      clear hi9 hg9
      have hgkw : w.heap.size ≤ gk := by omega
      go_wp2_with fail
      refine (add_calls (x := c) w9 H9.out.2.1 hgkw (HZs.out.below H9.out.2.2.2) (by have := HL.out; omega)).mono ?_
      rintro e w10 ⟨rfl, hi10, hg10⟩
      have H10 := Aside0.mk (show IsHB w10 w1.heap.size (a ++ b) w8.heap.size ∧ IsH w10 gk (a ++ c) ∧ w10.ownsRow w7.heap.size 5 1 (.slice (some ⟨r, 0, none⟩) 32 c8) 32 (X7.map bv) ∧ Below w.heap.size w w10 from
        ⟨H9.out.1.other hg10 hgk8 (Ne.symm hkne), hi10, own_hkept H9.out.2.2.1 H9.out.2.1.hb hg10, H9.out.2.2.2.grown hg10 H9.out.2.2.2.size (fun j hj => by cases hj; exact hgkw)⟩)
      clear hi10 hg10
      obtain ⟨XB, hXB⟩ : ∃ X, X = shaL (a ++ b) := ⟨_, rfl⟩
      obtain ⟨XC, hXC⟩ : ∃ X, X = shaL (a ++ c) := ⟨_, rfl⟩
      have HXB := Aside0.mk hXB
      have HXC := Aside0.mk hXC
      have n7 := str_not X7
      have nB := str_not XB
      have nC := str_not XC
      have sB := str_same XB
      have HF : Aside0 (∀ w', Below w10.heap.size w10 w' → (convert 25 9 (.slice (some ⟨r, 0, none⟩) 32 c8)).run Try.prog w' = .ok (.string (str X7)) w') := ⟨fun w' hb => (Sl.of_own (b := 0) (by rw [h32'.out]; exact own_below H10.out.2.2.1 hb)).string (P := Try.prog) Try.underlying25 Try.underlying5 Try.underlying9⟩
      have tok1 : True := trivial
      clear hXB hXC
      go_upto_region 16 with fail
      go_cut [76] from 49 to 76 (fun cc wx => cc = .bool false ∧ Aside0 (Below w10.heap.size w10 wx))
      case first =>
       go_region_held (fun w' => (convert 25 9 (.slice (some ⟨r, 0, none⟩) 32 c8)).run Try.prog w' = .ok (.string (str X7)) w') (first | exact kS | exact HF.out _ (Below.refl _ _).drew | exact HF.out _ ((Below.refl _ _).alloc (Nat.le_refl _) _).drew | exact HF.out _ (below_step HB11.out ((Below.refl _ _).alloc (Nat.le_refl _) _)) | exact HF.out _ (below_step HB12.out ((Below.refl _ _).alloc (Nat.le_refl _) _)) | exact HF.out _ (below_step HB13.out ((Below.refl _ _).alloc (Nat.le_refl _) _)) | exact HF.out _ (below_step HB14.out ((Below.refl _ _).alloc (Nat.le_refl _) _))) (first
        | ((have _t := tok1; go_at_call 10)
           have hb : Below w10.heap.size w10 (w10.alloc (.cells #[.slice Ax a.length cx] 25)).drew := ((Below.refl _ _).alloc (Nat.le_refl _) _).drew
           refine (dsum_calls (b0 := w.heap.size) (L := [a]) _ (one_list (w := (w10.alloc (.cells #[.slice Ax a.length cx] 25)).drew) (G := w10.heap.size) (heap_new (w := w10) rfl) (HXs.out.below (below_step H10.out.2.2.2 hb))) (Nat.le_trans H10.out.2.2.2.size hb.size) (by have := HL.out; simp; omega)).mono ?_
           rintro e w11 ⟨v11, rfl, hown, hb'⟩
           have HB11 := Aside0.mk (below_step hb hb')
           rw [show List.flatten [a] = a by simp] at hown
           rw [← HX7.out] at hown
           have k11 := (Sl.of_own (b := 0) hown).string (P := Try.prog) Try.underlying25 Try.underlying5 Try.underlying9
           have k11a : ∀ o, (convert 25 9 v11).run Try.prog (w11.alloc o) = .ok (.string (str X7)) (w11.alloc o) := fun o => ((Sl.of_own (b := 0) hown).below ((Below.refl _ _).alloc (Nat.le_refl _) _)).string (P := Try.prog) Try.underlying25 Try.underlying5 Try.underlying9
           have HR11 : Aside0 (∀ w', Below w11.heap.size w11 w' → (convert 25 9 v11).run Try.prog w' = .ok (.string (str X7)) w') := ⟨fun w' hbx => ((Sl.of_own (b := 0) hown).below hbx).string (P := Try.prog) Try.underlying25 Try.underlying5 Try.underlying9⟩
           have kS := HF.out _ HB11.out
           clear hown hb hb' tok1 _t)
        | ((go_at_call_of 11 (Value.pointer (some ⟨w1.heap.size, 0, none⟩)))
           have hbw : Below w10.heap.size w10 w11 := below_step HB11.out (Below.refl _ _)
           with_reducible refine (hsum_calls (M := a ++ b) w11 (H10.out.1.isH.below hbw) (by have := HL.out; simp; omega)).mono ?_
           rintro e w12 ⟨v12, rfl, hown, hb'⟩
           have HB12 := Aside0.mk (below_step hbw hb')
           rw [← HXB.out] at hown
           have k12 := (Sl.of_own (b := 0) hown).string (P := Try.prog) Try.underlying25 Try.underlying5 Try.underlying9
           have k12a : ∀ o, (convert 25 9 v12).run Try.prog (w12.alloc o) = .ok (.string (str XB)) (w12.alloc o) := fun o => ((Sl.of_own (b := 0) hown).below ((Below.refl _ _).alloc (Nat.le_refl _) _)).string (P := Try.prog) Try.underlying25 Try.underlying5 Try.underlying9
           have HR12 : Aside0 (∀ w', Below w12.heap.size w12 w' → (convert 25 9 v12).run Try.prog w' = .ok (.string (str XB)) w') := ⟨fun w' hbx => ((Sl.of_own (b := 0) hown).below hbx).string (P := Try.prog) Try.underlying25 Try.underlying5 Try.underlying9⟩
           have kS := HF.out _ HB12.out
           have tokA12 : True := trivial
           clear hown hb' hbw)
        | ((go_at_call_of 11 (Value.pointer (some ⟨w1.heap.size, 0, none⟩)))
           have hbw : Below w10.heap.size w10 (w11.alloc (.cells #[.slice Ax a.length cx, .slice Ay b.length cy] 25)) := below_step HB11.out ((Below.refl _ _).alloc (Nat.le_refl _) _)
           with_reducible refine (hsum_calls (M := a ++ b) (w11.alloc (.cells #[.slice Ax a.length cx, .slice Ay b.length cy] 25)) (H10.out.1.isH.below hbw) (by have := HL.out; simp; omega)).mono ?_
           rintro e w12 ⟨v12, rfl, hown, hb'⟩
           have HB12 := Aside0.mk (below_step hbw hb')
           rw [← HXB.out] at hown
           have k12 := (Sl.of_own (b := 0) hown).string (P := Try.prog) Try.underlying25 Try.underlying5 Try.underlying9
           have k12a : ∀ o, (convert 25 9 v12).run Try.prog (w12.alloc o) = .ok (.string (str XB)) (w12.alloc o) := fun o => ((Sl.of_own (b := 0) hown).below ((Below.refl _ _).alloc (Nat.le_refl _) _)).string (P := Try.prog) Try.underlying25 Try.underlying5 Try.underlying9
           have HR12 : Aside0 (∀ w', Below w12.heap.size w12 w' → (convert 25 9 v12).run Try.prog w' = .ok (.string (str XB)) w') := ⟨fun w' hbx => ((Sl.of_own (b := 0) hown).below hbx).string (P := Try.prog) Try.underlying25 Try.underlying5 Try.underlying9⟩
           have kS := HF.out _ HB12.out
           have HP12 := Aside0.mk (below_heap hb' (show (w11.alloc (.cells #[.slice Ax a.length cx, .slice Ay b.length cy] 25)).heap[w11.heap.size]? = _ from heap_new (w := w11) rfl))
           clear hown hb' hbw)
        | ((have _t := tokA12; go_at_call 10)
           have hb : Below w10.heap.size w10 (w12.alloc (.cells #[.slice Ax a.length cx, .slice Ay b.length cy] 25)) := below_step HB12.out ((Below.refl _ _).alloc (Nat.le_refl _) _)
           with_reducible refine (dsum_calls (b0 := w.heap.size) (L := [a, b]) (w12.alloc (.cells #[.slice Ax a.length cx, .slice Ay b.length cy] 25)) (pair_list (G := w12.heap.size) (heap_new (w := w12) rfl) (HXs.out.below (below_step H10.out.2.2.2 hb)) (HYs.out.below (below_step H10.out.2.2.2 hb))) (Nat.le_trans H10.out.2.2.2.size hb.size) (by have := HL.out; simp; omega)).mono ?_
           rintro e w13 ⟨v13, rfl, hown, hb'⟩
           have HB13 := Aside0.mk (below_step hb hb')
           rw [show List.flatten [a, b] = a ++ b by simp] at hown
           have kq12 := HR12.out w13 (below_step ((Below.refl _ _).alloc (Nat.le_refl _) _) hb')
           rw [← HXB.out] at hown
           have k13 := (Sl.of_own (b := 0) hown).string (P := Try.prog) Try.underlying25 Try.underlying5 Try.underlying9
           have k13a : ∀ o, (convert 25 9 v13).run Try.prog (w13.alloc o) = .ok (.string (str XB)) (w13.alloc o) := fun o => ((Sl.of_own (b := 0) hown).below ((Below.refl _ _).alloc (Nat.le_refl _) _)).string (P := Try.prog) Try.underlying25 Try.underlying5 Try.underlying9
           have HR13 : Aside0 (∀ w', Below w13.heap.size w13 w' → (convert 25 9 v13).run Try.prog w' = .ok (.string (str XB)) w') := ⟨fun w' hbx => ((Sl.of_own (b := 0) hown).below hbx).string (P := Try.prog) Try.underlying25 Try.underlying5 Try.underlying9⟩
           have kS := HF.out _ HB13.out
           clear hown hb hb' tokA12 _t)
        | ((have _t := HP12; go_at_call 10)
           with_reducible refine (dsum_calls (b0 := w.heap.size) (L := [a, b]) w12 (pair_list (G := w11.heap.size) HP12.out (HXs.out.below (below_step H10.out.2.2.2 HB12.out)) (HYs.out.below (below_step H10.out.2.2.2 HB12.out))) (Nat.le_trans H10.out.2.2.2.size HB12.out.size) (by have := HL.out; simp; omega)).mono ?_
           rintro e w13 ⟨v13, rfl, hown, hb'⟩
           have HB13 := Aside0.mk (below_step HB12.out hb')
           rw [show List.flatten [a, b] = a ++ b by simp] at hown
           have kq12 := HR12.out w13 hb'
           rw [← HXB.out] at hown
           have k13 := (Sl.of_own (b := 0) hown).string (P := Try.prog) Try.underlying25 Try.underlying5 Try.underlying9
           have k13a : ∀ o, (convert 25 9 v13).run Try.prog (w13.alloc o) = .ok (.string (str XB)) (w13.alloc o) := fun o => ((Sl.of_own (b := 0) hown).below ((Below.refl _ _).alloc (Nat.le_refl _) _)).string (P := Try.prog) Try.underlying25 Try.underlying5 Try.underlying9
           have HR13 : Aside0 (∀ w', Below w13.heap.size w13 w' → (convert 25 9 v13).run Try.prog w' = .ok (.string (str XB)) w') := ⟨fun w' hbx => ((Sl.of_own (b := 0) hown).below hbx).string (P := Try.prog) Try.underlying25 Try.underlying5 Try.underlying9⟩
           have kS := HF.out _ HB13.out
           clear hown hb' HP12 _t)
        | ((go_at_call_of 11 (Value.pointer (some ⟨gk, 0, none⟩)))
           have hbw : Below w10.heap.size w10 w13 := below_step HB13.out (Below.refl _ _)
           with_reducible refine (hsum_calls (M := a ++ c) w13 (H10.out.2.1.below hbw) (by have := HL.out; simp; omega)).mono ?_
           rintro e w14 ⟨v14, rfl, hown, hb'⟩
           have HB14 := Aside0.mk (below_step hbw hb')
           rw [← HXC.out] at hown
           have k14 := (Sl.of_own (b := 0) hown).string (P := Try.prog) Try.underlying25 Try.underlying5 Try.underlying9
           have k14a : ∀ o, (convert 25 9 v14).run Try.prog (w14.alloc o) = .ok (.string (str XC)) (w14.alloc o) := fun o => ((Sl.of_own (b := 0) hown).below ((Below.refl _ _).alloc (Nat.le_refl _) _)).string (P := Try.prog) Try.underlying25 Try.underlying5 Try.underlying9
           have HR14 : Aside0 (∀ w', Below w14.heap.size w14 w' → (convert 25 9 v14).run Try.prog w' = .ok (.string (str XC)) w') := ⟨fun w' hbx => ((Sl.of_own (b := 0) hown).below hbx).string (P := Try.prog) Try.underlying25 Try.underlying5 Try.underlying9⟩
           have kS := HF.out _ HB14.out
           have tokA14 : True := trivial
           clear hown hb' hbw)
        | ((go_at_call_of 11 (Value.pointer (some ⟨gk, 0, none⟩)))
           have hbw : Below w10.heap.size w10 (w13.alloc (.cells #[.slice Ax a.length cx, .slice Az c.length cz] 25)) := below_step HB13.out ((Below.refl _ _).alloc (Nat.le_refl _) _)
           with_reducible refine (hsum_calls (M := a ++ c) (w13.alloc (.cells #[.slice Ax a.length cx, .slice Az c.length cz] 25)) (H10.out.2.1.below hbw) (by have := HL.out; simp; omega)).mono ?_
           rintro e w14 ⟨v14, rfl, hown, hb'⟩
           have HB14 := Aside0.mk (below_step hbw hb')
           rw [← HXC.out] at hown
           have k14 := (Sl.of_own (b := 0) hown).string (P := Try.prog) Try.underlying25 Try.underlying5 Try.underlying9
           have k14a : ∀ o, (convert 25 9 v14).run Try.prog (w14.alloc o) = .ok (.string (str XC)) (w14.alloc o) := fun o => ((Sl.of_own (b := 0) hown).below ((Below.refl _ _).alloc (Nat.le_refl _) _)).string (P := Try.prog) Try.underlying25 Try.underlying5 Try.underlying9
           have HR14 : Aside0 (∀ w', Below w14.heap.size w14 w' → (convert 25 9 v14).run Try.prog w' = .ok (.string (str XC)) w') := ⟨fun w' hbx => ((Sl.of_own (b := 0) hown).below hbx).string (P := Try.prog) Try.underlying25 Try.underlying5 Try.underlying9⟩
           have kS := HF.out _ HB14.out
           have HP14 := Aside0.mk (below_heap hb' (show (w13.alloc (.cells #[.slice Ax a.length cx, .slice Az c.length cz] 25)).heap[w13.heap.size]? = _ from heap_new (w := w13) rfl))
           clear hown hb' hbw)
        | ((have _t := tokA14; go_at_call 10)
           have hb : Below w10.heap.size w10 (w14.alloc (.cells #[.slice Ax a.length cx, .slice Az c.length cz] 25)) := below_step HB14.out ((Below.refl _ _).alloc (Nat.le_refl _) _)
           with_reducible refine (dsum_calls (b0 := w.heap.size) (L := [a, c]) (w14.alloc (.cells #[.slice Ax a.length cx, .slice Az c.length cz] 25)) (pair_list (G := w14.heap.size) (heap_new (w := w14) rfl) (HXs.out.below (below_step H10.out.2.2.2 hb)) (HZs.out.below (below_step H10.out.2.2.2 hb))) (Nat.le_trans H10.out.2.2.2.size hb.size) (by have := HL.out; simp; omega)).mono ?_
           rintro e w15 ⟨v15, rfl, hown, hb'⟩
           have HB15 := Aside0.mk (below_step hb hb')
           rw [show List.flatten [a, c] = a ++ c by simp] at hown
           have kq14 := HR14.out w15 (below_step ((Below.refl _ _).alloc (Nat.le_refl _) _) hb')
           rw [← HXC.out] at hown
           have k15 := (Sl.of_own (b := 0) hown).string (P := Try.prog) Try.underlying25 Try.underlying5 Try.underlying9
           have k15a : ∀ o, (convert 25 9 v15).run Try.prog (w15.alloc o) = .ok (.string (str XC)) (w15.alloc o) := fun o => ((Sl.of_own (b := 0) hown).below ((Below.refl _ _).alloc (Nat.le_refl _) _)).string (P := Try.prog) Try.underlying25 Try.underlying5 Try.underlying9
           have HR15 : Aside0 (∀ w', Below w15.heap.size w15 w' → (convert 25 9 v15).run Try.prog w' = .ok (.string (str XC)) w') := ⟨fun w' hbx => ((Sl.of_own (b := 0) hown).below hbx).string (P := Try.prog) Try.underlying25 Try.underlying5 Try.underlying9⟩
           have kS := HF.out _ HB15.out
           clear hown hb hb' tokA14 _t)
        | ((have _t := HP14; go_at_call 10)
           with_reducible refine (dsum_calls (b0 := w.heap.size) (L := [a, c]) w14 (pair_list (G := w13.heap.size) HP14.out (HXs.out.below (below_step H10.out.2.2.2 HB14.out)) (HZs.out.below (below_step H10.out.2.2.2 HB14.out))) (Nat.le_trans H10.out.2.2.2.size HB14.out.size) (by have := HL.out; simp; omega)).mono ?_
           rintro e w15 ⟨v15, rfl, hown, hb'⟩
           have HB15 := Aside0.mk (below_step HB14.out hb')
           rw [show List.flatten [a, c] = a ++ c by simp] at hown
           have kq14 := HR14.out w15 hb'
           rw [← HXC.out] at hown
           have k15 := (Sl.of_own (b := 0) hown).string (P := Try.prog) Try.underlying25 Try.underlying5 Try.underlying9
           have k15a : ∀ o, (convert 25 9 v15).run Try.prog (w15.alloc o) = .ok (.string (str XC)) (w15.alloc o) := fun o => ((Sl.of_own (b := 0) hown).below ((Below.refl _ _).alloc (Nat.le_refl _) _)).string (P := Try.prog) Try.underlying25 Try.underlying5 Try.underlying9
           have HR15 : Aside0 (∀ w', Below w15.heap.size w15 w' → (convert 25 9 v15).run Try.prog w' = .ok (.string (str XC)) w') := ⟨fun w' hbx => ((Sl.of_own (b := 0) hown).below hbx).string (P := Try.prog) Try.underlying25 Try.underlying5 Try.underlying9⟩
           have kS := HF.out _ HB15.out
           clear hown hb' HP14 _t))
       all_goals
         go_wp2_with fail
         go_meet
         exact ⟨rfl, HB15⟩
      case rest =>
        obtain ⟨rfl, hbc⟩ := hcut
        have HH := Aside0.mk (show IsHB wc w1.heap.size (a ++ b) w8.heap.size ∧ Some8 wc w7.heap.size (.slice (some ⟨r, 0, none⟩) 32 c8) 32 ∧ Below w.heap.size w wc from
          ⟨H10.out.1.below hbc.out, ⟨X7, h32'.out, own_below H10.out.2.2.1 hbc.out⟩, below_step H10.out.2.2.2 hbc.out⟩)
        clear hbc HF
        have hgr1 : w1.heap.size ≠ r := by omega
        go_wp2_with fail
        go_loopw [12] (fun i wr => ∃ m : Nat, m ≤ 32 ∧ i = .int .i64 (m : Int) ∧ Aside0 (IsHB wr w1.heap.size (a ++ b) w8.heap.size ∧ Some8 wr w7.heap.size (.slice (some ⟨r, 0, none⟩) 32 c8) 32 ∧ Below w.heap.size w wr)) (fun i wr => 32 - (intOf i).toNat)
        case atStart => exact ⟨0, by omega, rfl, HH⟩
        case round =>
          obtain ⟨m2, hm2, rfl, hs2⟩ := hrel
          clear HH
          by_cases hlt2 : m2 < 32
          · have hm3 : (m2 : Int) < 32 := by omega
            obtain ⟨Y, hY, hoY⟩ := hs2.out.2.1
            have hc1 : wr.cell? ⟨r, m2, none⟩ = some (.int .u8 ((Y.getD m2 0).toNat : Int)) := by
              obtain ⟨g, c, he, h⟩ := own_byte hoY hY.symm (by omega)
              cases he
              exact h m2 hlt2
            have hf1 : wr.frozen? ⟨r, m2, none⟩ = false := by
              rcases hoY.2 with ⟨h', _⟩ | ⟨g', cap', cur, h', _, hh, _⟩
              · cases h'
              · cases h'; simp [World.frozen?, hh]
            obtain ⟨y, hy⟩ : ∃ y, y = Y.getD m2 0 := ⟨_, rfl⟩
            rw [← hy] at hc1
            clear hY hoY hy
            go_wp2_with fail
            go_roundw
            case rel =>
              obtain ⟨q1, q2⟩ := some8_set hs2.out.2.1 m2 (((y.toNat : Int) + 1) % 256) (by omega) (by omega)
              exact ⟨m2 + 1, by omega, by go_num, ⟨hs2.out.1.other q2 H8.out.2.2.2.2.2 hgr1, q1, hs2.out.2.2.grown q2 hs2.out.2.2.size (fun j hj => by cases hj; omega)⟩⟩
            case measure => simp [intOf]; omega
          · have hmn2 : ¬ (m2 : Int) < 32 := by omega
            obtain ⟨wz, rfl⟩ : ∃ wz : World, wz = wr := ⟨_, rfl⟩
            have HZ := Aside0.mk hs2.out
            clear hs2
            go_wp2_with fail
            go_region_held (fun w' => True) (trivial) (first
              | ((go_at_call_of 11 (Value.pointer (some ⟨w1.heap.size, 0, none⟩)))
                 have hbw : Below wz.heap.size wz wz.drew := (Below.refl _ _).drew
                 with_reducible refine (hsum_calls (M := a ++ b) wz.drew (HZ.out.1.isH.below hbw) (by have := HL.out; simp; omega)).mono ?_
                 rintro e w17 ⟨v17, rfl, hown, hb'⟩
                 have HB17 := Aside0.mk (below_step hbw hb')
                 rw [← HXB.out] at hown
                 have k17 := (Sl.of_own (b := 0) hown).string (P := Try.prog) Try.underlying25 Try.underlying5 Try.underlying9
                 have k17a : ∀ o, (convert 25 9 v17).run Try.prog (w17.alloc o) = .ok (.string (str XB)) (w17.alloc o) := fun o => ((Sl.of_own (b := 0) hown).below ((Below.refl _ _).alloc (Nat.le_refl _) _)).string (P := Try.prog) Try.underlying25 Try.underlying5 Try.underlying9
                 have HR17 : Aside0 (∀ w', Below w17.heap.size w17 w' → (convert 25 9 v17).run Try.prog w' = .ok (.string (str XB)) w') := ⟨fun w' hbx => ((Sl.of_own (b := 0) hown).below hbx).string (P := Try.prog) Try.underlying25 Try.underlying5 Try.underlying9⟩
                 have tokA17 : True := trivial
                 clear hown hb' hbw)
              | ((go_at_call_of 11 (Value.pointer (some ⟨w1.heap.size, 0, none⟩)))
                 have hbw : Below wz.heap.size wz (wz.alloc (.cells #[.slice Ax a.length cx, .slice Ay b.length cy] 25)).drew := ((Below.refl _ _).alloc (Nat.le_refl _) _).drew
                 with_reducible refine (hsum_calls (M := a ++ b) (wz.alloc (.cells #[.slice Ax a.length cx, .slice Ay b.length cy] 25)).drew (HZ.out.1.isH.below hbw) (by have := HL.out; simp; omega)).mono ?_
                 rintro e w17 ⟨v17, rfl, hown, hb'⟩
                 have HB17 := Aside0.mk (below_step hbw hb')
                 rw [← HXB.out] at hown
                 have k17 := (Sl.of_own (b := 0) hown).string (P := Try.prog) Try.underlying25 Try.underlying5 Try.underlying9
                 have k17a : ∀ o, (convert 25 9 v17).run Try.prog (w17.alloc o) = .ok (.string (str XB)) (w17.alloc o) := fun o => ((Sl.of_own (b := 0) hown).below ((Below.refl _ _).alloc (Nat.le_refl _) _)).string (P := Try.prog) Try.underlying25 Try.underlying5 Try.underlying9
                 have HR17 : Aside0 (∀ w', Below w17.heap.size w17 w' → (convert 25 9 v17).run Try.prog w' = .ok (.string (str XB)) w') := ⟨fun w' hbx => ((Sl.of_own (b := 0) hown).below hbx).string (P := Try.prog) Try.underlying25 Try.underlying5 Try.underlying9⟩
                 have HP17 := Aside0.mk (below_heap hb' (show (wz.alloc (.cells #[.slice Ax a.length cx, .slice Ay b.length cy] 25)).drew.heap[wz.heap.size]? = _ from heap_new (w := wz) rfl))
                 clear hown hb' hbw)
              | ((have _t := tokA17; go_at_call 10)
                 have hb : Below wz.heap.size wz (w17.alloc (.cells #[.slice Ax a.length cx, .slice Ay b.length cy] 25)) := below_step HB17.out ((Below.refl _ _).alloc (Nat.le_refl _) _)
                 with_reducible refine (dsum_calls (b0 := w.heap.size) (L := [a, b]) (w17.alloc (.cells #[.slice Ax a.length cx, .slice Ay b.length cy] 25)) (pair_list (G := w17.heap.size) (heap_new (w := w17) rfl) (HXs.out.below (below_step HZ.out.2.2 hb)) (HYs.out.below (below_step HZ.out.2.2 hb))) (Nat.le_trans HZ.out.2.2.size hb.size) (by have := HL.out; simp; omega)).mono ?_
                 rintro e w18 ⟨v18, rfl, hown, hb'⟩
                 have HB18 := Aside0.mk (below_step hb hb')
                 rw [show List.flatten [a, b] = a ++ b by simp] at hown
                 have kq17 := HR17.out w18 (below_step ((Below.refl _ _).alloc (Nat.le_refl _) _) hb')
                 rw [← HXB.out] at hown
                 have k18 := (Sl.of_own (b := 0) hown).string (P := Try.prog) Try.underlying25 Try.underlying5 Try.underlying9
                 have k18a : ∀ o, (convert 25 9 v18).run Try.prog (w18.alloc o) = .ok (.string (str XB)) (w18.alloc o) := fun o => ((Sl.of_own (b := 0) hown).below ((Below.refl _ _).alloc (Nat.le_refl _) _)).string (P := Try.prog) Try.underlying25 Try.underlying5 Try.underlying9
                 have HR18 : Aside0 (∀ w', Below w18.heap.size w18 w' → (convert 25 9 v18).run Try.prog w' = .ok (.string (str XB)) w') := ⟨fun w' hbx => ((Sl.of_own (b := 0) hown).below hbx).string (P := Try.prog) Try.underlying25 Try.underlying5 Try.underlying9⟩
                 clear hown hb hb' tokA17 _t)
              | ((have _t := HP17; go_at_call 10)
                 with_reducible refine (dsum_calls (b0 := w.heap.size) (L := [a, b]) w17 (pair_list (G := wz.heap.size) HP17.out (HXs.out.below (below_step HZ.out.2.2 HB17.out)) (HYs.out.below (below_step HZ.out.2.2 HB17.out))) (Nat.le_trans HZ.out.2.2.size HB17.out.size) (by have := HL.out; simp; omega)).mono ?_
                 rintro e w18 ⟨v18, rfl, hown, hb'⟩
                 have HB18 := Aside0.mk (below_step HB17.out hb')
                 rw [show List.flatten [a, b] = a ++ b by simp] at hown
                 have kq17 := HR17.out w18 hb'
                 rw [← HXB.out] at hown
                 have k18 := (Sl.of_own (b := 0) hown).string (P := Try.prog) Try.underlying25 Try.underlying5 Try.underlying9
                 have k18a : ∀ o, (convert 25 9 v18).run Try.prog (w18.alloc o) = .ok (.string (str XB)) (w18.alloc o) := fun o => ((Sl.of_own (b := 0) hown).below ((Below.refl _ _).alloc (Nat.le_refl _) _)).string (P := Try.prog) Try.underlying25 Try.underlying5 Try.underlying9
                 have HR18 : Aside0 (∀ w', Below w18.heap.size w18 w' → (convert 25 9 v18).run Try.prog w' = .ok (.string (str XB)) w') := ⟨fun w' hbx => ((Sl.of_own (b := 0) hown).below hbx).string (P := Try.prog) Try.underlying25 Try.underlying5 Try.underlying9⟩
                 clear hown hb' HP17 _t)
              | ((go_at_call 7); refine (awake1_calls w18).mono ?_; rintro e w19 ⟨rfl, hb19⟩; have HB19 := Aside0.mk (below_step HB18.out hb19); clear hb19))
            all_goals
              go_wp2_with fail
              go_ret
              exact ⟨rfl, below_step HZ.out.2.2 HB19.out⟩
end Go.Proofs.Ytbgnffgefpbdpaa
