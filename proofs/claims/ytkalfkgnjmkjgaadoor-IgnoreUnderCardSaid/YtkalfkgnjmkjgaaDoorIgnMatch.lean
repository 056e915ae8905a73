/-
  Does a pattern stand for a text? No condition.
-/
import Derived.Test.YtkalfkgnjmkjgaaDoorIgnTok
import Derived.Lib.ConvBytes
namespace Go.Proofs.YtkalfkgnjmkjgaaDoor
open Go.RowKit Go.Joins
set_option linter.unusedVariables false
set_option linter.unusedSimpArgs false

theorem tokL_len : ∀ S : List UInt8, (tokL S).length ≤ S.length := by
  intro S
  induction S using tokL.induct <;> simp_all [tokL] <;> omega
theorem below_bytes (w : World) (e : TypeId) (s : ByteArray) : Below w.heap.size w (Lib.bytesWorld w e s) :=
  ⟨rfl, rfl, rfl, by rw [Lib.bytesWorld_size]; omega, fun k hk => Lib.bytesWorld_at_old w e s k hk⟩
theorem met_no {l : List Tok} {S : List UInt8} {k i : Nat} (h : (atB l S i k && fitB (tk l i) (S.getD k 0)) = false) : metB l S k (i + 1) = metB l S k i := by rw [metB, h, Bool.or_false]
theorem met_yes {l : List Tok} {S : List UInt8} {k i : Nat} (h : (atB l S i k && fitB (tk l i) (S.getD k 0)) = true) : metB l S k (i + 1) = true := by rw [metB, h, Bool.or_true]
theorem info_bool : (Tryd.prog.info? 4).map (fun i => (i.zero, i.size, i.bytes)) = some (some (.bool false), 1, 1) := by kernel_rfl

theorem match_big (p s : ByteArray) (w : World) (h : 200 < p.size ∨ 200 < s.size) :
    Calls Tryd.prog 9 #[.string p, .string s] w fun e w' => e = .returned (.bool (matchL p.data.toList s.data.toList)) ∧ Below w.heap.size w w' := by
  have hm : matchL p.data.toList s.data.toList = false := by unfold matchL; rw [if_pos (by rw [len_data, len_data]; exact h)]
  rw [hm]
  by_cases h1 : 200 < p.size
  · clear h
    go_enter Tryd.func9, Tryd.ntmps9
    go_wp2_with fail
    go_step3
    go_wp2_with fail
    try rw [Exit.noGoto_ret]
    go_ret
    exact ⟨rfl, Below.refl _ _⟩
  · have h2 : 200 < s.size := by omega
    clear h
    go_enter Tryd.func9, Tryd.ntmps9
    go_wp2_with fail
    go_step3
    go_wp2_with fail
    try rw [Exit.noGoto_ret]
    go_ret
    exact ⟨rfl, Below.refl _ _⟩

set_option maxRecDepth 4000 in
set_option maxHeartbeats 4000000 in
theorem match_calls (p s : ByteArray) (w : World) (hp : p.size ≤ 200) (hs : s.size ≤ 200) :
    Calls Tryd.prog 9 #[.string p, .string s] w fun e w' => e = .returned (.bool (matchL p.data.toList s.data.toList)) ∧ Below w.heap.size w w' := by
  have hm : matchL p.data.toList s.data.toList = pre (tokL p.data.toList) s.data.toList (tokL p.data.toList).length s.data.toList.length := by unfold matchL; rw [if_neg (by rw [len_data, len_data]; omega)]
  rw [hm]
  have hTC := tokens_calls p w (by omega)
  have hln : (tokL p.data.toList).length ≤ 200 := by have := tokL_len p.data.toList; rw [len_data] at this; omega
  have HZ := Aside0.mk (len_data s)
  obtain ⟨l, hl⟩ : ∃ l, l = tokL p.data.toList := ⟨_, rfl⟩
  rw [← hl] at hTC hln ⊢
  obtain ⟨S, hS⟩ : ∃ S, S = s.data.toList := ⟨_, rfl⟩
  have HS := Aside0.mk hS
  rw [← hS] at HZ ⊢
  clear hm hl hS
  obtain ⟨i0, hi, hz0, hz1, hz2⟩ := info_parts info_bool
  have CV : ∀ W, (convert 9 49 (.string s)).run Tryd.prog W = .ok (.slice (some ⟨W.heap.size, 0, none⟩) s.size (grownCap W s.size 0 5)) (Lib.bytesWorld W 5 s) := fun W => Lib.run_convert_string_bytes W _ _ _ s Tryd.underlying9 Tryd.underlying49 Tryd.underlying5
  go_enter Tryd.func9, Tryd.ntmps9
  go_wp2_with fail
  go_step3
  go_wp2_with fail
  refine hTC.mono ?_
  rintro e w1 ⟨v, rfl, hown, ⟨A, n, c, rfl⟩, hb⟩
  obtain ⟨A', c', he, hc', hm', hR'⟩ := SlC.of_own hown 0
  cases he
  clear hTC hR'
  have H1 := Aside0.mk (And.intro hown hb)
  clear hown hb
  go_wp2_with (at_make; go_must (refine wpList_make_full _ rfl _ _ 47 rfl w1.heap.size 4 i0 _ 1 Tryd.underlying47 hi hz0 hz1 _ _ _ _ (l.length + 1) rfl rfl rfl rfl (by rw [hz2]; omega) (by simp only [maxLen]; omega) (Nat.le_refl _) ?_); intro w2 hown2 hgrow2
               have hz := made_bools (l.length + 1); simp only [Value.cells, Nat.mul_one] at hown2; rw [hz] at hown2; clear hz
               have H2 := Aside0.mk (show OwnT w2 w1.heap.size (.slice (some ⟨w1.heap.size, 0, none⟩) (l.length + 1) (l.length + 1)) (List.replicate (l.length + 1) false) ∧ Below w1.heap.size w1 w2 from ⟨by unfold OwnT; simpa using hown2, below_none hgrow2⟩); clear hown2 hgrow2
               obtain ⟨q1, q2⟩ := ownT_at H2.out.1 0 (by simp))
  have HTk : Aside0 (∀ W, Below w1.heap.size w1 W → SlC tokC 51 W 0 (.slice A l.length c) l) := ⟨fun W hb => (SlC.of_own H1.out.1 0).below hb⟩
  obtain ⟨hs1, hs2⟩ := ownT_set H2.out.1 0 true
  have hb2 := below_grown H2.out.2 H2.out.2.size hs2 (by rintro k hk; cases hk; exact Nat.le_refl _)
  have hsz2 : w1.heap.size ≤ (w2.setCell ⟨w1.heap.size, 0, none⟩ (.bool true)).heap.size := by have := H2.out.2.size; simpa using this
  refine (skip_calls (x := at0 l) (e := 51) (b0 := 0) (base := w1.heap.size) (cap := l.length + 1) _ (HTk.out _ hb2) hs1 (by simp [at0]) (fun w' hg => HTk.out _ (below_grown hb2 hsz2 hg (by rintro k hk; cases hk; exact Nat.le_refl _)))).mono ?_
  rintro e w3 ⟨rfl, ho3, hg3⟩
  rw [sk_first l S] at ho3
  have hb3 := below_grown hb2 hsz2 hg3 (by rintro k hk; cases hk; exact Nat.le_refl _)
  have H3 := Aside0.mk (And.intro ho3 (And.intro hb3 (show w1.heap.size < w3.heap.size from (ownT_lt ho3).1)))
  clear hs1 hs2 hb2 hsz2 ho3 hg3 hb3 q1 q2
  go_wp2_with fail
  go_step3
  go_wp2_with fail
  have HW4 := Aside0.mk (below_bytes w3 5 s)
  have HT4 : Aside0 (∀ j, j < s.size → (Lib.bytesWorld w3 5 s).cell? ⟨w3.heap.size, j, none⟩ = some (.int .u8 ((S.getD j 0).toNat : Int))) := ⟨fun j hj => by rw [HS.out]; exact Lib.bytesWorld_cell w3 _ s j hj⟩
  obtain ⟨w4, hw4⟩ : ∃ w4, w4 = Lib.bytesWorld w3 5 s := ⟨_, rfl⟩
  rw [← hw4] at HW4 HT4 ⊢
  clear hw4 CV
  have H4 := Aside0.mk (show OwnT w4 w1.heap.size (.slice (some ⟨w1.heap.size, 0, none⟩) (l.length + 1) (l.length + 1)) (atL l S 0) ∧ Below w1.heap.size w1 w4 ∧ w1.heap.size < w4.heap.size from ⟨own_below H3.out.1 HW4.out, below_then H3.out.2.1 (Nat.le_of_lt H3.out.2.2) HW4.out, Nat.lt_of_lt_of_le H3.out.2.2 HW4.out.size⟩)
  clear H3
  obtain ⟨gt, hgt⟩ : ∃ gt, gt = w3.heap.size := ⟨_, rfl⟩
  rw [← hgt] at HT4 ⊢
  clear hgt
  go_loopw [6, 35] (fun v i wr => ∃ (k ga cap : Nat), k ≤ s.size ∧ i = .int .i64 k ∧ v = .slice (some ⟨ga, 0, none⟩) (l.length + 1) cap ∧ Aside0 (OwnT wr w1.heap.size (.slice (some ⟨ga, 0, none⟩) (l.length + 1) cap) (atL l S k) ∧ Below w4.heap.size w4 wr)) (fun v i wr => s.size - (intOf i).toNat)
  case atStart => exact ⟨0, _, _, Nat.zero_le _, rfl, rfl, ⟨H4.out.1, Below.refl _ _⟩⟩
  case round =>
    rename World => wo
    obtain ⟨k, ga, cap, hk, rfl, rfl, hs2⟩ := hrel
    have HBR := Aside0.mk (show Below w1.heap.size w1 wo from below_then H4.out.2.1 (Nat.le_of_lt H4.out.2.2) hs2.out.2)
    by_cases hend : k < s.size
    · have ct := cell_keep hs2.out.2 (HT4.out k hend)
      obtain ⟨x, hx⟩ : ∃ x, x = S.getD k 0 := ⟨_, rfl⟩
      rw [← hx] at ct
      have HX := Aside0.mk hx
      clear hx
      go_wp2_with (at_make; go_must (refine wpList_make_full _ rfl _ _ 47 rfl wo.heap.size 4 i0 _ 1 Tryd.underlying47 hi hz0 hz1 _ _ _ _ (l.length + 1) rfl rfl rfl rfl (by rw [hz2]; omega) (by simp only [maxLen]; omega) (Nat.le_refl _) ?_); intro w5 hown5 hgrow5
                   have hz := made_bools (l.length + 1); simp only [Value.cells, Nat.mul_one] at hown5; rw [hz] at hown5; clear hz
                   have H5 := Aside0.mk (show OwnT w5 wo.heap.size (.slice (some ⟨wo.heap.size, 0, none⟩) (l.length + 1) (l.length + 1)) (List.replicate (l.length + 1) false) ∧ Below wo.heap.size wo w5 from ⟨by unfold OwnT; simpa using hown5, below_none hgrow5⟩); clear hown5 hgrow5)
      go_loopw [10, 45] (fun m j wr => ∃ i : Nat, i ≤ l.length ∧ j = .int .i64 i ∧ m = .bool (metB l S k i) ∧ Aside0 (OwnT wr wo.heap.size (.slice (some ⟨wo.heap.size, 0, none⟩) (l.length + 1) (l.length + 1)) (nxL l S k i) ∧ Below wo.heap.size wo wr)) (fun m j wr => l.length - (intOf j).toNat)
      case atStart => exact ⟨0, Nat.zero_le _, rfl, rfl, ⟨by rw [nxL_zero]; exact H5.out.1, H5.out.2⟩⟩
      case round =>
        obtain ⟨i, hil, rfl, rfl, hs3⟩ := hrel
        by_cases hi2 : i < l.length
        · obtain ⟨ad, c', he, c0, c1, c2, c3⟩ := tok_at ((HTk.out _ HBR.out).below hs3.out.2) i hi2
          cases he
          obtain ⟨o1, o2⟩ := ownT_at (own_below hs2.out.1 hs3.out.2) i (by rw [atL_length]; omega)
          rw [atL_at hil] at o1
          obtain ⟨p1, p2⟩ := ownT_at hs3.out.1 i (by rw [nxL_length]; omega)
          obtain ⟨p3, p4⟩ := ownT_at hs3.out.1 (i + 1) (by rw [nxL_length]; omega)
          have hga := (ownT_lt hs2.out.1).1
          have HSI := hs3.out.2.size
          have hgn := (ownT_lt hs3.out.1).1
          have n1 : ga ≠ wr.heap.size := by omega
          have n5 : ga < wr.heap.size := by omega
          have n2 : wr.heap.size ≠ ga := by omega
          have n3 : wo.heap.size ≠ wr.heap.size := by omega
          have n4 : wr.heap.size ≠ wo.heap.size := by omega
          obtain ⟨t, ht⟩ : ∃ t, t = tk l i := ⟨_, rfl⟩
          obtain ⟨b, hb⟩ : ∃ b, b = atB l S i k := ⟨_, rfl⟩
          obtain ⟨f, hf⟩ : ∃ f, f = fitB t x := ⟨_, rfl⟩
          have HR : Aside0 ((atB l S i k && fitB (tk l i) (S.getD k 0)) = (b && f)) := ⟨by rw [hb, hf, ht, HX.out]⟩
          rw [← ht] at c0 c1 c2 c3
          rw [← hb] at o1
          have HTT := Aside0.mk ht
          have HC : Aside0 (∀ W, Calls Tryd.prog 25 #[.agg #[.int .u8 (t.c.toNat : Int), .bool t.star, .bool t.wide, .bool t.any], .int .u8 (x.toNat : Int)] W fun e w' => e = .returned (.bool f) ∧ Below W.heap.size W w') := ⟨fun W => by rw [hf]; exact fits_calls t x W⟩
          clear hb ht hf
          have HB0 : Aside0 (∀ o, Below wr.heap.size wr (wr.alloc o)) := ⟨fun o => (Below.refl _ _).alloc (Nat.le_refl _) o⟩
          obtain ⟨tc, st, wd, an⟩ := t
          simp only at c0 c1 c2 c3
          cases b with
          | false =>
            go_wp2_with fail
            go_roundw
            case rel => exact ⟨i + 1, by omega, by go_num, by rw [met_no HR.out], ⟨by rw [nxL_no HR.out]; exact own_below hs3.out.1 (HB0.out _), below_then hs3.out.2 hs3.out.2.size (HB0.out _)⟩⟩
            case measure => simp [intOf]; omega
          | true =>
            cases f with
            | false =>
              go_wp2_with (go_at_call 25; refine (HC.out _).mono ?_; rintro e w6 ⟨rfl, hb6⟩
                           have H6 := Aside0.mk (below_step (HB0.out _) hb6); clear hb6)
              go_roundw
              case rel => exact ⟨i + 1, by omega, by go_num, by rw [met_no HR.out], ⟨by rw [nxL_no HR.out]; exact own_below hs3.out.1 H6.out, below_then hs3.out.2 hs3.out.2.size H6.out⟩⟩
              case measure => simp [intOf]; omega
            | true =>
              cases st with
              | false =>
                go_wp2_with (go_at_call 25; refine (HC.out _).mono ?_; rintro e w6 ⟨rfl, hb6⟩
                             have hx6 := cell_keep hb6 (v := .bool false) (a := ⟨wr.heap.size, 1, none⟩) (by unfold World.cell?; rw [heap_new rfl]; rfl)
                             have H6 := Aside0.mk (below_step (HB0.out _) hb6); clear hb6
                             obtain ⟨r1, r2⟩ := ownT_at (own_below hs3.out.1 H6.out) (i + 1) (by rw [nxL_length]; omega))
                go_roundw
                case rel =>
                  obtain ⟨q1, q2⟩ := ownT_set (own_below hs3.out.1 H6.out) (i + 1) true
                  exact ⟨i + 1, by omega, by go_num, by rw [met_yes HR.out], ⟨by rw [nxL_one hi2 HR.out (by rw [← HTT.out])]; exact q1, below_grown (below_then hs3.out.2 hs3.out.2.size H6.out) (by have := hs3.out.2.size; have := H6.out.size; omega) q2 (by rintro k hk; cases hk; exact Nat.le_refl _)⟩⟩
                case measure => simp [intOf]; omega
              | true =>
                go_wp2_with (go_at_call 25; refine (HC.out _).mono ?_; rintro e w6 ⟨rfl, hb6⟩
                             have hx6 := cell_keep hb6 (v := .bool true) (a := ⟨wr.heap.size, 1, none⟩) (by unfold World.cell?; rw [heap_new rfl]; rfl)
                             have H6 := Aside0.mk (below_step (HB0.out _) hb6); clear hb6
                             obtain ⟨r1, r2⟩ := ownT_at (own_below hs3.out.1 H6.out) i (by rw [nxL_length]; omega))
                go_roundw
                case rel =>
                  obtain ⟨q1, q2⟩ := ownT_set (own_below hs3.out.1 H6.out) i true
                  exact ⟨i + 1, by omega, by go_num, by rw [met_yes HR.out], ⟨by rw [nxL_star hi2 HR.out (by rw [← HTT.out])]; exact q1, below_grown (below_then hs3.out.2 hs3.out.2.size H6.out) (by have := hs3.out.2.size; have := H6.out.size; omega) q2 (by rintro k hk; cases hk; exact Nat.le_refl _)⟩⟩
                case measure => simp [intOf]; omega
        · have hil2 : i = l.length := by omega
          subst hil2
          have hlen : (nxL l S k l.length).length = l.length + 1 := nxL_length _ _ _ _
          have HSZ := Aside0.mk (ownT_lt hs3.out.1).1
          go_wp2_with fail
          refine (skip_calls (x := nxL l S k l.length) (e := 51) (b0 := 0) (base := wo.heap.size) (cap := l.length + 1) _ ((HTk.out _ HBR.out).below hs3.out.2) hs3.out.1 hlen (fun w' hg => (HTk.out _ HBR.out).below (below_grown hs3.out.2 hs3.out.2.size hg (by rintro k hk; cases hk; exact Nat.le_refl _)))).mono ?_
          rintro e w7 ⟨rfl, ho7, hg7⟩
          rw [sk_next l S k] at ho7
          have hb7 := below_grown hs3.out.2 hs3.out.2.size hg7 (by rintro k hk; cases hk; exact Nat.le_refl _)
          have HSW := Aside0.mk (show w4.heap.size ≤ wo.heap.size from hs2.out.2.size)
          have H7 := Aside0.mk (show OwnT w7 w1.heap.size (.slice (some ⟨wo.heap.size, 0, none⟩) (l.length + 1) (l.length + 1)) (atL l S (k + 1)) ∧ Below w4.heap.size w4 w7 from ⟨own_mono ho7 (by have := H4.out.2.2; have := HSW.out; omega), below_then hs2.out.2 HSW.out hb7⟩)
          clear ho7 hg7 hb7
          obtain ⟨m, hm⟩ : ∃ m, m = metB l S k l.length := ⟨_, rfl⟩
          rw [← hm]
          have HM := Aside0.mk hm
          clear hm
          obtain ⟨o1, o2⟩ := ownT_at H7.out.1 l.length (by rw [atL_length]; omega)
          rw [at_last] at o1
          cases m with
          | true =>
            go_wp2_with fail
            go_roundw
            case rel => exact ⟨k + 1, _, _, by omega, by go_num, rfl, H7⟩
            case measure => simp [intOf]; omega
          | false =>
            go_wp2_with fail
            try rw [Exit.noGoto_ret]
            go_ret
            exact ⟨ret_b (by rw [match_dead HM.out.symm (Nat.lt_succ_self k), match_dead HM.out.symm (by rw [HZ.out]; exact hend)]), below_then H1.out.2 H1.out.2.size (below_then H4.out.2.1 (Nat.le_of_lt H4.out.2.2) H7.out.2)⟩
    · have hkk : k = s.size := by omega
      obtain ⟨o1, o2⟩ := ownT_at hs2.out.1 l.length (by rw [atL_length]; omega)
      rw [at_last] at o1
      have HKK : Aside0 (k = S.length) := ⟨by rw [HZ.out]; exact hkk⟩
      clear hkk
      go_wp2_with fail
      try rw [Exit.noGoto_ret]
      go_ret
      exact ⟨ret_b (by rw [HKK.out]), below_then H1.out.2 H1.out.2.size HBR.out⟩
end Go.Proofs.YtkalfkgnjmkjgaaDoor
