/-
  delta.sound: may a delta be? No condition but that it can be read.
-/
import Derived.Test.YtdikconhdbopdaaDelFns
import Derived.RegionTactic
import Derived.BigRegion
namespace Go.Proofs.Ytdikconhdbopdaa
open Go.RowKit
set_option linter.unusedVariables false
set_option linter.unusedSimpArgs false

/-- A delta can be read. -/
structure DelR (w : World) (vr vl vb : Value) (root : List UInt8) (l : List Int) (bs : List (List UInt8)) : Prop where
  r : ∃ b, Sl bv 5 w b vr root
  l : ∃ b, Sl iv 3 w b vl l
  b : ∃ b, SlL w b vb bs
theorem DelR.below {w w1 : World} {vr vl vb : Value} {root : List UInt8} {l : List Int} {bs : List (List UInt8)} (h : DelR w vr vl vb root l bs) (hb : Below w.heap.size w w1) : DelR w1 vr vl vb root l bs :=
  ⟨h.r.elim fun b h => ⟨b, h.below hb⟩, h.l.elim fun b h => ⟨b, h.below hb⟩, h.b.elim fun b h => ⟨b, h.below hb⟩⟩

set_option maxHeartbeats 8000000 in
set_option maxRecDepth 100000 in
theorem dsound_calls {vr vl vb : Value} {root : List UInt8} {l : List Int} {bs : List (List UInt8)} (size block : Int) (w : World) (h : DelR w vr vl vb root l bs) :
    Calls Try.prog 31 #[.agg #[.int .i64 size, .int .i64 block, vr, vl, vb]] w fun e w' => e = .returned (.bool (soundD size block root l bs)) ∧ Below w.heap.size w w' := by
  obtain ⟨⟨br, hr⟩, ⟨bl, hl⟩, ⟨bb, hbb⟩⟩ := h
  have HL := Aside0.mk hl
  have HBS := Aside0.mk (hbb.old (Nat.le_refl _))
  obtain ⟨Ar, cr, rfl, _, hmr, _⟩ := hr
  obtain ⟨Al, cl, rfl, _, hml, _⟩ := hl
  obtain ⟨Ab, cb, rfl, _, hmb⟩ := hbb.shape
  obtain ⟨nr, hnr⟩ : ∃ n, root.length = n := ⟨_, rfl⟩
  obtain ⟨nl, hnl⟩ : ∃ n, l.length = n := ⟨_, rfl⟩
  obtain ⟨nb, hnb⟩ : ∃ n, bs.length = n := ⟨_, rfl⟩
  rw [hnr] at hmr ⊢
  rw [hnl] at HL hml ⊢
  rw [hnb] at HBS hmb ⊢
  have HNL := Aside0.mk hnl
  have HNB := Aside0.mk hnb
  have HNR := Aside0.mk hnr
  obtain ⟨o, ho⟩ : ∃ o, soundD size block root l bs = o := ⟨_, rfl⟩
  have HO : Aside0 (o = (decide (0 ≤ size) && (decide (size ≤ 8192) && (mayD block && (((nr : Int) == 32) && (((nl : Int) == nb) && (risL l (cnt size block) && lensN size block l bs nl))))))) := ⟨by rw [← ho, ← hnl, ← hnr, ← hnb]; rfl⟩
  rw [ho]
  clear hbb hnr hnl hnb ho
  by_cases h1 : size < 0
  · have d1 : decide (size < 0) = true := decide_eq_true h1
    have HE : Aside0 (o = false) := ⟨by rw [HO.out, decide_eq_false (show ¬ 0 ≤ size by omega)]; simp only [Bool.false_and, Bool.and_false]⟩
    clear HO
    rw [HE.out]
    go_enter Try.func31, Try.ntmps31
    go_wp2_with fail
    go_step3
    go_wp2_with fail
    go_quiet (fail)
    go_wp2_with fail
    rw [Exit.noGoto_ret]
    go_ret
    exact ⟨rfl, by first | exact ((Below.refl _ _).alloc (Nat.le_refl _) _).drew | exact below_drewN ((Below.refl _ _).alloc (Nat.le_refl _) _) _⟩
  have d1 : decide (size < 0) = false := decide_eq_false h1
  by_cases h2 : 8192 < size
  · have d2 : decide (8192 < size) = true := decide_eq_true h2
    have HE : Aside0 (o = false) := ⟨by rw [HO.out, decide_eq_false (show ¬ size ≤ 8192 by omega)]; simp only [Bool.false_and, Bool.and_false]⟩
    clear HO
    rw [HE.out]
    go_enter Try.func31, Try.ntmps31
    go_wp2_with fail
    go_step3
    go_wp2_with fail
    go_quiet (fail)
    go_wp2_with fail
    rw [Exit.noGoto_ret]
    go_ret
    exact ⟨rfl, by first | exact ((Below.refl _ _).alloc (Nat.le_refl _) _).drew | exact below_drewN ((Below.refl _ _).alloc (Nat.le_refl _) _) _⟩
  have d2 : decide (8192 < size) = false := decide_eq_false h2
  have HMAY0 : Aside0 (∀ (w' : World), Calls Try.prog 19 #[.int .i64 block] w' fun e w'' => e = .returned (.bool (mayD block)) ∧ w'' = w') := ⟨fun w' => (dmay_calls block w').mono fun _ _ ⟨a, b⟩ => ⟨a, b.symm⟩⟩
  rcases h3 : mayD block with _ | _
  · have HMAY := HMAY0
    rw [h3] at HMAY
    have HE : Aside0 (o = false) := ⟨by rw [HO.out, h3]; simp only [Bool.false_and, Bool.and_false]⟩
    clear HO h3 HMAY0
    rw [HE.out]
    go_enter Try.func31, Try.ntmps31
    go_wp2_with fail
    go_step3
    go_wp2_with fail
    go_quiet ((go_at_call 19; exact Calls.quiet_of_same (HMAY.out _)))
    go_wp2_with fail
    rw [Exit.noGoto_ret]
    go_ret
    exact ⟨rfl, by first | exact ((Below.refl _ _).alloc (Nat.le_refl _) _).drew | exact below_drewN ((Below.refl _ _).alloc (Nat.le_refl _) _) _⟩
  have HMAY := HMAY0
  rw [h3] at HMAY
  have hmb2 := mayD_iff.1 h3
  rcases h4 : ((nr : Int) == 32) with _ | _
  · have d4 : ((nr : Int) != 32) = true := by rw [bne, h4]; rfl
    have d4' : (nr != 32) = true := by have := beq_eq_false_iff_ne.1 h4; simp; omega
    have HE : Aside0 (o = false) := ⟨by rw [HO.out, h4]; simp only [Bool.false_and, Bool.and_false]⟩
    clear HO h4 h3
    rw [HE.out]
    go_enter Try.func31, Try.ntmps31
    go_wp2_with fail
    go_step3
    go_wp2_with fail
    go_quiet ((go_at_call 19; exact Calls.quiet_of_same (HMAY.out _)))
    go_wp2_with fail
    rw [Exit.noGoto_ret]
    go_ret
    exact ⟨rfl, by first | exact ((Below.refl _ _).alloc (Nat.le_refl _) _).drew | exact below_drewN ((Below.refl _ _).alloc (Nat.le_refl _) _) _⟩
  have d4 : ((nr : Int) != 32) = false := by rw [bne, h4]; rfl
  have d4' : (nr != 32) = false := by have := beq_iff_eq.1 h4; simp; omega
  rcases h5 : ((nl : Int) == nb) with _ | _
  · have d5 : ((nl : Int) != nb) = true := by rw [bne, h5]; rfl
    have d5' : (nl != nb) = true := by have := beq_eq_false_iff_ne.1 h5; simp; omega
    have HE : Aside0 (o = false) := ⟨by rw [HO.out, h5]; simp only [Bool.false_and, Bool.and_false]⟩
    clear HO h4 h5 h3
    rw [HE.out]
    go_enter Try.func31, Try.ntmps31
    go_wp2_with fail
    go_step3
    go_wp2_with fail
    go_quiet ((go_at_call 19; exact Calls.quiet_of_same (HMAY.out _)))
    go_wp2_with fail
    rw [Exit.noGoto_ret]
    go_ret
    exact ⟨rfl, by first | exact ((Below.refl _ _).alloc (Nat.le_refl _) _).drew | exact below_drewN ((Below.refl _ _).alloc (Nat.le_refl _) _) _⟩
  have d5 : ((nl : Int) != nb) = false := by rw [bne, h5]; rfl
  have d5' : (nl != nb) = false := by have := beq_iff_eq.1 h5; simp; omega
  have HSB : Aside0 (-9223372036854775808 ≤ size ∧ size ≤ 9223372036854775807 ∧ -9223372036854775808 ≤ block ∧ block ≤ 9223372036854775807) := ⟨by omega⟩
  have HCNT : Aside0 (∀ (w' : World), Calls Try.prog 21 #[.int .i64 size, .int .i64 block] w' fun e w'' => e = .returned (.int .i64 (cnt size block)) ∧ w'' = w') := ⟨fun w' => (count_calls size block w' ⟨HSB.out.1, HSB.out.2.1⟩ HSB.out.2.2).mono fun _ _ ⟨a, b⟩ => ⟨a, b.symm⟩⟩
  have HRIS0 : Aside0 (∀ (w' : World), Below w.heap.size w w' → Calls Try.prog 20 #[.slice Al nl cl, .int .i64 (cnt size block)] w' fun e w'' => e = .returned (.bool (risL l (cnt size block))) ∧ w'' = w') := ⟨fun w' hb => (rising_calls (cnt size block) w' (HL.out.below hb)).mono fun _ _ ⟨a, b⟩ => ⟨a, b.symm⟩⟩
  obtain ⟨q, hq⟩ : ∃ q, cnt size block = q := ⟨_, rfl⟩
  have HQ := Aside0.mk hq
  rw [hq] at HCNT HRIS0 HO
  clear hq
  rcases h6 : risL l q with _ | _
  · have HRIS := HRIS0
    rw [h6] at HRIS
    have HE : Aside0 (o = false) := ⟨by rw [HO.out, h6]; simp only [Bool.false_and, Bool.and_false]⟩
    clear HO h4 h5 h6 h3 HRIS0
    rw [HE.out]
    go_enter Try.func31, Try.ntmps31
    go_wp2_with fail
    go_step3
    go_wp2_with fail
    go_quiet (first | ((go_at_call 21; exact Calls.quiet_of_same (HCNT.out _))) | ((go_at_call 19; exact Calls.quiet_of_same (HMAY.out _))) | ((go_at_call 20; exact Calls.quiet_of_same (HRIS.out _ (by first | exact ((Below.refl _ _).alloc (Nat.le_refl _) _).drew | exact below_drewN ((Below.refl _ _).alloc (Nat.le_refl _) _) _)))))
    go_wp2_with fail
    rw [Exit.noGoto_ret]
    go_ret
    exact ⟨rfl, by first | exact ((Below.refl _ _).alloc (Nat.le_refl _) _).drew | exact below_drewN ((Below.refl _ _).alloc (Nat.le_refl _) _) _⟩
  have HRIS := HRIS0
  rw [h6] at HRIS
  have HR := Aside0.mk h6
  have HO3 : Aside0 (o = lensN size block l bs nl) := ⟨by rw [HO.out, h3, h4, h5, h6, decide_eq_true (show 0 ≤ size by omega), decide_eq_true (show size ≤ 8192 by omega)]; simp only [Bool.true_and]⟩
  have hnb2 : (nl : Int) = nb := beq_iff_eq.1 h5
  have hnl8 : (nl : Int) ≤ 1048576 := by have h1 := risL_len h6 (by rw [← HQ.out]; exact (cnt_bd size block).1); have h2 := (cnt_bd size block).2; rw [HQ.out] at h2; rw [HNL.out] at h1; omega
  have HNN : Aside0 (nl = nb) := ⟨by omega⟩
  clear h4 h5 h6 h3 HO HRIS0 hnb2
  go_enter Try.func31, Try.ntmps31
  go_wp2_with fail
  go_step3
  go_wp2_with fail
  go_quiet (first | ((go_at_call 21; exact Calls.quiet_of_same (HCNT.out _))) | ((go_at_call 19; exact Calls.quiet_of_same (HMAY.out _))) | ((go_at_call 20; exact Calls.quiet_of_same (HRIS.out _ (by first | exact ((Below.refl _ _).alloc (Nat.le_refl _) _).drew | exact below_drewN ((Below.refl _ _).alloc (Nat.le_refl _) _) _)))))
  go_wp2_with fail
  clear d1 d2  d4 d4' d5 d5'
  have HK : Aside0 (∀ wr : World, wr.heap[w.heap.size]? = some (.cells #[.int .i64 size, .int .i64 block, .slice Ar nr cr, .slice Al nl cl, .slice Ab nb cb] 30 (0, 0)) → wr.cell? ⟨w.heap.size, 0, none⟩ = some (.int .i64 size) ∧ wr.cell? ⟨w.heap.size, 1, none⟩ = some (.int .i64 block) ∧ wr.cell? ⟨w.heap.size, 3, none⟩ = some (.slice Al nl cl) ∧ wr.cell? ⟨w.heap.size, 4, none⟩ = some (.slice Ab nb cb)) := ⟨fun wr h => by
    have := (blk h).1
    exact ⟨this 0, this 1, this 3, this 4⟩⟩
  go_step3
  go_wp2_with fail
  go_loopw [3, 49] (fun t i wr => ∃ n : Nat, n ≤ nl ∧ i = .int .i64 n ∧ t = .bool true ∧ Aside0 (lensN size block l bs n = true ∧ wr.heap[w.heap.size]? = some (.cells #[.int .i64 size, .int .i64 block, .slice Ar nr cr, .slice Al nl cl, .slice Ab nb cb] 30 (0, 0)) ∧ Below w.heap.size w wr)) (fun t i wr => nl - (intOf i).toNat)
  case atStart => exact ⟨0, Nat.zero_le _, rfl, rfl, ⟨rfl, below_heap (by first | exact (Below.refl _ _).drew | exact below_drewN (Below.refl _ _) _) (heap_new rfl), by first | exact ((Below.refl _ _).alloc (Nat.le_refl _) _).drew | exact below_drewN ((Below.refl _ _).alloc (Nat.le_refl _) _) _⟩⟩
  case round =>
    obtain ⟨n, hn, rfl, rfl, hso⟩ := hrel
    obtain ⟨c0, c1, c3, c4⟩ := HK.out _ hso.out.2.1
    by_cases hlt : n < nl
    · have hlt' : n < l.length := by rw [HNL.out]; exact hlt
      obtain ⟨adl, hAl, hcl⟩ := (HL.out.below hso.out.2.2).nth n hlt'
      subst hAl
      obtain ⟨ad, ca, u, Au, cu, he, hu, hcell, hsl⟩ := (HBS.out.below hso.out.2.2).at n (by rw [HNB.out, ← HNN.out]; exact hlt)
      obtain ⟨rfl, he1, he2⟩ : Ab = some ad ∧ nb = bs.length ∧ cb = ca := by cases he; exact ⟨rfl, rfl, rfl⟩
      clear he he1 he2
      have hp := risL_at HR.out hlt'
      obtain ⟨x, hxx⟩ : ∃ x, x = bs.getD n [] := ⟨_, rfl⟩
      obtain ⟨p, hpp⟩ : ∃ p, p = l.getD n 0 := ⟨_, rfl⟩
      rw [← hxx] at hu
      rw [← hpp] at hcl hp
      have hxl : x.length ≤ 9223372036854775807 := by rw [← hxx] at hsl; obtain ⟨_, _, _, _, h, _⟩ := hsl; exact h
      have hk := cnt_pos hp.1 (by rw [HQ.out]; exact hp.2)
      have hpb0 : 0 ≤ p * block := Int.mul_nonneg hp.1 (by omega)
      have hpb1 : p * block ≤ 8192 := by omega
      have z1 : (0 : Int) ≤ (n : Int) := by omega
      have z2 : (n : Int) < nl := by omega
      have z3 : (n : Int) < nb := by have := HNN.out; omega
      have z4 : IntKind.i64.wrap (p * block) = p * block := IntWalk.i64_in _ (by omega)
      have z5 : IntKind.i64.wrap (size - p * block) = size - p * block := IntWalk.i64_in _ (by omega)
      have HXX := Aside0.mk hxx
      have HPP := Aside0.mk hpp
      subst hu
      clear hsl hxx hpp
      have hmin : Aside0 (blen size block p = if size - p * block < block then size - p * block else block) := ⟨by unfold blen; split <;> omega⟩
      have HLE : Aside0 ((((bs.getD n []).length : Int) == blen size block (l.getD n 0)) = ((x.length : Int) == blen size block p)) := ⟨by rw [HXX.out, HPP.out]⟩
      by_cases hmn : size - p * block < block
      · have HBL : Aside0 (blen size block p = size - p * block) := ⟨by rw [hmin.out, if_pos hmn]⟩
        rw [HBL.out] at HLE
        rcases hx : ((x.length : Int) == (size - p * block)) with _ | _
        · have h1 : ((x.length : Int) != (size - p * block)) = true := by rw [bne, hx]; rfl
          have HE : Aside0 (o = false) := ⟨by rw [HO3.out]; exact lensN_fails hlt (by rw [HLE.out, hx])⟩
          clear hx
          go_wp2_with fail
          go_quiet (fail)
          clear z4 z5
          go_wp2_with fail
          rw [Exit.noGoto_ret]
          go_ret
          exact ⟨ret_b HE.out.symm, by first | exact hso.out.2.2.drew | exact below_drewN hso.out.2.2 _⟩
        · have h1 : ((x.length : Int) != (size - p * block)) = false := by rw [bne, hx]; rfl
          have HE : Aside0 (lensN size block l bs (n + 1) = true) := ⟨by rw [lensN, hso.out.1, HLE.out, hx]; rfl⟩
          clear hx
          go_wp2_with fail
          go_quiet (fail)
          clear z4 z5
          go_wp2_with fail
          go_roundw
          case rel => exact ⟨n + 1, by omega, by go_num, rfl, ⟨HE.out, below_heap (by first | exact (Below.refl _ _).drew | exact below_drewN (Below.refl _ _) _) hso.out.2.1, by first | exact hso.out.2.2.drew | exact below_drewN hso.out.2.2 _⟩⟩
          case measure => simp [intOf]; omega
      · have HBL : Aside0 (blen size block p = block) := ⟨by rw [hmin.out, if_neg hmn]⟩
        rw [HBL.out] at HLE
        rcases hx : ((x.length : Int) == block) with _ | _
        · have h1 : ((x.length : Int) != block) = true := by rw [bne, hx]; rfl
          have HE : Aside0 (o = false) := ⟨by rw [HO3.out]; exact lensN_fails hlt (by rw [HLE.out, hx])⟩
          clear hx
          go_wp2_with fail
          go_quiet (fail)
          clear z4 z5
          go_wp2_with fail
          rw [Exit.noGoto_ret]
          go_ret
          exact ⟨ret_b HE.out.symm, by first | exact hso.out.2.2.drew | exact below_drewN hso.out.2.2 _⟩
        · have h1 : ((x.length : Int) != block) = false := by rw [bne, hx]; rfl
          have HE : Aside0 (lensN size block l bs (n + 1) = true) := ⟨by rw [lensN, hso.out.1, HLE.out, hx]; rfl⟩
          clear hx
          go_wp2_with fail
          go_quiet (fail)
          clear z4 z5
          go_wp2_with fail
          go_roundw
          case rel => exact ⟨n + 1, by omega, by go_num, rfl, ⟨HE.out, below_heap (by first | exact (Below.refl _ _).drew | exact below_drewN (Below.refl _ _) _) hso.out.2.1, by first | exact hso.out.2.2.drew | exact below_drewN hso.out.2.2 _⟩⟩
          case measure => simp [intOf]; omega
    · have HE : Aside0 (o = true) := ⟨by rw [HO3.out, show nl = n by omega]; exact hso.out.1⟩
      go_wp2_with fail
      rw [Exit.noGoto_ret]
      go_ret
      exact ⟨ret_b HE.out.symm, hso.out.2.2⟩
end Go.Proofs.Ytdikconhdbopdaa
