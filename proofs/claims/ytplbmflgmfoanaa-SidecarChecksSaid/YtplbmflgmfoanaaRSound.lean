/-
  The reference's Sound. No condition but that what comes in can be read and is none too long.
-/
import Derived.Test.YtplbmflgmfoanaaSideProg
import Derived.Test.YtplbmflgmfoanaaMerRoot
import Derived.Test.YtplbmflgmfoanaaGroups
import Derived.Test.YtplbmflgmfoanaaFlow
namespace Go.Proofs.Ytplbmflgmfoanaa
open Go.RowKit
set_option linter.unusedVariables false
set_option linter.unusedSimpArgs false

theorem rcount_same (size block : Int) (w : World) (hs : -9223372036854775808 ≤ size ∧ size ≤ 9223372036854775807) (hb : -9223372036854775808 ≤ block ∧ block ≤ 9223372036854775807) :
    Calls Try.prog 33 #[.int .i64 size, .int .i64 block] w fun e w' => e = .returned (.int .i64 (cnt size block)) ∧ w' = w := (rcount_calls size block w hs hb).mono fun _ _ ⟨a, b⟩ => ⟨a, b.symm⟩
theorem rgroups_same (size block k : Int) (w : World) (hs : -9223372036854775808 ≤ size ∧ size ≤ 9223372036854775807) (hb : -9223372036854775808 ≤ block ∧ block ≤ 9223372036854775807) :
    Calls Try.prog 34 #[.int .i64 size, .int .i64 block, .int .i64 k] w fun e w' => e = .returned (.int .i64 (grp size block k)) ∧ w' = w := (rgroups_calls size block k w hs hb).mono fun _ _ ⟨a, b⟩ => ⟨a, b.symm⟩
theorem not_mayS' {size block k : Int} (h : ¬ (0 ≤ size ∧ size ≤ 8192 ∧ 16 ≤ block ∧ block ≤ 4096 ∧ 1 ≤ k ∧ k ≤ 8)) : mayS size block k = false := by
  cases hh : mayS size block k with
  | false => rfl
  | true => exact absurd (mayS_iff.1 hh) h
section
set_option maxRecDepth 100000
/-- What each slot of the region holds. -/
def RSnd (W : World) (G : Nat) (size block k : Int) (Ar Al Ap : Option Addr) (nr nl np cr cl cp : Nat) (RL root : List UInt8) : Nat → Value → World → Prop
  | 0, v, w => v = .pointer (some ⟨G, 4, none⟩)
  | 1, v, w => v = .slice Al nl cl
  | 2, v, w => ∃ b, Sl bv 5 w b v RL
  | 3, v, w => v = .string (str RL)
  | 4, v, w => v = .pointer (some ⟨G, 3, none⟩)
  | 5, v, w => v = .slice Ar nr cr
  | 6, v, w => v = .string (str root)
  | 7, v, w => v = .bool (RL == root)
  | 8, v, w => v = .bool (RL == root)
  | _, _, _ => True
theorem RSnd_st (W : World) (G : Nat) (size block k : Int) (Ar Al Ap : Option Addr) (nr nl np cr cl cp : Nat) (RL root : List UInt8) : ∀ i v w w', RSnd W G size block k Ar Al Ap nr nl np cr cl cp RL root i v w → Below w.heap.size w w' → RSnd W G size block k Ar Al Ap nr nl np cr cl cp RL root i v w'
  | 0, v, w, w', h, hb => h
  | 1, v, w, w', h, hb => h
  | 2, v, w, w', h, hb => h.elim fun b h => ⟨b, Sl.below h hb⟩
  | 3, v, w, w', h, hb => h
  | 4, v, w, w', h, hb => h
  | 5, v, w, w', h, hb => h
  | 6, v, w, w', h, hb => h
  | 7, v, w, w', h, hb => h
  | 8, v, w, w', h, hb => h
  | _ + 9, _, _, _, _, _ => trivial
end
set_option maxHeartbeats 8000000 in
set_option maxRecDepth 100000 in
theorem rsound_calls {vr vl vp : Value} {root : List UInt8} {leaves par : List (List UInt8)} (size block k : Int) (w : World) (h : SideR w vr vl vp root leaves par)
    (hs : -9223372036854775808 ≤ size ∧ size ≤ 9223372036854775807) (hb : -9223372036854775808 ≤ block ∧ block ≤ 9223372036854775807) (hf : leaves.length ≤ 1000000000) :
    Calls Try.prog 12 #[.agg #[.int .i64 size, .int .i64 block, .int .i64 k, vr, vl, vp]] w fun e w' => e = .returned (.bool (soundB size block k root leaves par)) ∧ Below w.heap.size w w' := by
  obtain ⟨⟨br, hr⟩, ⟨bl, hl⟩, ⟨bp, hp⟩⟩ := h
  have HR := Aside0.mk hr
  have HL := Aside0.mk (hl.old (Nat.le_refl _))
  have HP := Aside0.mk hp
  have HF := Aside0.mk hf
  obtain ⟨Ar, cr, rfl, _, hmr, _⟩ := hr
  obtain ⟨Al, cl, rfl, _, hml⟩ := hl.shape
  obtain ⟨Ap, cp, rfl, _, hmp⟩ := hp.shape
  obtain ⟨nr, hnr⟩ : ∃ n, root.length = n := ⟨_, rfl⟩
  obtain ⟨nl, hnl⟩ : ∃ n, leaves.length = n := ⟨_, rfl⟩
  obtain ⟨np, hnp⟩ : ∃ n, par.length = n := ⟨_, rfl⟩
  rw [hnr] at HR hmr ⊢
  rw [hnl] at HL hml ⊢
  rw [hnp] at HP hmp ⊢
  have HNL := Aside0.mk hnl
  have HNP := Aside0.mk hnp
  clear hl hp hf hnr hnl hnp
  have HS := Aside0.mk hs
  have HBB := Aside0.mk hb
  have hq := cnt_bd size block
  have hgq := grp_bd size block k
  obtain ⟨o, ho⟩ : ∃ o, soundB size block k root leaves par = o := ⟨_, rfl⟩
  have HO := Aside0.mk ho
  rw [ho]
  obtain ⟨RL, hRL⟩ : ∃ RL, rootL leaves = RL := ⟨_, rfl⟩
  have HRL := Aside0.mk hRL
  have HCNT : Aside0 (∀ w', Calls Try.prog 33 #[.int .i64 size, .int .i64 block] w' fun e w'' => e = .returned (.int .i64 (cnt size block)) ∧ w'' = w') := ⟨fun w' => rcount_same size block w' HS.out HBB.out⟩
  have HGRP : Aside0 (∀ w', Calls Try.prog 34 #[.int .i64 size, .int .i64 block, .int .i64 k] w' fun e w'' => e = .returned (.int .i64 (grp size block k)) ∧ w'' = w') := ⟨fun w' => rgroups_same size block k w' HS.out HBB.out⟩
  obtain ⟨q, hqq⟩ : ∃ q, cnt size block = q := ⟨_, rfl⟩
  obtain ⟨gq, hgg⟩ : ∃ gq, grp size block k = gq := ⟨_, rfl⟩
  rw [hqq] at HCNT hq
  rw [hgg] at HGRP hgq
  have HQ := Aside0.mk hqq
  have HGQ := Aside0.mk hgg
  obtain ⟨hq0, hq1⟩ := hq
  obtain ⟨hg0, hg1⟩ := hgq
  clear ho hRL hqq hgg
  by_cases h1 : size < 0
  · have d1 : decide (size < 0) = true := decide_eq_true h1
    have HE : Aside0 (o = false) := ⟨by rw [← HO.out]; simp only [soundB, not_mayS' (show ¬ (0 ≤ size ∧ size ≤ 8192 ∧ 16 ≤ block ∧ block ≤ 4096 ∧ 1 ≤ k ∧ k ≤ 8) by omega), Bool.false_and]⟩
    rw [HE.out]
    go_enter Try.func12, Try.ntmps12
    go_wp2_with fail
    go_quiet (first | ((go_at_call 33; exact Calls.quiet_of_same (HCNT.out _))) | ((go_at_call 34; exact Calls.quiet_of_same (HGRP.out _))))
    go_wp2_with fail
    go_ret
    exact ⟨rfl, by first | exact ((Below.refl _ _).alloc (Nat.le_refl _) _).drew | exact below_drewN ((Below.refl _ _).alloc (Nat.le_refl _) _) _⟩
  have d1 : decide (size < 0) = false := decide_eq_false h1
  by_cases h2 : 8192 < size
  · have d2 : decide (8192 < size) = true := decide_eq_true h2
    have HE : Aside0 (o = false) := ⟨by rw [← HO.out]; simp only [soundB, not_mayS' (show ¬ (0 ≤ size ∧ size ≤ 8192 ∧ 16 ≤ block ∧ block ≤ 4096 ∧ 1 ≤ k ∧ k ≤ 8) by omega), Bool.false_and]⟩
    rw [HE.out]
    go_enter Try.func12, Try.ntmps12
    go_wp2_with fail
    go_quiet (first | ((go_at_call 33; exact Calls.quiet_of_same (HCNT.out _))) | ((go_at_call 34; exact Calls.quiet_of_same (HGRP.out _))))
    go_wp2_with fail
    go_ret
    exact ⟨rfl, by first | exact ((Below.refl _ _).alloc (Nat.le_refl _) _).drew | exact below_drewN ((Below.refl _ _).alloc (Nat.le_refl _) _) _⟩
  have d2 : decide (8192 < size) = false := decide_eq_false h2
  by_cases h3 : block < 16
  · have d3 : decide (block < 16) = true := decide_eq_true h3
    have HE : Aside0 (o = false) := ⟨by rw [← HO.out]; simp only [soundB, not_mayS' (show ¬ (0 ≤ size ∧ size ≤ 8192 ∧ 16 ≤ block ∧ block ≤ 4096 ∧ 1 ≤ k ∧ k ≤ 8) by omega), Bool.false_and]⟩
    rw [HE.out]
    go_enter Try.func12, Try.ntmps12
    go_wp2_with fail
    go_quiet (first | ((go_at_call 33; exact Calls.quiet_of_same (HCNT.out _))) | ((go_at_call 34; exact Calls.quiet_of_same (HGRP.out _))))
    go_wp2_with fail
    go_ret
    exact ⟨rfl, by first | exact ((Below.refl _ _).alloc (Nat.le_refl _) _).drew | exact below_drewN ((Below.refl _ _).alloc (Nat.le_refl _) _) _⟩
  have d3 : decide (block < 16) = false := decide_eq_false h3
  by_cases h4 : 4096 < block
  · have d4 : decide (4096 < block) = true := decide_eq_true h4
    have HE : Aside0 (o = false) := ⟨by rw [← HO.out]; simp only [soundB, not_mayS' (show ¬ (0 ≤ size ∧ size ≤ 8192 ∧ 16 ≤ block ∧ block ≤ 4096 ∧ 1 ≤ k ∧ k ≤ 8) by omega), Bool.false_and]⟩
    rw [HE.out]
    go_enter Try.func12, Try.ntmps12
    go_wp2_with fail
    go_quiet (first | ((go_at_call 33; exact Calls.quiet_of_same (HCNT.out _))) | ((go_at_call 34; exact Calls.quiet_of_same (HGRP.out _))))
    go_wp2_with fail
    go_ret
    exact ⟨rfl, by first | exact ((Below.refl _ _).alloc (Nat.le_refl _) _).drew | exact below_drewN ((Below.refl _ _).alloc (Nat.le_refl _) _) _⟩
  have d4 : decide (4096 < block) = false := decide_eq_false h4
  by_cases h5 : k < 1
  · have d5 : decide (k < 1) = true := decide_eq_true h5
    have HE : Aside0 (o = false) := ⟨by rw [← HO.out]; simp only [soundB, not_mayS' (show ¬ (0 ≤ size ∧ size ≤ 8192 ∧ 16 ≤ block ∧ block ≤ 4096 ∧ 1 ≤ k ∧ k ≤ 8) by omega), Bool.false_and]⟩
    rw [HE.out]
    go_enter Try.func12, Try.ntmps12
    go_wp2_with fail
    go_quiet (first | ((go_at_call 33; exact Calls.quiet_of_same (HCNT.out _))) | ((go_at_call 34; exact Calls.quiet_of_same (HGRP.out _))))
    go_wp2_with fail
    go_ret
    exact ⟨rfl, by first | exact ((Below.refl _ _).alloc (Nat.le_refl _) _).drew | exact below_drewN ((Below.refl _ _).alloc (Nat.le_refl _) _) _⟩
  have d5 : decide (k < 1) = false := decide_eq_false h5
  by_cases h6 : 8 < k
  · have d6 : decide (8 < k) = true := decide_eq_true h6
    have HE : Aside0 (o = false) := ⟨by rw [← HO.out]; simp only [soundB, not_mayS' (show ¬ (0 ≤ size ∧ size ≤ 8192 ∧ 16 ≤ block ∧ block ≤ 4096 ∧ 1 ≤ k ∧ k ≤ 8) by omega), Bool.false_and]⟩
    rw [HE.out]
    go_enter Try.func12, Try.ntmps12
    go_wp2_with fail
    go_quiet (first | ((go_at_call 33; exact Calls.quiet_of_same (HCNT.out _))) | ((go_at_call 34; exact Calls.quiet_of_same (HGRP.out _))))
    go_wp2_with fail
    go_ret
    exact ⟨rfl, by first | exact ((Below.refl _ _).alloc (Nat.le_refl _) _).drew | exact below_drewN ((Below.refl _ _).alloc (Nat.le_refl _) _) _⟩
  have d6 : decide (8 < k) = false := decide_eq_false h6
  have hm : mayS size block k = true := mayS_iff.2 (by omega)
  have HO2 : Aside0 (o = (longB leaves q 32 && ((RL == root) && longB par gq block))) := ⟨by rw [← HO.out, ← HQ.out, ← HGQ.out, ← HRL.out]; simp only [soundB, hm, Bool.true_and]⟩
  clear hm HO
  rcases h7 : ((nl : Int) == q) with _ | _
  · have d7 : ((nl : Int) != q) = true := by rw [bne, h7]; rfl
    have HE : Aside0 (o = false) := ⟨by rw [HO2.out]; simp only [longB, HNL.out, h7, Bool.false_and]⟩
    clear h7 HO2
    rw [HE.out]
    go_enter Try.func12, Try.ntmps12
    go_wp2_with fail
    go_quiet (first | ((go_at_call 33; exact Calls.quiet_of_same (HCNT.out _))) | ((go_at_call 34; exact Calls.quiet_of_same (HGRP.out _))))
    go_wp2_with fail
    go_ret
    exact ⟨rfl, by first | exact ((Below.refl _ _).alloc (Nat.le_refl _) _).drew | exact below_drewN ((Below.refl _ _).alloc (Nat.le_refl _) _) _⟩
  have d7 : ((nl : Int) != q) = false := by rw [bne, h7]; rfl
  rcases h8 : ((np : Int) == gq) with _ | _
  · have d8 : ((np : Int) != gq) = true := by rw [bne, h8]; rfl
    have HE : Aside0 (o = false) := ⟨by rw [HO2.out]; simp only [longB, HNP.out, h8, Bool.false_and, Bool.and_false]⟩
    clear h7 h8 HO2
    rw [HE.out]
    go_enter Try.func12, Try.ntmps12
    go_wp2_with fail
    go_quiet (first | ((go_at_call 33; exact Calls.quiet_of_same (HCNT.out _))) | ((go_at_call 34; exact Calls.quiet_of_same (HGRP.out _))))
    go_wp2_with fail
    go_ret
    exact ⟨rfl, by first | exact ((Below.refl _ _).alloc (Nat.le_refl _) _).drew | exact below_drewN ((Below.refl _ _).alloc (Nat.le_refl _) _) _⟩
  have d8 : ((np : Int) != gq) = false := by rw [bne, h8]; rfl
  have HO3 : Aside0 (o = (allLen leaves 32 && ((RL == root) && allLen par block))) := ⟨by rw [HO2.out]; simp only [longB, HNL.out, HNP.out, h7, h8, Bool.true_and]⟩
  have h7' : (nl : Int) ≤ 1048576 := by have := beq_iff_eq.1 h7; omega
  have h8' : (np : Int) ≤ 1048576 := by have := beq_iff_eq.1 h8; omega
  clear h7 h8 HO2
  go_enter Try.func12, Try.ntmps12
  go_wp2_with fail
  go_quiet (first | ((go_at_call 33; exact Calls.quiet_of_same (HCNT.out _))) | ((go_at_call 34; exact Calls.quiet_of_same (HGRP.out _))))
  go_wp2_with fail
  clear d1 d2 d3 d4 d5 d6 d7 d8
  have HK : Aside0 (∀ wr : World, wr.heap[w.heap.size]? = some (.cells #[.int .i64 size, .int .i64 block, .int .i64 k, .slice Ar nr cr, .slice Al nl cl, .slice Ap np cp] 30 (0, 0)) → wr.cell? ⟨w.heap.size, 1, none⟩ = some (.int .i64 block) ∧ wr.cell? ⟨w.heap.size, 4, none⟩ = some (.slice Al nl cl) ∧ wr.cell? ⟨w.heap.size, 5, none⟩ = some (.slice Ap np cp)) := ⟨fun wr h => by
    have := (blk h).1
    exact ⟨this 1, this 4, this 5⟩⟩
  go_loopw [3] (fun i wr => ∃ n : Nat, n ≤ nl ∧ i = .int .i64 n ∧ Aside0 (allLen (leaves.take n) 32 = true ∧ wr.heap[w.heap.size]? = some (.cells #[.int .i64 size, .int .i64 block, .int .i64 k, .slice Ar nr cr, .slice Al nl cl, .slice Ap np cp] 30 (0, 0)) ∧ Below w.heap.size w wr)) (fun i wr => nl - (intOf i).toNat)
  case atStart => exact ⟨0, Nat.zero_le _, rfl, ⟨rfl, below_heap (by first | exact (Below.refl _ _).drew | exact below_drewN (Below.refl _ _) _) (heap_new rfl), by first | exact ((Below.refl _ _).alloc (Nat.le_refl _) _).drew | exact below_drewN ((Below.refl _ _).alloc (Nat.le_refl _) _) _⟩⟩
  case round =>
    obtain ⟨n, hn, rfl, hso⟩ := hrel
    obtain ⟨c1, c4, c5⟩ := HK.out _ hso.out.2.1
    by_cases hlt : n < nl
    · have hlt' : n < leaves.length := by rw [HNL.out]; exact hlt
      obtain ⟨ad, ca, u, Au, cu, he, hu, hcell, hsl⟩ := (HL.out.below hso.out.2.2).at n hlt'
      obtain ⟨rfl, _, _⟩ : Al = some ad ∧ nl = leaves.length ∧ cl = ca := by cases he; exact ⟨rfl, rfl, rfl⟩
      clear he
      obtain ⟨x, hxx⟩ : ∃ x, x = leaves.getD n [] := ⟨_, rfl⟩
      rw [← hxx] at hu
      have hxl : x.length ≤ 9223372036854775807 := by rw [← hxx] at hsl; obtain ⟨_, _, _, _, h, _⟩ := hsl; exact h
      have HXX := Aside0.mk hxx
      subst hu
      clear hsl hxx
      by_cases hx : (x.length : Int) = 32
      · have h1 : ((x.length : Int) != 32) = false := by simpa using hx
        have h1' : (x.length != 32) = false := by simp; omega
        have H2 : Aside0 (allLen (leaves.take (n + 1)) 32 = true) := ⟨allLen_take leaves 32 n hlt' hso.out.1 (by rw [← HXX.out]; exact hx)⟩
        clear hx
        go_wp2_with fail
        go_roundw
        case rel => exact ⟨n + 1, by omega, by go_num, ⟨H2.out, hso.out.2⟩⟩
        case measure => simp [intOf]; omega
      · have h1 : ((x.length : Int) != 32) = true := by simpa using hx
        have h1' : (x.length != 32) = true := by simp; omega
        have H2 : Aside0 (o = false) := ⟨by rw [HO3.out, allLen_not leaves 32 n hlt' (by rw [← HXX.out]; exact hx)]; rfl⟩
        clear hx
        go_wp2_with fail
        go_ret
        exact ⟨ret_b H2.out.symm, hso.out.2.2⟩
    · have HLN : Aside0 (allLen leaves 32 = true) := ⟨by have h := hso.out.1; rwa [List.take_of_length_le (by rw [HNL.out]; omega)] at h⟩
      go_wp2_with fail
      obtain ⟨wo, hwo⟩ : ∃ wo : World, wo = wr := ⟨_, rfl⟩
      rw [← hwo] at hso ⊢
      clear hwo c1 c4 c5
      clear wr
      go_loopw [4] (fun i wr => ∃ n : Nat, n ≤ np ∧ i = .int .i64 n ∧ Aside0 (allLen (par.take n) block = true ∧ wr.heap[w.heap.size]? = some (.cells #[.int .i64 size, .int .i64 block, .int .i64 k, .slice Ar nr cr, .slice Al nl cl, .slice Ap np cp] 30 (0, 0)) ∧ Below w.heap.size w wr)) (fun i wr => np - (intOf i).toNat)
      case atStart => exact ⟨0, Nat.zero_le _, rfl, ⟨rfl, hso.out.2⟩⟩
      case round =>
        obtain ⟨m, hm, rfl, hsp⟩ := hrel
        obtain ⟨c1, c4, c5⟩ := HK.out _ hsp.out.2.1
        by_cases hlt : m < np
        · have hlt' : m < par.length := by rw [HNP.out]; exact hlt
          obtain ⟨ad, ca, u, Au, cu, he, hu, hcell, hsl⟩ := (HP.out.below hsp.out.2.2).at m hlt'
          obtain ⟨rfl, _, _⟩ : Ap = some ad ∧ np = par.length ∧ cp = ca := by cases he; exact ⟨rfl, rfl, rfl⟩
          clear he
          obtain ⟨x, hxx⟩ : ∃ x, x = par.getD m [] := ⟨_, rfl⟩
          rw [← hxx] at hu
          have hxl : x.length ≤ 9223372036854775807 := by rw [← hxx] at hsl; obtain ⟨_, _, _, _, h, _⟩ := hsl; exact h
          have HXX := Aside0.mk hxx
          subst hu
          clear hsl hxx
          have z1 : (0 : Int) ≤ (m : Int) := by omega
          have z2 : (m : Int) < np := by omega
          by_cases hx : (x.length : Int) = block
          · have h1 : ((x.length : Int) != block) = false := by simpa using hx
            have H2 : Aside0 (allLen (par.take (m + 1)) block = true) := ⟨allLen_take par block m hlt' hsp.out.1 (by rw [← HXX.out]; exact hx)⟩
            clear hx
            go_wp2_with fail
            go_quiet (fail)
            go_wp2_with fail
            go_roundw
            case rel => exact ⟨m + 1, by omega, by go_num, ⟨H2.out, below_heap (by first | exact (Below.refl _ _).drew | exact below_drewN (Below.refl _ _) _) hsp.out.2.1, by first | exact hsp.out.2.2.drew | exact below_drewN hsp.out.2.2 _⟩⟩
            case measure => simp [intOf]; omega
          · have h1 : ((x.length : Int) != block) = true := by simpa using hx
            have H2 : Aside0 (o = false) := ⟨by rw [HO3.out, allLen_not par block m hlt' (by rw [← HXX.out]; exact hx), Bool.and_false, Bool.and_false]⟩
            clear hx
            go_wp2_with fail
            go_quiet (fail)
            go_wp2_with fail
            go_ret
            exact ⟨ret_b H2.out.symm, by first | exact hsp.out.2.2.drew | exact below_drewN hsp.out.2.2 _⟩
        · have HO4 : Aside0 (o = (RL == root)) := ⟨by
            have h := hsp.out.1
            rw [List.take_of_length_le (by rw [HNP.out]; omega)] at h
            rw [HO3.out, HLN.out, h, Bool.true_and, Bool.and_true]⟩
          have HFT := Aside0.mk (FitM.of_len HLN.out (by decide) HF.out)
          go_wp2_with fail
          have HB1 := Aside0.mk hsp.out.2.2
          have HG := Aside0.mk hsp.out.2.1
          obtain ⟨W, hW⟩ : ∃ W, W = wr := ⟨_, rfl⟩
          obtain ⟨G, hGG⟩ : ∃ G, G = w.heap.size := ⟨_, rfl⟩
          rw [← hW] at HB1 HG ⊢
          rw [← hGG] at HG ⊢
          have HLW := Aside0.mk ((HL.out.below HB1.out))
          have HRW := Aside0.mk ((HR.out.below HB1.out))
          have hb0 := Aside0.mk HB1.out.size
          clear hW hsp hso c1 c4 c5
          refine wp_region_flowA (RSnd W G size block k Ar Al Ap nr nl np cr cl cp RL root) (by kernel_rfl) (by kernel_rfl) (RSnd_st _ _ _ _ _ _ _ _ _ _ _ _ _ _ _ _) ?_ ?_
          · intro i o ho aa w' F
            have hlow := F.low
            match i, ho with
            | 0, ho =>
              obtain rfl := Option.some.inj ho
              refine flow_plain rfl rfl ?_
              have f1 : aa.tmps.getD 1 undef = .pointer (some ⟨G, 0, none⟩) := eval_out F 1 (by kernel_rfl) _ rfl
              refine op_pure (.pointer (some ⟨G, 4, none⟩)) ?_ ⟨_, rfl, Below.refl _ _, rfl⟩
              simp [execOp, Act.eval, go_sem, f1]
            | 1, ho =>
              obtain rfl := Option.some.inj ho
              refine flow_plain rfl rfl ?_
              have f87 : (aa.tmps.getD 87 undef) = .pointer (some ⟨G, 4, none⟩) := F.of 0 (by kernel_rfl)
              have hc := (blk (below_heap hlow HG.out)).1
              refine op_pure (.slice Al nl cl) ?_ ⟨_, rfl, Below.refl _ _, rfl⟩
              simp [execOp, Act.eval, go_sem, f87, hc]
            | 2, ho =>
              obtain rfl := Option.some.inj ho
              refine flow_plain rfl rfl ?_
              have f88 : (aa.tmps.getD 88 undef) = .slice Al nl cl := F.of 1 (by kernel_rfl)
              refine op_call 25 #[.tmp 88] #[24] rfl _ rfl rfl rfl #[.slice Al nl cl] (by simp [Act.eval, f88]) ?_
              refine (rroot_calls _ (HLW.out.below hlow) (Nat.le_trans hb0.out hlow.size) HFT.out).mono ?_
              rintro e w7 ⟨v7, rfl, hs7, hb7⟩
              rw [HRL.out] at hs7
              exact ⟨_, rfl, _, rfl, hb7, _, hs7⟩
            | 3, ho =>
              obtain rfl := Option.some.inj ho
              refine flow_plain rfl rfl ?_
              have f89 : ∃ b, Sl bv 5 w' b (aa.tmps.getD 89 undef) RL := F.of 2 (by kernel_rfl)
              obtain ⟨bb, f89⟩ := f89
              refine op_conv _ _ _ rfl _ ((f89 : Sl _ _ _ _ _ _).string (P := Try.prog) Try.underlying22 Try.underlying5 Try.underlying9) ⟨_, rfl, Below.refl _ _, rfl⟩
            | 4, ho =>
              obtain rfl := Option.some.inj ho
              refine flow_plain rfl rfl ?_
              have f1 : aa.tmps.getD 1 undef = .pointer (some ⟨G, 0, none⟩) := eval_out F 1 (by kernel_rfl) _ rfl
              refine op_pure (.pointer (some ⟨G, 3, none⟩)) ?_ ⟨_, rfl, Below.refl _ _, rfl⟩
              simp [execOp, Act.eval, go_sem, f1]
            | 5, ho =>
              obtain rfl := Option.some.inj ho
              refine flow_plain rfl rfl ?_
              have f91 : (aa.tmps.getD 91 undef) = .pointer (some ⟨G, 3, none⟩) := F.of 4 (by kernel_rfl)
              have hc := (blk (below_heap hlow HG.out)).1
              refine op_pure (.slice Ar nr cr) ?_ ⟨_, rfl, Below.refl _ _, rfl⟩
              simp [execOp, Act.eval, go_sem, f91, hc]
            | 6, ho =>
              obtain rfl := Option.some.inj ho
              refine flow_plain rfl rfl ?_
              have f92 : (aa.tmps.getD 92 undef) = .slice Ar nr cr := F.of 5 (by kernel_rfl)
              refine op_conv _ _ _ rfl (.string (str root)) ?_ ⟨_, rfl, Below.refl _ _, rfl⟩
              rw [show aa.eval (.tmp 92) = _ from f92]
              exact (HRW.out.below hlow).string (P := Try.prog) Try.underlying22 Try.underlying5 Try.underlying9
            | 7, ho =>
              obtain rfl := Option.some.inj ho
              refine flow_plain rfl rfl ?_
              have f90 : (aa.tmps.getD 90 undef) = .string (str RL) := F.of 3 (by kernel_rfl)
              have f93 : (aa.tmps.getD 93 undef) = .string (str root) := F.of 6 (by kernel_rfl)
              refine op_pure (.bool (RL == root)) ?_ ⟨_, rfl, Below.refl _ _, rfl⟩
              simp [execOp, Act.eval, go_sem, f90, f93, str_toList]
            | 8, ho =>
              obtain rfl := Option.some.inj ho
              refine flow_plain rfl rfl ?_
              have f94 : (aa.tmps.getD 94 undef) = .bool (RL == root) := F.of 7 (by kernel_rfl)
              exact op_assign (.tmp 94) rfl ⟨_, rfl, Below.refl _ _, f94⟩
            | j + 9, ho => exact absurd (Array.getElem?_eq_some_iff.1 ho).1 (by simp)
          · intro a' w' htsz hdfs hsame hlow hgot
            have h2 : a'.tmps.getD 2 undef = .bool (RL == root) := hgot 8 (by simp)
            have hB := Aside0.mk (below_step HB1.out hlow)
            clear hgot hlow hsame
            go_wp2_with fail
            exact bodyPost_ret (results_tmp rfl _ _ _) hdfs ⟨by rw [h2, HO4.out], hB.out⟩
end Go.Proofs.Ytplbmflgmfoanaa
