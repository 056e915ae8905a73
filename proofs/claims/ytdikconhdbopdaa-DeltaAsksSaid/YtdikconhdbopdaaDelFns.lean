/-
  delta.may, rising, Need, slices.Clone of numbers, linnetalike.Block. No condition but that what comes in can be read.
-/
import Derived.Test.YtdikconhdbopdaaDelPure
import Derived.Test.YtdikconhdbopdaaIntApp
import Derived.Test.YtdikconhdbopdaaBytesEq
import Derived.RegionTactic
namespace Go.Proofs.Ytdikconhdbopdaa
open Go.RowKit
set_option linter.unusedVariables false
set_option linter.unusedSimpArgs false

theorem Sl.nth {e b : Nat} {w : World} {A : Option Addr} {n c : Nat} {l : List Int} (h : Sl iv e w b (.slice A n c) l) (i : Nat) (hi : i < l.length) : ∃ ad, A = some ad ∧ w.cell? (ad.add i) = some (.int .i64 (l.getD i 0)) := by
  obtain ⟨A', c', h1, h2, h3, h4⟩ := h
  cases h1
  obtain ⟨ad, h5, h6⟩ := h4.cell i (iv l[i]) (by simp [List.getElem?_eq_getElem hi])
  exact ⟨ad, h5, by rw [h6]; simp [iv, List.getElem?_eq_getElem hi]⟩

set_option maxHeartbeats 400000 in
theorem dmay_calls (block : Int) (w : World) : Calls Try.prog 19 #[.int .i64 block] w fun e w' => e = .returned (.bool (mayD block)) ∧ w = w' := by
  by_cases h1 : 16 ≤ block
  · have d1 : decide (16 ≤ block) = true := decide_eq_true h1
    have HE : Aside0 (mayD block = decide (block ≤ 4096)) := ⟨by simp only [mayD, d1, Bool.true_and]⟩
    rw [HE.out]
    go_enter Try.func19, Try.ntmps19
    go_wp2
    go_ret
    exact ⟨rfl, rfl⟩
  · have d1 : decide (16 ≤ block) = false := decide_eq_false h1
    have HE : Aside0 (mayD block = false) := ⟨by simp only [mayD, d1, Bool.false_and]⟩
    rw [HE.out]
    go_enter Try.func19, Try.ntmps19
    go_wp2
    go_ret
    exact ⟨rfl, rfl⟩

set_option maxHeartbeats 1000000 in
theorem rising_calls {e b : Nat} {v : Value} {l : List Int} (count : Int) (w : World) (hv : Sl iv e w b v l) :
    Calls Try.prog 20 #[v, .int .i64 count] w fun e w' => e = .returned (.bool (risL l count)) ∧ w = w' := by
  have HV := Aside0.mk hv
  obtain ⟨A, c, rfl, hc, hm, _⟩ := hv
  go_enter Try.func20, Try.ntmps20
  go_wp2_with fail
  go_loop [5, 10] (fun t i => ∃ n : Nat, n ≤ l.length ∧ i = .int .i64 n ∧ (∃ z, t = .int .i64 z ∧ Aside0 (z = lastP l n)) ∧ Aside0 (risN l count n = true)) (fun t i => l.length - (intOf i).toNat)
  case atStart => exact ⟨0, Nat.zero_le _, rfl, ⟨-1, rfl, ⟨rfl⟩⟩, ⟨rfl⟩⟩
  case round =>
    obtain ⟨n, hn, rfl, ⟨z, rfl, hz⟩, hs⟩ := hrel
    by_cases hlt : n < l.length
    · obtain ⟨ad, rfl, hcell⟩ := HV.out.nth n hlt
      obtain ⟨x, hx⟩ : ∃ x, x = l.getD n 0 := ⟨_, rfl⟩
      rw [← hx] at hcell
      have HX := Aside0.mk hx
      clear hx
      by_cases h1 : x ≤ z
      · have d1 : decide (x ≤ z) = true := decide_eq_true h1
        have HE : Aside0 (risL l count = false) := ⟨risL_fails hlt (.inl (by rw [← HX.out, ← hz.out]; exact h1))⟩
        go_wp2_with fail
        go_ret
        exact ⟨ret_b HE.out.symm, rfl⟩
      · have d1 : decide (x ≤ z) = false := decide_eq_false h1
        by_cases h2 : count ≤ x
        · have d2 : decide (count ≤ x) = true := decide_eq_true h2
          have HE : Aside0 (risL l count = false) := ⟨risL_fails hlt (.inr (by rw [← HX.out]; exact h2))⟩
          go_wp2_with fail
          go_ret
          exact ⟨ret_b HE.out.symm, rfl⟩
        · have d2 : decide (count ≤ x) = false := decide_eq_false h2
          have HE : Aside0 (risN l count (n + 1) = true) := ⟨risN_step hs.out (by rw [← HX.out, ← hz.out]; omega) (by rw [← HX.out]; omega)⟩
          have HZ : Aside0 (x = lastP l (n + 1)) := ⟨by rw [HX.out]; simp [lastP]⟩
          go_wp2_with fail
          go_round
          case rel => exact ⟨n + 1, by omega, by go_num, ⟨x, rfl, HZ⟩, HE⟩
          case measure => simp [intOf]; omega
    · have HE : Aside0 (risL l count = true) := ⟨by have h := hs.out; rwa [show n = l.length by omega] at h⟩
      go_wp2_with fail
      go_ret
      exact ⟨ret_b HE.out.symm, rfl⟩

set_option maxHeartbeats 400000 in
theorem clonei_calls {e : Nat} {b0 : Nat} {v : Value} {x : List Int} (w : World) (hv : Sl iv e w b0 v x) (hl : x.length ≤ 10000000) :
    Calls Try.prog 24 #[v] w fun e w' => ∃ v', e = .returned v' ∧ OwnI w' w.heap.size v' x ∧ Below w.heap.size w w' := by
  have HV := Aside0.mk hv
  obtain ⟨A, c, rfl, hc, hm, hR⟩ := hv
  rcases A with _ | ad
  · have h0 : x = [] := by
      cases x with
      | nil => rfl
      | cons y ys => obtain ⟨ad, h1, _⟩ := hR.cell 0 _ rfl; cases h1
    subst h0
    have h1 := Lib.run_eql_slice_nil (P := Try.prog) w 23 3 none 0 c 0 0 Try.underlying23
    clear hR hc HV
    go_enter Try.func24, Try.ntmps24
    go_wp2
    go_ret
    exact ⟨_, rfl, World.ownsRow_nil _ _ _ _, Below.refl _ _⟩
  · have h1 := Lib.run_eql_slice_nil (P := Try.prog) w 23 3 (some ad) x.length c 0 0 Try.underlying23
    clear hR
    have BA : ∀ o : Obj, Below w.heap.size w (w.alloc o) := fun o => (Below.refl _ _).alloc (Nat.le_refl _) _
    have HB := Aside0.mk BA
    clear BA
    go_enter Try.func24, Try.ntmps24
    go_wp2_with (at_builtin; refine append_row iv (fun _ => rfl) rfl (.tmp 5) (.tmp 6) 23 rfl w.heap.size 3 _ _ _ _ Try.underlying23 info_int rfl (by decide) _ [] x _ rfl rfl (World.ownsRow_made w #[] 0 (Nat.le_refl _) (by decide) rfl) (HV.out.below (HB.out _)) (by simp; omega) (by simp) ?_; intro v' w' hown hg _)
    go_ret
    exact ⟨_, rfl, by unfold OwnI; simpa using hown, (HB.out _).grown hg (by simp) (fun k hk => by cases hk; exact Nat.le_refl _)⟩

set_option maxHeartbeats 2000000 in
theorem need_calls {b1 b2 : Nat} {va vb : Value} {a b : List (List UInt8)} (w : World) (ha : SlL w b1 va a) (hb : SlL w b2 vb b) (hlb : b.length ≤ 1000000000) :
    Calls Try.prog 15 #[va, vb] w fun e w' => ∃ v', e = .returned v' ∧ OwnI w' w.heap.size v' (needN a b b.length) ∧ Below w.heap.size w w' := by
  have HA := Aside0.mk ha
  have HB := Aside0.mk hb
  obtain ⟨A, c, rfl, hc, hm⟩ := ha.shape
  obtain ⟨A', c', rfl, hc', hm'⟩ := hb.shape
  clear ha hb
  go_enter Try.func15, Try.ntmps15
  go_wp2_with fail
  go_loopw [4, 9] (fun v i wr => ∃ n : Nat, n ≤ b.length ∧ i = .int .i64 n ∧ Aside0 (OwnI wr w.heap.size v (needN a b n) ∧ Below w.heap.size w wr)) (fun v i wr => b.length - (intOf i).toNat)
  case atStart => exact ⟨0, by omega, rfl, ⟨World.ownsRow_nil _ _ _ _, Below.refl _ _⟩⟩
  case round =>
    obtain ⟨n, hn, rfl, hs⟩ := hrel
    have HL := Aside0.mk (needN_length a b n)
    by_cases hlt : n < b.length
    · obtain ⟨ad', c4, u', A4, cu', he, hu, hcell', hsl'⟩ := (HB.out.below hs.out.2).at n (by omega)
      cases he
      subst hu
      obtain ⟨y, hy⟩ : ∃ y, y = b.getD n [] := ⟨_, rfl⟩
      rw [← hy] at hcell' hsl'
      have HY := Aside0.mk hy
      have HSY := Aside0.mk hsl'
      clear hy hsl'
      by_cases h1 : a.length ≤ n
      · have d1 : decide (a.length ≤ n) = true := decide_eq_true h1
        have HD : Aside0 (needN a b (n + 1) = needN a b n ++ [(n : Int)]) := ⟨by rw [needN, show needB a b n = true by unfold needB; rw [d1]; rfl, if_pos rfl]⟩
        go_wp2_with (at_builtin; go_must (refine append_int rfl rfl (.tmp 27) (.tmp 29) rfl w.heap.size _ (needN a b n) _ _ 1 3 (0, 0) rfl rfl (own_below hs.out.1 ((Below.refl _ _).alloc (Nat.le_refl _) _)) (heap_new rfl) (by have := HL.out; omega) (by have := hs.out.2.size; simp; omega) ?_); intro v3 w3 hl3 hg3)
        have H3 := Aside0.mk (show OwnI w3 w.heap.size v3 (needN a b (n + 1)) ∧ Below w.heap.size w w3 from ⟨by rw [HD.out]; exact hl3, (hs.out.2.alloc hs.out.2.size _).grown hg3 (by have := hs.out.2.size; simp; omega) (own_base hs.out.1)⟩)
        clear hl3 hg3
        go_roundw
        case rel => exact ⟨n + 1, by omega, by go_num, H3⟩
        case measure => simp [intOf]; omega
      · have d1 : decide (a.length ≤ n) = false := decide_eq_false h1
        obtain ⟨ad, c3, u, A3, cu, he, hu, hcell, hsl⟩ := (HA.out.below hs.out.2).at n (by omega)
        cases he
        subst hu
        obtain ⟨x, hx⟩ : ∃ x, x = a.getD n [] := ⟨_, rfl⟩
        rw [← hx] at hcell hsl
        have HX := Aside0.mk hx
        have HSX := Aside0.mk hsl
        have HD0 : Aside0 (needB a b n = (x != y)) := ⟨by unfold needB; rw [d1, HX.out, HY.out]; rfl⟩
        clear hx hsl
        rcases hxy : (x == y) with _ | _
        · have HD : Aside0 (needN a b (n + 1) = needN a b n ++ [(n : Int)]) := ⟨by rw [needN, HD0.out, bne, hxy]; rfl⟩
          have HXY := Aside0.mk hxy
          clear hxy
          go_wp2_with fail
          refine (equal_calls _ HSX.out HSY.out).mono ?_
          rintro e w' ⟨rfl, rfl⟩
          rw [HXY.out]
          go_wp2_with (at_builtin; go_must (refine append_int rfl rfl (.tmp 27) (.tmp 29) rfl w.heap.size _ (needN a b n) _ _ 1 3 (0, 0) rfl rfl (own_below hs.out.1 ((Below.refl _ _).alloc (Nat.le_refl _) _)) (heap_new rfl) (by have := HL.out; omega) (by have := hs.out.2.size; simp; omega) ?_); intro v3 w3 hl3 hg3)
          have H3 := Aside0.mk (show OwnI w3 w.heap.size v3 (needN a b (n + 1)) ∧ Below w.heap.size w w3 from ⟨by rw [HD.out]; exact hl3, (hs.out.2.alloc hs.out.2.size _).grown hg3 (by have := hs.out.2.size; simp; omega) (own_base hs.out.1)⟩)
          clear hl3 hg3
          go_roundw
          case rel => exact ⟨n + 1, by omega, by go_num, H3⟩
          case measure => simp [intOf]; omega
        · have HD : Aside0 (needN a b (n + 1) = needN a b n) := ⟨by rw [needN, HD0.out, bne, hxy]; simp⟩
          have HXY := Aside0.mk hxy
          clear hxy
          go_wp2_with fail
          refine (equal_calls _ HSX.out HSY.out).mono ?_
          rintro e w' ⟨rfl, rfl⟩
          rw [HXY.out]
          go_wp2_with fail
          go_roundw
          case rel => exact ⟨n + 1, by omega, by go_num, ⟨by rw [HD.out]; exact hs.out.1, hs.out.2⟩⟩
          case measure => simp [intOf]; omega
    · have HE : Aside0 (OwnI wr w.heap.size u4 (needN a b b.length) ∧ Below w.heap.size w wr) := ⟨by rw [show b.length = n by omega]; exact hs.out⟩
      clear hs
      go_wp2_with fail
      go_ret
      exact ⟨_, rfl, HE.out.1, HE.out.2⟩

set_option maxHeartbeats 2000000 in
theorem ablock_calls (size : Nat) (m : Int) (w : World) (hs : size ≤ 1000000) (hm : 0 ≤ m ∧ m ≤ 1000000) :
    Calls Try.prog 18 #[.int .i64 size, .int .i64 m] w fun e w' => ∃ v' x, e = .returned v' ∧ OwnB w' w.heap.size v' x ∧ x.length = size ∧ Below w.heap.size w w' := by
  obtain ⟨i0, hi, hz0, hz1, hz2⟩ := info_parts info_u8
  go_enter Try.func18, Try.ntmps18
  go_wp2_with (at_make; go_must (refine wpList_make_full _ rfl _ _ 22 rfl w.heap.size 5 i0 _ 1 Try.underlying22 hi hz0 hz1 _ _ _ _ size rfl rfl rfl rfl (by rw [hz2]; omega) (by simp only [maxLen]; omega) (Nat.le_refl _) ?_); intro w1 hown hgrow; have hz := made_bytes size; simp only [Value.cells, Nat.mul_one] at hown; rw [hz] at hown; clear hz; have H1 := Aside0.mk (show OwnB w1 w.heap.size (.slice (some ⟨w.heap.size, 0, none⟩) size size) (List.replicate size 0) ∧ Below w.heap.size w w1 from ⟨by unfold OwnB; simpa using hown, below_none hgrow⟩); clear hown hgrow)
  go_loopw [6] (fun i wr => ∃ k : Nat, k ≤ size ∧ i = .int .i64 k ∧ Aside0 (∃ x : List UInt8, x.length = size ∧ OwnB wr w.heap.size (.slice (some ⟨w.heap.size, 0, none⟩) size size) x ∧ Below w.heap.size w wr)) (fun i wr => size - (intOf i).toNat)
  case atStart => exact ⟨0, Nat.zero_le _, rfl, ⟨_, List.length_replicate, H1.out.1, H1.out.2⟩⟩
  case round =>
    obtain ⟨k, hk, rfl, hs⟩ := hrel
    clear H1
    by_cases hlt : k < size
    · obtain ⟨x, hx, ho, hb⟩ := hs.out
      obtain ⟨hc1, hf1⟩ := own_at ho k (by omega)
      have HO := Aside0.mk (And.intro hx (And.intro ho hb))
      clear hx ho hb hs
      have HZ : Aside0 (((UInt8.ofNat ((m * 31 + (k : Int) % 256 * 7 + (k : Int) / 16) % 256).toNat).toNat : Int) = (m * 31 + (k : Int) % 256 * 7 + (k : Int) / 16) % 256) := ⟨by
        have h1 := Int.emod_nonneg (m * 31 + (k : Int) % 256 * 7 + (k : Int) / 16) (show (256 : Int) ≠ 0 by decide)
        have h2 := Int.emod_lt_of_pos (m * 31 + (k : Int) % 256 * 7 + (k : Int) / 16) (show (0 : Int) < 256 by decide)
        simp; omega⟩
      go_wp2
      obtain ⟨h1, h2⟩ := own_set HO.out.2.1 k (UInt8.ofNat ((m * 31 + (k : Int) % 256 * 7 + (k : Int) / 16) % 256).toNat)
      rw [HZ.out] at h1 h2
      refine ⟨⟨k + 1, by omega, by go_num, ⟨_, by rw [List.length_set]; exact HO.out.1, h1, HO.out.2.2.grown h2 HO.out.2.2.size (fun k hk => by cases hk; exact Nat.le_refl _)⟩⟩, by simp [intOf]; omega⟩
    · obtain ⟨x, hx, ho, hb⟩ := hs.out
      have HO := Aside0.mk (And.intro hx (And.intro ho hb))
      clear hx ho hb hs
      go_wp2_with fail
      go_ret
      exact ⟨_, x, rfl, HO.out.2.1, HO.out.1, HO.out.2.2⟩
end Go.Proofs.Ytdikconhdbopdaa
