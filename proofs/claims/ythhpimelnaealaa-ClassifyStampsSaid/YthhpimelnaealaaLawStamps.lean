/-
  What has another Stamp is never rot; what has the same one is rot just if its bytes, or its meta, are others. No condition: for every input.
-/
import Derived.Test.YthhpimelnaealaaLaw8
import Derived.Test.YthhpimelnaealaaAlike
namespace Go.Proofs.Ythhpimelnaealaa
open Go.RowKit
set_option linter.unusedVariables false
set_option linter.unusedSimpArgs false

set_option maxHeartbeats 1000000 in
theorem stamps_big {e b0 e' b0' : Nat} (p : ByteArray) (k s m t stamp : Int) (v v' : Value) (x y : List UInt8) (size meta_ : Int) (w : World) (hp : p.size ≤ 9223372036854775807)
    (hx : Sl bv e w b0 v x) (hy : Sl bv e' w b0' v' y) (hbig : ¬ sumI p.size [(x.length : Int), (y.length : Int)] ≤ 1000) :
    Calls Try.prog 4 #[.agg #[.string p, .int .i64 k, .int .i64 s, .int .i64 m, .int .u64 t], .int .u64 stamp, v, v', .int .i64 size, .int .i64 meta_] w
      fun e w' => e = .returned (.bool true) ∧ Below w.heap.size w w' := by
  obtain ⟨A, c, rfl, _, hm, _⟩ := hx
  obtain ⟨A', c', rfl, _, hm', _⟩ := hy
  have HG : Aside0 (decide (1000 < sumI p.size [(x.length : Int), (y.length : Int)]) = true) := ⟨by simp; omega⟩
  clear hbig
  go_enter Try.func4, Try.ntmps4
  go_wp2_with fail
  refine (sum_calls (e := 3) (b0 := 0) _ _ [(x.length : Int), (y.length : Int)] _ (by omega) (by omega) (by intro z hz; simp at hz; rcases hz with rfl | rfl <;> omega)
    (Sl.at (cur := #[.int .i64 x.length, .int .i64 y.length]) (fr := (0, 0)) (by repeat (first | exact heap_new (by simp) | refine heap_old ?_)) rfl rfl (by simp) (by simp))).mono ?_
  rintro e w1 ⟨rfl, rfl⟩
  have hg := HG.out
  generalize sumI p.size [(x.length : Int), (y.length : Int)] = q at *
  go_wp2_with fail
  refine (awake_calls _).mono ?_
  rintro e w1 ⟨rfl, hb⟩
  go_wp2_with fail
  go_ret
  refine ⟨rfl, below_step ?_ hb⟩
  exact ((Below.refl _ _).alloc (Nat.le_refl _) _).alloc (by simp) _

set_option maxHeartbeats 1000000 in
theorem stamps_small {e b0 e' b0' : Nat} (p : ByteArray) (k s m t stamp : Int) (v v' : Value) (x y : List UInt8) (size meta_ : Int) (w : World) (hp : p.size ≤ 9223372036854775807)
    (hx : Sl bv e w b0 v x) (hy : Sl bv e' w b0' v' y) (hsmall : sumI p.size [(x.length : Int), (y.length : Int)] ≤ 1000) :
    Calls Try.prog 4 #[.agg #[.string p, .int .i64 k, .int .i64 s, .int .i64 m, .int .u64 t], .int .u64 stamp, v, v', .int .i64 size, .int .i64 meta_] w
      fun e w' => e = .returned (.bool true) ∧ Below w.heap.size w w' := by
  have hs := sumI_le 1000 (by decide) _ _ hsmall
  simp at hs
  have HX := Aside0.mk hx
  have HY := Aside0.mk hy
  obtain ⟨A, c, rfl, _, hm, _⟩ := hx
  obtain ⟨A', c', rfl, _, hm', _⟩ := hy
  have HG : Aside0 (decide (1000 < sumI p.size [(x.length : Int), (y.length : Int)]) = false) := ⟨by simp; omega⟩
  clear hsmall
  rcases bool_cases (stamp != t) with h1 | h1
  · rcases bool_cases (size == s) with h2 | h2 <;> rcases bool_cases (x == y) with h3 | h3
    · have HOF : Aside0 (ofS 1 s m t x true 1 size meta_ stamp true y = 5) := ⟨by
        have e1 : (t == stamp) = false := by rw [beq_swap]; simpa using h1
        have e2 : (s == size) = true := by rw [beq_swap]; exact h2
        simp [ofS, e1, e2, h3]⟩
      go_enter Try.func4, Try.ntmps4
      go_wp2_with fail
      refine (sum_calls (e := 3) (b0 := 0) _ _ [(x.length : Int), (y.length : Int)] _ (by omega) (by omega) (by intro z hz; simp at hz; rcases hz with rfl | rfl <;> omega)
        (Sl.at (cur := #[.int .i64 x.length, .int .i64 y.length]) (fr := (0, 0)) (by repeat (first | exact heap_new (by simp) | refine heap_old ?_)) rfl rfl (by simp) (by simp))).mono ?_
      rintro e w1 ⟨rfl, rfl⟩
      have hg := HG.out
      generalize sumI p.size [(x.length : Int), (y.length : Int)] = q at *
      go_wp2_with fail
      have B2 := Aside0.mk (show ∀ o o' : Obj, Below w.heap.size w ((w.alloc o).alloc o') from fun o o' => ((Below.refl _ _).alloc (Nat.le_refl _) _).alloc (by simp) _)
      refine (ref_calls _ _ _ _ _ _ _ _ (HX.out.below (B2.out _ _)) (by omega)).mono ?_
      rintro e w1 ⟨rv, rfl, hR, hb⟩
      rw [if_pos (by decide)] at hR
      have HR := Aside0.mk hR
      obtain ⟨A2, c2, rfl, _⟩ := hR
      have H0 := Aside0.mk (below_heap hb (g := w.heap.size) (o := .cells #[.string p, .int .i64 1, .int .i64 s, .int .i64 m, .int .u64 t] 28 (0, 0)) (by repeat (first | exact heap_new (by simp) | refine heap_old ?_)))
      have HB := Aside0.mk (below_step (B2.out _ _) hb)
      clear hb
      obtain ⟨c0, f0⟩ := blk H0.out
      have l0 := blk_lt H0.out
      go_wp2_with fail
      have B3 := Aside0.mk (show ∀ o o' : Obj, Below w1.heap.size w1 ((w1.alloc o).alloc o') from fun o o' => ((Below.refl _ _).alloc (Nat.le_refl _) _).alloc (by simp) _)
      refine (of_calls _ _ _ _ _ _ x _ _ _ _ _ _ _ _ y _ (HR.out.below (B3.out _ _)) ((HY.out.below HB.out).below (B3.out _ _))).mono ?_
      rintro e w2 ⟨rfl, hb⟩
      have H0' := Aside0.mk (below_heap hb (heap_old (heap_old H0.out)))
      have HB2 := Aside0.mk (below_step HB.out (below_step (B3.out _ _) hb))
      have k1 := (HX.out.below HB2.out).string (P := Try.prog) Try.underlying29 Try.underlying5 Try.underlying9
      have k2 := (HY.out.below HB2.out).string (P := Try.prog) Try.underlying29 Try.underlying5 Try.underlying9
      have k3 : ((str x).toList == (str y).toList) = (x == y) := by rw [str_toList, str_toList]
      rw [h3] at k3
      clear hb c0 f0 l0
      obtain ⟨c0, f0⟩ := blk H0'.out
      have l0 := blk_lt H0'.out
      rw [HOF.out]
      go_wp2_with fail
      refine (rotten_calls _ _).mono ?_
      rintro e w3 ⟨rfl, rfl⟩
      go_wp2_with fail
      refine (awake_calls _).mono ?_
      rintro e w3 ⟨rfl, hb⟩
      go_wp2_with fail
      go_ret
      exact ⟨rfl, below_step HB2.out hb⟩
    · have HOF : Aside0 (ofS 1 s m t x true 1 size meta_ stamp true y = 4) := ⟨by
        have e1 : (t == stamp) = false := by rw [beq_swap]; simpa using h1
        have e2 : (s == size) = true := by rw [beq_swap]; exact h2
        simp [ofS, e1, e2, h3]⟩
      go_enter Try.func4, Try.ntmps4
      go_wp2_with fail
      refine (sum_calls (e := 3) (b0 := 0) _ _ [(x.length : Int), (y.length : Int)] _ (by omega) (by omega) (by intro z hz; simp at hz; rcases hz with rfl | rfl <;> omega)
        (Sl.at (cur := #[.int .i64 x.length, .int .i64 y.length]) (fr := (0, 0)) (by repeat (first | exact heap_new (by simp) | refine heap_old ?_)) rfl rfl (by simp) (by simp))).mono ?_
      rintro e w1 ⟨rfl, rfl⟩
      have hg := HG.out
      generalize sumI p.size [(x.length : Int), (y.length : Int)] = q at *
      go_wp2_with fail
      have B2 := Aside0.mk (show ∀ o o' : Obj, Below w.heap.size w ((w.alloc o).alloc o') from fun o o' => ((Below.refl _ _).alloc (Nat.le_refl _) _).alloc (by simp) _)
      refine (ref_calls _ _ _ _ _ _ _ _ (HX.out.below (B2.out _ _)) (by omega)).mono ?_
      rintro e w1 ⟨rv, rfl, hR, hb⟩
      rw [if_pos (by decide)] at hR
      have HR := Aside0.mk hR
      obtain ⟨A2, c2, rfl, _⟩ := hR
      have H0 := Aside0.mk (below_heap hb (g := w.heap.size) (o := .cells #[.string p, .int .i64 1, .int .i64 s, .int .i64 m, .int .u64 t] 28 (0, 0)) (by repeat (first | exact heap_new (by simp) | refine heap_old ?_)))
      have HB := Aside0.mk (below_step (B2.out _ _) hb)
      clear hb
      obtain ⟨c0, f0⟩ := blk H0.out
      have l0 := blk_lt H0.out
      go_wp2_with fail
      have B3 := Aside0.mk (show ∀ o o' : Obj, Below w1.heap.size w1 ((w1.alloc o).alloc o') from fun o o' => ((Below.refl _ _).alloc (Nat.le_refl _) _).alloc (by simp) _)
      refine (of_calls _ _ _ _ _ _ x _ _ _ _ _ _ _ _ y _ (HR.out.below (B3.out _ _)) ((HY.out.below HB.out).below (B3.out _ _))).mono ?_
      rintro e w2 ⟨rfl, hb⟩
      have H0' := Aside0.mk (below_heap hb (heap_old (heap_old H0.out)))
      have HB2 := Aside0.mk (below_step HB.out (below_step (B3.out _ _) hb))
      have k1 := (HX.out.below HB2.out).string (P := Try.prog) Try.underlying29 Try.underlying5 Try.underlying9
      have k2 := (HY.out.below HB2.out).string (P := Try.prog) Try.underlying29 Try.underlying5 Try.underlying9
      have k3 : ((str x).toList == (str y).toList) = (x == y) := by rw [str_toList, str_toList]
      rw [h3] at k3
      clear hb c0 f0 l0
      obtain ⟨c0, f0⟩ := blk H0'.out
      have l0 := blk_lt H0'.out
      rw [HOF.out]
      go_wp2_with fail
      refine (rotten_calls _ _).mono ?_
      rintro e w3 ⟨rfl, rfl⟩
      go_wp2_with fail
      refine (awake_calls _).mono ?_
      rintro e w3 ⟨rfl, hb⟩
      go_wp2_with fail
      go_ret
      exact ⟨rfl, below_step HB2.out hb⟩
    · have HOF : Aside0 (ofS 1 s m t x true 1 size meta_ stamp true y = 4) := ⟨by
        have e1 : (t == stamp) = false := by rw [beq_swap]; simpa using h1
        have e2 : (s == size) = false := by rw [beq_swap]; exact h2
        simp [ofS, e1, e2, h3]⟩
      go_enter Try.func4, Try.ntmps4
      go_wp2_with fail
      refine (sum_calls (e := 3) (b0 := 0) _ _ [(x.length : Int), (y.length : Int)] _ (by omega) (by omega) (by intro z hz; simp at hz; rcases hz with rfl | rfl <;> omega)
        (Sl.at (cur := #[.int .i64 x.length, .int .i64 y.length]) (fr := (0, 0)) (by repeat (first | exact heap_new (by simp) | refine heap_old ?_)) rfl rfl (by simp) (by simp))).mono ?_
      rintro e w1 ⟨rfl, rfl⟩
      have hg := HG.out
      generalize sumI p.size [(x.length : Int), (y.length : Int)] = q at *
      go_wp2_with fail
      have B2 := Aside0.mk (show ∀ o o' : Obj, Below w.heap.size w ((w.alloc o).alloc o') from fun o o' => ((Below.refl _ _).alloc (Nat.le_refl _) _).alloc (by simp) _)
      refine (ref_calls _ _ _ _ _ _ _ _ (HX.out.below (B2.out _ _)) (by omega)).mono ?_
      rintro e w1 ⟨rv, rfl, hR, hb⟩
      rw [if_pos (by decide)] at hR
      have HR := Aside0.mk hR
      obtain ⟨A2, c2, rfl, _⟩ := hR
      have H0 := Aside0.mk (below_heap hb (g := w.heap.size) (o := .cells #[.string p, .int .i64 1, .int .i64 s, .int .i64 m, .int .u64 t] 28 (0, 0)) (by repeat (first | exact heap_new (by simp) | refine heap_old ?_)))
      have HB := Aside0.mk (below_step (B2.out _ _) hb)
      clear hb
      obtain ⟨c0, f0⟩ := blk H0.out
      have l0 := blk_lt H0.out
      go_wp2_with fail
      have B3 := Aside0.mk (show ∀ o o' : Obj, Below w1.heap.size w1 ((w1.alloc o).alloc o') from fun o o' => ((Below.refl _ _).alloc (Nat.le_refl _) _).alloc (by simp) _)
      refine (of_calls _ _ _ _ _ _ x _ _ _ _ _ _ _ _ y _ (HR.out.below (B3.out _ _)) ((HY.out.below HB.out).below (B3.out _ _))).mono ?_
      rintro e w2 ⟨rfl, hb⟩
      have H0' := Aside0.mk (below_heap hb (heap_old (heap_old H0.out)))
      have HB2 := Aside0.mk (below_step HB.out (below_step (B3.out _ _) hb))
      have k1 := (HX.out.below HB2.out).string (P := Try.prog) Try.underlying29 Try.underlying5 Try.underlying9
      have k2 := (HY.out.below HB2.out).string (P := Try.prog) Try.underlying29 Try.underlying5 Try.underlying9
      have k3 : ((str x).toList == (str y).toList) = (x == y) := by rw [str_toList, str_toList]
      rw [h3] at k3
      clear hb c0 f0 l0
      obtain ⟨c0, f0⟩ := blk H0'.out
      have l0 := blk_lt H0'.out
      rw [HOF.out]
      go_wp2_with fail
      refine (rotten_calls _ _).mono ?_
      rintro e w3 ⟨rfl, rfl⟩
      go_wp2_with fail
      refine (awake_calls _).mono ?_
      rintro e w3 ⟨rfl, hb⟩
      go_wp2_with fail
      go_ret
      exact ⟨rfl, below_step HB2.out hb⟩
    · have HOF : Aside0 (ofS 1 s m t x true 1 size meta_ stamp true y = 4) := ⟨by
        have e1 : (t == stamp) = false := by rw [beq_swap]; simpa using h1
        have e2 : (s == size) = false := by rw [beq_swap]; exact h2
        simp [ofS, e1, e2, h3]⟩
      go_enter Try.func4, Try.ntmps4
      go_wp2_with fail
      refine (sum_calls (e := 3) (b0 := 0) _ _ [(x.length : Int), (y.length : Int)] _ (by omega) (by omega) (by intro z hz; simp at hz; rcases hz with rfl | rfl <;> omega)
        (Sl.at (cur := #[.int .i64 x.length, .int .i64 y.length]) (fr := (0, 0)) (by repeat (first | exact heap_new (by simp) | refine heap_old ?_)) rfl rfl (by simp) (by simp))).mono ?_
      rintro e w1 ⟨rfl, rfl⟩
      have hg := HG.out
      generalize sumI p.size [(x.length : Int), (y.length : Int)] = q at *
      go_wp2_with fail
      have B2 := Aside0.mk (show ∀ o o' : Obj, Below w.heap.size w ((w.alloc o).alloc o') from fun o o' => ((Below.refl _ _).alloc (Nat.le_refl _) _).alloc (by simp) _)
      refine (ref_calls _ _ _ _ _ _ _ _ (HX.out.below (B2.out _ _)) (by omega)).mono ?_
      rintro e w1 ⟨rv, rfl, hR, hb⟩
      rw [if_pos (by decide)] at hR
      have HR := Aside0.mk hR
      obtain ⟨A2, c2, rfl, _⟩ := hR
      have H0 := Aside0.mk (below_heap hb (g := w.heap.size) (o := .cells #[.string p, .int .i64 1, .int .i64 s, .int .i64 m, .int .u64 t] 28 (0, 0)) (by repeat (first | exact heap_new (by simp) | refine heap_old ?_)))
      have HB := Aside0.mk (below_step (B2.out _ _) hb)
      clear hb
      obtain ⟨c0, f0⟩ := blk H0.out
      have l0 := blk_lt H0.out
      go_wp2_with fail
      have B3 := Aside0.mk (show ∀ o o' : Obj, Below w1.heap.size w1 ((w1.alloc o).alloc o') from fun o o' => ((Below.refl _ _).alloc (Nat.le_refl _) _).alloc (by simp) _)
      refine (of_calls _ _ _ _ _ _ x _ _ _ _ _ _ _ _ y _ (HR.out.below (B3.out _ _)) ((HY.out.below HB.out).below (B3.out _ _))).mono ?_
      rintro e w2 ⟨rfl, hb⟩
      have H0' := Aside0.mk (below_heap hb (heap_old (heap_old H0.out)))
      have HB2 := Aside0.mk (below_step HB.out (below_step (B3.out _ _) hb))
      have k1 := (HX.out.below HB2.out).string (P := Try.prog) Try.underlying29 Try.underlying5 Try.underlying9
      have k2 := (HY.out.below HB2.out).string (P := Try.prog) Try.underlying29 Try.underlying5 Try.underlying9
      have k3 : ((str x).toList == (str y).toList) = (x == y) := by rw [str_toList, str_toList]
      rw [h3] at k3
      clear hb c0 f0 l0
      obtain ⟨c0, f0⟩ := blk H0'.out
      have l0 := blk_lt H0'.out
      rw [HOF.out]
      go_wp2_with fail
      refine (rotten_calls _ _).mono ?_
      rintro e w3 ⟨rfl, rfl⟩
      go_wp2_with fail
      refine (awake_calls _).mono ?_
      rintro e w3 ⟨rfl, hb⟩
      go_wp2_with fail
      go_ret
      exact ⟨rfl, below_step HB2.out hb⟩
  · rcases bool_cases (size == s) with h2 | h2 <;> rcases bool_cases (x == y) with h3 | h3 <;> rcases bool_cases (meta_ != m) with h4 | h4
    · have HOF : Aside0 (ofS 1 s m t x true 1 size meta_ stamp true y = 6) := ⟨by
        have e1 : (t == stamp) = true := by rw [beq_swap]; simpa using h1
        have e2 : (s == size) = true := by rw [beq_swap]; exact h2
        have e4 : (m == meta_) = false := by rw [beq_swap]; simpa using h4
        simp [ofS, e1, e2, h3, e4]⟩
      have h5 : (meta_ == m) = false := by simpa using h4
      go_enter Try.func4, Try.ntmps4
      go_wp2_with fail
      refine (sum_calls (e := 3) (b0 := 0) _ _ [(x.length : Int), (y.length : Int)] _ (by omega) (by omega) (by intro z hz; simp at hz; rcases hz with rfl | rfl <;> omega)
        (Sl.at (cur := #[.int .i64 x.length, .int .i64 y.length]) (fr := (0, 0)) (by repeat (first | exact heap_new (by simp) | refine heap_old ?_)) rfl rfl (by simp) (by simp))).mono ?_
      rintro e w1 ⟨rfl, rfl⟩
      have hg := HG.out
      generalize sumI p.size [(x.length : Int), (y.length : Int)] = q at *
      go_wp2_with fail
      have B2 := Aside0.mk (show ∀ o o' : Obj, Below w.heap.size w ((w.alloc o).alloc o') from fun o o' => ((Below.refl _ _).alloc (Nat.le_refl _) _).alloc (by simp) _)
      refine (ref_calls _ _ _ _ _ _ _ _ (HX.out.below (B2.out _ _)) (by omega)).mono ?_
      rintro e w1 ⟨rv, rfl, hR, hb⟩
      rw [if_pos (by decide)] at hR
      have HR := Aside0.mk hR
      obtain ⟨A2, c2, rfl, _⟩ := hR
      have H0 := Aside0.mk (below_heap hb (g := w.heap.size) (o := .cells #[.string p, .int .i64 1, .int .i64 s, .int .i64 m, .int .u64 t] 28 (0, 0)) (by repeat (first | exact heap_new (by simp) | refine heap_old ?_)))
      have HB := Aside0.mk (below_step (B2.out _ _) hb)
      clear hb
      obtain ⟨c0, f0⟩ := blk H0.out
      have l0 := blk_lt H0.out
      go_wp2_with fail
      have B3 := Aside0.mk (show ∀ o o' : Obj, Below w1.heap.size w1 ((w1.alloc o).alloc o') from fun o o' => ((Below.refl _ _).alloc (Nat.le_refl _) _).alloc (by simp) _)
      refine (of_calls _ _ _ _ _ _ x _ _ _ _ _ _ _ _ y _ (HR.out.below (B3.out _ _)) ((HY.out.below HB.out).below (B3.out _ _))).mono ?_
      rintro e w2 ⟨rfl, hb⟩
      have H0' := Aside0.mk (below_heap hb (heap_old (heap_old H0.out)))
      have HB2 := Aside0.mk (below_step HB.out (below_step (B3.out _ _) hb))
      have k1 := (HX.out.below HB2.out).string (P := Try.prog) Try.underlying29 Try.underlying5 Try.underlying9
      have k2 := (HY.out.below HB2.out).string (P := Try.prog) Try.underlying29 Try.underlying5 Try.underlying9
      have k3 : ((str x).toList == (str y).toList) = (x == y) := by rw [str_toList, str_toList]
      rw [h3] at k3
      clear hb c0 f0 l0
      obtain ⟨c0, f0⟩ := blk H0'.out
      have l0 := blk_lt H0'.out
      rw [HOF.out]
      go_wp2_with fail
      refine (rotten_calls _ _).mono ?_
      rintro e w3 ⟨rfl, rfl⟩
      go_wp2_with fail
      refine (awake_calls _).mono ?_
      rintro e w3 ⟨rfl, hb⟩
      go_wp2_with fail
      go_ret
      exact ⟨rfl, below_step HB2.out hb⟩
    · have HOF : Aside0 (ofS 1 s m t x true 1 size meta_ stamp true y = 1) := ⟨by
        have e1 : (t == stamp) = true := by rw [beq_swap]; simpa using h1
        have e2 : (s == size) = true := by rw [beq_swap]; exact h2
        have e4 : (m == meta_) = true := by rw [beq_swap]; simpa using h4
        simp [ofS, e1, e2, h3, e4]⟩
      have h5 : (meta_ == m) = true := by simpa using h4
      go_enter Try.func4, Try.ntmps4
      go_wp2_with fail
      refine (sum_calls (e := 3) (b0 := 0) _ _ [(x.length : Int), (y.length : Int)] _ (by omega) (by omega) (by intro z hz; simp at hz; rcases hz with rfl | rfl <;> omega)
        (Sl.at (cur := #[.int .i64 x.length, .int .i64 y.length]) (fr := (0, 0)) (by repeat (first | exact heap_new (by simp) | refine heap_old ?_)) rfl rfl (by simp) (by simp))).mono ?_
      rintro e w1 ⟨rfl, rfl⟩
      have hg := HG.out
      generalize sumI p.size [(x.length : Int), (y.length : Int)] = q at *
      go_wp2_with fail
      have B2 := Aside0.mk (show ∀ o o' : Obj, Below w.heap.size w ((w.alloc o).alloc o') from fun o o' => ((Below.refl _ _).alloc (Nat.le_refl _) _).alloc (by simp) _)
      refine (ref_calls _ _ _ _ _ _ _ _ (HX.out.below (B2.out _ _)) (by omega)).mono ?_
      rintro e w1 ⟨rv, rfl, hR, hb⟩
      rw [if_pos (by decide)] at hR
      have HR := Aside0.mk hR
      obtain ⟨A2, c2, rfl, _⟩ := hR
      have H0 := Aside0.mk (below_heap hb (g := w.heap.size) (o := .cells #[.string p, .int .i64 1, .int .i64 s, .int .i64 m, .int .u64 t] 28 (0, 0)) (by repeat (first | exact heap_new (by simp) | refine heap_old ?_)))
      have HB := Aside0.mk (below_step (B2.out _ _) hb)
      clear hb
      obtain ⟨c0, f0⟩ := blk H0.out
      have l0 := blk_lt H0.out
      go_wp2_with fail
      have B3 := Aside0.mk (show ∀ o o' : Obj, Below w1.heap.size w1 ((w1.alloc o).alloc o') from fun o o' => ((Below.refl _ _).alloc (Nat.le_refl _) _).alloc (by simp) _)
      refine (of_calls _ _ _ _ _ _ x _ _ _ _ _ _ _ _ y _ (HR.out.below (B3.out _ _)) ((HY.out.below HB.out).below (B3.out _ _))).mono ?_
      rintro e w2 ⟨rfl, hb⟩
      have H0' := Aside0.mk (below_heap hb (heap_old (heap_old H0.out)))
      have HB2 := Aside0.mk (below_step HB.out (below_step (B3.out _ _) hb))
      have k1 := (HX.out.below HB2.out).string (P := Try.prog) Try.underlying29 Try.underlying5 Try.underlying9
      have k2 := (HY.out.below HB2.out).string (P := Try.prog) Try.underlying29 Try.underlying5 Try.underlying9
      have k3 : ((str x).toList == (str y).toList) = (x == y) := by rw [str_toList, str_toList]
      rw [h3] at k3
      clear hb c0 f0 l0
      obtain ⟨c0, f0⟩ := blk H0'.out
      have l0 := blk_lt H0'.out
      rw [HOF.out]
      go_wp2_with fail
      refine (rotten_calls _ _).mono ?_
      rintro e w3 ⟨rfl, rfl⟩
      go_wp2_with fail
      refine (awake_calls _).mono ?_
      rintro e w3 ⟨rfl, hb⟩
      go_wp2_with fail
      go_ret
      exact ⟨rfl, below_step HB2.out hb⟩
    · have HOF : Aside0 (ofS 1 s m t x true 1 size meta_ stamp true y = 6) := ⟨by
        have e1 : (t == stamp) = true := by rw [beq_swap]; simpa using h1
        have e2 : (s == size) = true := by rw [beq_swap]; exact h2
        have e4 : (m == meta_) = false := by rw [beq_swap]; simpa using h4
        simp [ofS, e1, e2, h3, e4]⟩
      have h5 : (meta_ == m) = false := by simpa using h4
      go_enter Try.func4, Try.ntmps4
      go_wp2_with fail
      refine (sum_calls (e := 3) (b0 := 0) _ _ [(x.length : Int), (y.length : Int)] _ (by omega) (by omega) (by intro z hz; simp at hz; rcases hz with rfl | rfl <;> omega)
        (Sl.at (cur := #[.int .i64 x.length, .int .i64 y.length]) (fr := (0, 0)) (by repeat (first | exact heap_new (by simp) | refine heap_old ?_)) rfl rfl (by simp) (by simp))).mono ?_
      rintro e w1 ⟨rfl, rfl⟩
      have hg := HG.out
      generalize sumI p.size [(x.length : Int), (y.length : Int)] = q at *
      go_wp2_with fail
      have B2 := Aside0.mk (show ∀ o o' : Obj, Below w.heap.size w ((w.alloc o).alloc o') from fun o o' => ((Below.refl _ _).alloc (Nat.le_refl _) _).alloc (by simp) _)
      refine (ref_calls _ _ _ _ _ _ _ _ (HX.out.below (B2.out _ _)) (by omega)).mono ?_
      rintro e w1 ⟨rv, rfl, hR, hb⟩
      rw [if_pos (by decide)] at hR
      have HR := Aside0.mk hR
      obtain ⟨A2, c2, rfl, _⟩ := hR
      have H0 := Aside0.mk (below_heap hb (g := w.heap.size) (o := .cells #[.string p, .int .i64 1, .int .i64 s, .int .i64 m, .int .u64 t] 28 (0, 0)) (by repeat (first | exact heap_new (by simp) | refine heap_old ?_)))
      have HB := Aside0.mk (below_step (B2.out _ _) hb)
      clear hb
      obtain ⟨c0, f0⟩ := blk H0.out
      have l0 := blk_lt H0.out
      go_wp2_with fail
      have B3 := Aside0.mk (show ∀ o o' : Obj, Below w1.heap.size w1 ((w1.alloc o).alloc o') from fun o o' => ((Below.refl _ _).alloc (Nat.le_refl _) _).alloc (by simp) _)
      refine (of_calls _ _ _ _ _ _ x _ _ _ _ _ _ _ _ y _ (HR.out.below (B3.out _ _)) ((HY.out.below HB.out).below (B3.out _ _))).mono ?_
      rintro e w2 ⟨rfl, hb⟩
      have H0' := Aside0.mk (below_heap hb (heap_old (heap_old H0.out)))
      have HB2 := Aside0.mk (below_step HB.out (below_step (B3.out _ _) hb))
      have k1 := (HX.out.below HB2.out).string (P := Try.prog) Try.underlying29 Try.underlying5 Try.underlying9
      have k2 := (HY.out.below HB2.out).string (P := Try.prog) Try.underlying29 Try.underlying5 Try.underlying9
      have k3 : ((str x).toList == (str y).toList) = (x == y) := by rw [str_toList, str_toList]
      rw [h3] at k3
      clear hb c0 f0 l0
      obtain ⟨c0, f0⟩ := blk H0'.out
      have l0 := blk_lt H0'.out
      rw [HOF.out]
      go_wp2_with fail
      refine (rotten_calls _ _).mono ?_
      rintro e w3 ⟨rfl, rfl⟩
      go_wp2_with fail
      refine (awake_calls _).mono ?_
      rintro e w3 ⟨rfl, hb⟩
      go_wp2_with fail
      go_ret
      exact ⟨rfl, below_step HB2.out hb⟩
    · have HOF : Aside0 (ofS 1 s m t x true 1 size meta_ stamp true y = 6) := ⟨by
        have e1 : (t == stamp) = true := by rw [beq_swap]; simpa using h1
        have e2 : (s == size) = true := by rw [beq_swap]; exact h2
        have e4 : (m == meta_) = true := by rw [beq_swap]; simpa using h4
        simp [ofS, e1, e2, h3, e4]⟩
      have h5 : (meta_ == m) = true := by simpa using h4
      go_enter Try.func4, Try.ntmps4
      go_wp2_with fail
      refine (sum_calls (e := 3) (b0 := 0) _ _ [(x.length : Int), (y.length : Int)] _ (by omega) (by omega) (by intro z hz; simp at hz; rcases hz with rfl | rfl <;> omega)
        (Sl.at (cur := #[.int .i64 x.length, .int .i64 y.length]) (fr := (0, 0)) (by repeat (first | exact heap_new (by simp) | refine heap_old ?_)) rfl rfl (by simp) (by simp))).mono ?_
      rintro e w1 ⟨rfl, rfl⟩
      have hg := HG.out
      generalize sumI p.size [(x.length : Int), (y.length : Int)] = q at *
      go_wp2_with fail
      have B2 := Aside0.mk (show ∀ o o' : Obj, Below w.heap.size w ((w.alloc o).alloc o') from fun o o' => ((Below.refl _ _).alloc (Nat.le_refl _) _).alloc (by simp) _)
      refine (ref_calls _ _ _ _ _ _ _ _ (HX.out.below (B2.out _ _)) (by omega)).mono ?_
      rintro e w1 ⟨rv, rfl, hR, hb⟩
      rw [if_pos (by decide)] at hR
      have HR := Aside0.mk hR
      obtain ⟨A2, c2, rfl, _⟩ := hR
      have H0 := Aside0.mk (below_heap hb (g := w.heap.size) (o := .cells #[.string p, .int .i64 1, .int .i64 s, .int .i64 m, .int .u64 t] 28 (0, 0)) (by repeat (first | exact heap_new (by simp) | refine heap_old ?_)))
      have HB := Aside0.mk (below_step (B2.out _ _) hb)
      clear hb
      obtain ⟨c0, f0⟩ := blk H0.out
      have l0 := blk_lt H0.out
      go_wp2_with fail
      have B3 := Aside0.mk (show ∀ o o' : Obj, Below w1.heap.size w1 ((w1.alloc o).alloc o') from fun o o' => ((Below.refl _ _).alloc (Nat.le_refl _) _).alloc (by simp) _)
      refine (of_calls _ _ _ _ _ _ x _ _ _ _ _ _ _ _ y _ (HR.out.below (B3.out _ _)) ((HY.out.below HB.out).below (B3.out _ _))).mono ?_
      rintro e w2 ⟨rfl, hb⟩
      have H0' := Aside0.mk (below_heap hb (heap_old (heap_old H0.out)))
      have HB2 := Aside0.mk (below_step HB.out (below_step (B3.out _ _) hb))
      have k1 := (HX.out.below HB2.out).string (P := Try.prog) Try.underlying29 Try.underlying5 Try.underlying9
      have k2 := (HY.out.below HB2.out).string (P := Try.prog) Try.underlying29 Try.underlying5 Try.underlying9
      have k3 : ((str x).toList == (str y).toList) = (x == y) := by rw [str_toList, str_toList]
      rw [h3] at k3
      clear hb c0 f0 l0
      obtain ⟨c0, f0⟩ := blk H0'.out
      have l0 := blk_lt H0'.out
      rw [HOF.out]
      go_wp2_with fail
      refine (rotten_calls _ _).mono ?_
      rintro e w3 ⟨rfl, rfl⟩
      go_wp2_with fail
      refine (awake_calls _).mono ?_
      rintro e w3 ⟨rfl, hb⟩
      go_wp2_with fail
      go_ret
      exact ⟨rfl, below_step HB2.out hb⟩
    · have HOF : Aside0 (ofS 1 s m t x true 1 size meta_ stamp true y = 6) := ⟨by
        have e1 : (t == stamp) = true := by rw [beq_swap]; simpa using h1
        have e2 : (s == size) = false := by rw [beq_swap]; exact h2
        have e4 : (m == meta_) = false := by rw [beq_swap]; simpa using h4
        simp [ofS, e1, e2, h3, e4]⟩
      have h5 : (meta_ == m) = false := by simpa using h4
      go_enter Try.func4, Try.ntmps4
      go_wp2_with fail
      refine (sum_calls (e := 3) (b0 := 0) _ _ [(x.length : Int), (y.length : Int)] _ (by omega) (by omega) (by intro z hz; simp at hz; rcases hz with rfl | rfl <;> omega)
        (Sl.at (cur := #[.int .i64 x.length, .int .i64 y.length]) (fr := (0, 0)) (by repeat (first | exact heap_new (by simp) | refine heap_old ?_)) rfl rfl (by simp) (by simp))).mono ?_
      rintro e w1 ⟨rfl, rfl⟩
      have hg := HG.out
      generalize sumI p.size [(x.length : Int), (y.length : Int)] = q at *
      go_wp2_with fail
      have B2 := Aside0.mk (show ∀ o o' : Obj, Below w.heap.size w ((w.alloc o).alloc o') from fun o o' => ((Below.refl _ _).alloc (Nat.le_refl _) _).alloc (by simp) _)
      refine (ref_calls _ _ _ _ _ _ _ _ (HX.out.below (B2.out _ _)) (by omega)).mono ?_
      rintro e w1 ⟨rv, rfl, hR, hb⟩
      rw [if_pos (by decide)] at hR
      have HR := Aside0.mk hR
      obtain ⟨A2, c2, rfl, _⟩ := hR
      have H0 := Aside0.mk (below_heap hb (g := w.heap.size) (o := .cells #[.string p, .int .i64 1, .int .i64 s, .int .i64 m, .int .u64 t] 28 (0, 0)) (by repeat (first | exact heap_new (by simp) | refine heap_old ?_)))
      have HB := Aside0.mk (below_step (B2.out _ _) hb)
      clear hb
      obtain ⟨c0, f0⟩ := blk H0.out
      have l0 := blk_lt H0.out
      go_wp2_with fail
      have B3 := Aside0.mk (show ∀ o o' : Obj, Below w1.heap.size w1 ((w1.alloc o).alloc o') from fun o o' => ((Below.refl _ _).alloc (Nat.le_refl _) _).alloc (by simp) _)
      refine (of_calls _ _ _ _ _ _ x _ _ _ _ _ _ _ _ y _ (HR.out.below (B3.out _ _)) ((HY.out.below HB.out).below (B3.out _ _))).mono ?_
      rintro e w2 ⟨rfl, hb⟩
      have H0' := Aside0.mk (below_heap hb (heap_old (heap_old H0.out)))
      have HB2 := Aside0.mk (below_step HB.out (below_step (B3.out _ _) hb))
      have k1 := (HX.out.below HB2.out).string (P := Try.prog) Try.underlying29 Try.underlying5 Try.underlying9
      have k2 := (HY.out.below HB2.out).string (P := Try.prog) Try.underlying29 Try.underlying5 Try.underlying9
      have k3 : ((str x).toList == (str y).toList) = (x == y) := by rw [str_toList, str_toList]
      rw [h3] at k3
      clear hb c0 f0 l0
      obtain ⟨c0, f0⟩ := blk H0'.out
      have l0 := blk_lt H0'.out
      rw [HOF.out]
      go_wp2_with fail
      refine (rotten_calls _ _).mono ?_
      rintro e w3 ⟨rfl, rfl⟩
      go_wp2_with fail
      refine (awake_calls _).mono ?_
      rintro e w3 ⟨rfl, hb⟩
      go_wp2_with fail
      go_ret
      exact ⟨rfl, below_step HB2.out hb⟩
    · have HOF : Aside0 (ofS 1 s m t x true 1 size meta_ stamp true y = 6) := ⟨by
        have e1 : (t == stamp) = true := by rw [beq_swap]; simpa using h1
        have e2 : (s == size) = false := by rw [beq_swap]; exact h2
        have e4 : (m == meta_) = true := by rw [beq_swap]; simpa using h4
        simp [ofS, e1, e2, h3, e4]⟩
      have h5 : (meta_ == m) = true := by simpa using h4
      go_enter Try.func4, Try.ntmps4
      go_wp2_with fail
      refine (sum_calls (e := 3) (b0 := 0) _ _ [(x.length : Int), (y.length : Int)] _ (by omega) (by omega) (by intro z hz; simp at hz; rcases hz with rfl | rfl <;> omega)
        (Sl.at (cur := #[.int .i64 x.length, .int .i64 y.length]) (fr := (0, 0)) (by repeat (first | exact heap_new (by simp) | refine heap_old ?_)) rfl rfl (by simp) (by simp))).mono ?_
      rintro e w1 ⟨rfl, rfl⟩
      have hg := HG.out
      generalize sumI p.size [(x.length : Int), (y.length : Int)] = q at *
      go_wp2_with fail
      have B2 := Aside0.mk (show ∀ o o' : Obj, Below w.heap.size w ((w.alloc o).alloc o') from fun o o' => ((Below.refl _ _).alloc (Nat.le_refl _) _).alloc (by simp) _)
      refine (ref_calls _ _ _ _ _ _ _ _ (HX.out.below (B2.out _ _)) (by omega)).mono ?_
      rintro e w1 ⟨rv, rfl, hR, hb⟩
      rw [if_pos (by decide)] at hR
      have HR := Aside0.mk hR
      obtain ⟨A2, c2, rfl, _⟩ := hR
      have H0 := Aside0.mk (below_heap hb (g := w.heap.size) (o := .cells #[.string p, .int .i64 1, .int .i64 s, .int .i64 m, .int .u64 t] 28 (0, 0)) (by repeat (first | exact heap_new (by simp) | refine heap_old ?_)))
      have HB := Aside0.mk (below_step (B2.out _ _) hb)
      clear hb
      obtain ⟨c0, f0⟩ := blk H0.out
      have l0 := blk_lt H0.out
      go_wp2_with fail
      have B3 := Aside0.mk (show ∀ o o' : Obj, Below w1.heap.size w1 ((w1.alloc o).alloc o') from fun o o' => ((Below.refl _ _).alloc (Nat.le_refl _) _).alloc (by simp) _)
      refine (of_calls _ _ _ _ _ _ x _ _ _ _ _ _ _ _ y _ (HR.out.below (B3.out _ _)) ((HY.out.below HB.out).below (B3.out _ _))).mono ?_
      rintro e w2 ⟨rfl, hb⟩
      have H0' := Aside0.mk (below_heap hb (heap_old (heap_old H0.out)))
      have HB2 := Aside0.mk (below_step HB.out (below_step (B3.out _ _) hb))
      have k1 := (HX.out.below HB2.out).string (P := Try.prog) Try.underlying29 Try.underlying5 Try.underlying9
      have k2 := (HY.out.below HB2.out).string (P := Try.prog) Try.underlying29 Try.underlying5 Try.underlying9
      have k3 : ((str x).toList == (str y).toList) = (x == y) := by rw [str_toList, str_toList]
      rw [h3] at k3
      clear hb c0 f0 l0
      obtain ⟨c0, f0⟩ := blk H0'.out
      have l0 := blk_lt H0'.out
      rw [HOF.out]
      go_wp2_with fail
      refine (rotten_calls _ _).mono ?_
      rintro e w3 ⟨rfl, rfl⟩
      go_wp2_with fail
      refine (awake_calls _).mono ?_
      rintro e w3 ⟨rfl, hb⟩
      go_wp2_with fail
      go_ret
      exact ⟨rfl, below_step HB2.out hb⟩
    · have HOF : Aside0 (ofS 1 s m t x true 1 size meta_ stamp true y = 6) := ⟨by
        have e1 : (t == stamp) = true := by rw [beq_swap]; simpa using h1
        have e2 : (s == size) = false := by rw [beq_swap]; exact h2
        have e4 : (m == meta_) = false := by rw [beq_swap]; simpa using h4
        simp [ofS, e1, e2, h3, e4]⟩
      have h5 : (meta_ == m) = false := by simpa using h4
      go_enter Try.func4, Try.ntmps4
      go_wp2_with fail
      refine (sum_calls (e := 3) (b0 := 0) _ _ [(x.length : Int), (y.length : Int)] _ (by omega) (by omega) (by intro z hz; simp at hz; rcases hz with rfl | rfl <;> omega)
        (Sl.at (cur := #[.int .i64 x.length, .int .i64 y.length]) (fr := (0, 0)) (by repeat (first | exact heap_new (by simp) | refine heap_old ?_)) rfl rfl (by simp) (by simp))).mono ?_
      rintro e w1 ⟨rfl, rfl⟩
      have hg := HG.out
      generalize sumI p.size [(x.length : Int), (y.length : Int)] = q at *
      go_wp2_with fail
      have B2 := Aside0.mk (show ∀ o o' : Obj, Below w.heap.size w ((w.alloc o).alloc o') from fun o o' => ((Below.refl _ _).alloc (Nat.le_refl _) _).alloc (by simp) _)
      refine (ref_calls _ _ _ _ _ _ _ _ (HX.out.below (B2.out _ _)) (by omega)).mono ?_
      rintro e w1 ⟨rv, rfl, hR, hb⟩
      rw [if_pos (by decide)] at hR
      have HR := Aside0.mk hR
      obtain ⟨A2, c2, rfl, _⟩ := hR
      have H0 := Aside0.mk (below_heap hb (g := w.heap.size) (o := .cells #[.string p, .int .i64 1, .int .i64 s, .int .i64 m, .int .u64 t] 28 (0, 0)) (by repeat (first | exact heap_new (by simp) | refine heap_old ?_)))
      have HB := Aside0.mk (below_step (B2.out _ _) hb)
      clear hb
      obtain ⟨c0, f0⟩ := blk H0.out
      have l0 := blk_lt H0.out
      go_wp2_with fail
      have B3 := Aside0.mk (show ∀ o o' : Obj, Below w1.heap.size w1 ((w1.alloc o).alloc o') from fun o o' => ((Below.refl _ _).alloc (Nat.le_refl _) _).alloc (by simp) _)
      refine (of_calls _ _ _ _ _ _ x _ _ _ _ _ _ _ _ y _ (HR.out.below (B3.out _ _)) ((HY.out.below HB.out).below (B3.out _ _))).mono ?_
      rintro e w2 ⟨rfl, hb⟩
      have H0' := Aside0.mk (below_heap hb (heap_old (heap_old H0.out)))
      have HB2 := Aside0.mk (below_step HB.out (below_step (B3.out _ _) hb))
      have k1 := (HX.out.below HB2.out).string (P := Try.prog) Try.underlying29 Try.underlying5 Try.underlying9
      have k2 := (HY.out.below HB2.out).string (P := Try.prog) Try.underlying29 Try.underlying5 Try.underlying9
      have k3 : ((str x).toList == (str y).toList) = (x == y) := by rw [str_toList, str_toList]
      rw [h3] at k3
      clear hb c0 f0 l0
      obtain ⟨c0, f0⟩ := blk H0'.out
      have l0 := blk_lt H0'.out
      rw [HOF.out]
      go_wp2_with fail
      refine (rotten_calls _ _).mono ?_
      rintro e w3 ⟨rfl, rfl⟩
      go_wp2_with fail
      refine (awake_calls _).mono ?_
      rintro e w3 ⟨rfl, hb⟩
      go_wp2_with fail
      go_ret
      exact ⟨rfl, below_step HB2.out hb⟩
    · have HOF : Aside0 (ofS 1 s m t x true 1 size meta_ stamp true y = 6) := ⟨by
        have e1 : (t == stamp) = true := by rw [beq_swap]; simpa using h1
        have e2 : (s == size) = false := by rw [beq_swap]; exact h2
        have e4 : (m == meta_) = true := by rw [beq_swap]; simpa using h4
        simp [ofS, e1, e2, h3, e4]⟩
      have h5 : (meta_ == m) = true := by simpa using h4
      go_enter Try.func4, Try.ntmps4
      go_wp2_with fail
      refine (sum_calls (e := 3) (b0 := 0) _ _ [(x.length : Int), (y.length : Int)] _ (by omega) (by omega) (by intro z hz; simp at hz; rcases hz with rfl | rfl <;> omega)
        (Sl.at (cur := #[.int .i64 x.length, .int .i64 y.length]) (fr := (0, 0)) (by repeat (first | exact heap_new (by simp) | refine heap_old ?_)) rfl rfl (by simp) (by simp))).mono ?_
      rintro e w1 ⟨rfl, rfl⟩
      have hg := HG.out
      generalize sumI p.size [(x.length : Int), (y.length : Int)] = q at *
      go_wp2_with fail
      have B2 := Aside0.mk (show ∀ o o' : Obj, Below w.heap.size w ((w.alloc o).alloc o') from fun o o' => ((Below.refl _ _).alloc (Nat.le_refl _) _).alloc (by simp) _)
      refine (ref_calls _ _ _ _ _ _ _ _ (HX.out.below (B2.out _ _)) (by omega)).mono ?_
      rintro e w1 ⟨rv, rfl, hR, hb⟩
      rw [if_pos (by decide)] at hR
      have HR := Aside0.mk hR
      obtain ⟨A2, c2, rfl, _⟩ := hR
      have H0 := Aside0.mk (below_heap hb (g := w.heap.size) (o := .cells #[.string p, .int .i64 1, .int .i64 s, .int .i64 m, .int .u64 t] 28 (0, 0)) (by repeat (first | exact heap_new (by simp) | refine heap_old ?_)))
      have HB := Aside0.mk (below_step (B2.out _ _) hb)
      clear hb
      obtain ⟨c0, f0⟩ := blk H0.out
      have l0 := blk_lt H0.out
      go_wp2_with fail
      have B3 := Aside0.mk (show ∀ o o' : Obj, Below w1.heap.size w1 ((w1.alloc o).alloc o') from fun o o' => ((Below.refl _ _).alloc (Nat.le_refl _) _).alloc (by simp) _)
      refine (of_calls _ _ _ _ _ _ x _ _ _ _ _ _ _ _ y _ (HR.out.below (B3.out _ _)) ((HY.out.below HB.out).below (B3.out _ _))).mono ?_
      rintro e w2 ⟨rfl, hb⟩
      have H0' := Aside0.mk (below_heap hb (heap_old (heap_old H0.out)))
      have HB2 := Aside0.mk (below_step HB.out (below_step (B3.out _ _) hb))
      have k1 := (HX.out.below HB2.out).string (P := Try.prog) Try.underlying29 Try.underlying5 Try.underlying9
      have k2 := (HY.out.below HB2.out).string (P := Try.prog) Try.underlying29 Try.underlying5 Try.underlying9
      have k3 : ((str x).toList == (str y).toList) = (x == y) := by rw [str_toList, str_toList]
      rw [h3] at k3
      clear hb c0 f0 l0
      obtain ⟨c0, f0⟩ := blk H0'.out
      have l0 := blk_lt H0'.out
      rw [HOF.out]
      go_wp2_with fail
      refine (rotten_calls _ _).mono ?_
      rintro e w3 ⟨rfl, rfl⟩
      go_wp2_with fail
      refine (awake_calls _).mono ?_
      rintro e w3 ⟨rfl, hb⟩
      go_wp2_with fail
      go_ret
      exact ⟨rfl, below_step HB2.out hb⟩
end Go.Proofs.Ythhpimelnaealaa
