/-
  A directory is the same, or has another meta, and never is rot, or an edit; what became of another kind is told so; what is gone, or new, too. No condition: for every input.
-/
import Derived.Test.YthhpimelnaealaaLaw8
namespace Go.Proofs.Ythhpimelnaealaa
open Go.RowKit
set_option linter.unusedVariables false
set_option linter.unusedSimpArgs false

set_option maxHeartbeats 1000000 in
theorem dirs_big {e b0 : Nat} (p : ByteArray) (k s m t stamp meta_ : Int) (v : Value) (x : List UInt8) (w : World)
    (hx : Sl bv e w b0 v x) (hbig : 200 < p.size ∨ 200 < x.length) :
    Calls Try.prog 5 #[.agg #[.string p, .int .i64 k, .int .i64 s, .int .i64 m, .int .u64 t], .int .u64 stamp, .int .i64 meta_, v] w
      fun e w' => e = .returned (.bool true) ∧ Below w.heap.size w w' := by
  obtain ⟨A, c, rfl, _, hm, _⟩ := hx
  by_cases h1 : 200 < p.size
  · have h1' : decide (200 < p.size) = true := by simpa using h1
    clear hbig
    go_enter Try.func5, Try.ntmps5
    go_wp2_with fail
    refine (awake_calls _).mono ?_
    rintro e w1 ⟨rfl, hb⟩
    go_wp2_with fail
    go_ret
    exact ⟨rfl, below_step ((Below.refl _ _).alloc (Nat.le_refl _) _) hb⟩
  · have h1' : decide (200 < p.size) = false := by simpa using h1
    have h2 : 200 < x.length := by omega
    have h2' : decide (200 < x.length) = true := by simpa using h2
    clear hbig
    go_enter Try.func5, Try.ntmps5
    go_wp2_with fail
    refine (awake_calls _).mono ?_
    rintro e w1 ⟨rfl, hb⟩
    go_wp2_with fail
    go_ret
    exact ⟨rfl, below_step ((Below.refl _ _).alloc (Nat.le_refl _) _) hb⟩

set_option maxHeartbeats 1000000 in
theorem dirs_small {e b0 : Nat} (p : ByteArray) (k s m t stamp meta_ : Int) (v : Value) (x : List UInt8) (w : World)
    (hx : Sl bv e w b0 v x) (h1 : ¬ 200 < p.size) (h2 : ¬ 200 < x.length) (dd : Bool × Bool) (hd1 : (stamp == t) = dd.1) (hd2 : (meta_ == m) = dd.2) :
    Calls Try.prog 5 #[.agg #[.string p, .int .i64 k, .int .i64 s, .int .i64 m, .int .u64 t], .int .u64 stamp, .int .i64 meta_, v] w
      fun e w' => e = .returned (.bool true) ∧ Below w.heap.size w w' := by
  have HX := Aside0.mk hx
  obtain ⟨A, c, rfl, _, hm, _⟩ := hx
  have h1' : decide (200 < p.size) = false := by simpa using h1
  have h2' : decide (200 < x.length) = false := by simpa using h2
  have W1 : Aside0 (ofS 2 s meta_ stamp [] true 2 s m t true x = if dd.1 = true then (if dd.2 = true then 1 else 5) else 5) := ⟨by
    have e1 : (stamp == t) = dd.1 := hd1
    rcases dd with ⟨d1, d2⟩
    cases d1 <;> cases d2 <;> simp_all [ofS, dirS]⟩
  have W2 : Aside0 (ofS 1 s meta_ stamp [] true 2 s m t true x = 7) := ⟨by simp [ofS]⟩
  have W3 : Aside0 (ofS 2 s meta_ stamp [] true 2 s m t false x = 3) := ⟨by simp [ofS]⟩
  have W4 : Aside0 (ofS 2 s meta_ stamp [] false 2 s m t true x = 2) := ⟨by simp [ofS]⟩
  have W5 : Aside0 (ofS 2 s meta_ stamp [] false 2 s m t false x = 0) := ⟨by simp [ofS]⟩
  have HD1 := Aside0.mk hd1
  have HD2 := Aside0.mk hd2
  clear hd1 hd2
  rcases dd with ⟨d1, d2⟩
  cases d1 <;> cases d2
  all_goals
    have hd1 := HD1.out
    have hd2 := HD2.out
    simp only at hd1 hd2
    have W1' := W1.out
    simp only [Bool.false_eq_true, if_true, if_false, ↓reduceIte] at W1'
    have W1'' := Aside0.mk W1'
    clear W1 W1' HD1 HD2
    go_enter Try.func5, Try.ntmps5
    go_wp2_with fail
    have B1 := Aside0.mk (show ∀ o : Obj, Below w.heap.size w (w.alloc o) from fun o => (Below.refl _ _).alloc (Nat.le_refl _) _)
    refine (ref_calls _ _ _ _ _ _ _ _ (HX.out.below (B1.out _)) (by omega)).mono ?_
    rintro e w1 ⟨rv, rfl, hR, hb⟩
    rw [if_neg (by decide)] at hR
    have HR := Aside0.mk hR
    obtain ⟨A2, c2, rfl, _⟩ := hR
    have H0 := Aside0.mk (below_heap hb (g := w.heap.size) (o := .cells #[.string p, .int .i64 2, .int .i64 s, .int .i64 m, .int .u64 t] 28 (0, 0)) (by repeat (first | exact heap_new (by simp) | refine heap_old ?_)))
    have HB := Aside0.mk (below_step (B1.out _) hb)
    clear hb
    obtain ⟨c0, f0⟩ := blk H0.out
    have l0 := blk_lt H0.out
    have l1 : w.heap.size < w1.heap.size + 1 := by omega
    have l2 : w.heap.size < w1.heap.size + 1 + 1 := by omega
    go_wp2_with fail
    have B3 := Aside0.mk (show ∀ o o' o'' : Obj, Below w1.heap.size w1 (((w1.alloc o).alloc o').alloc o'') from fun o o' o'' => (((Below.refl _ _).alloc (Nat.le_refl _) _).alloc (by simp) _).alloc (by simp; omega) _)
    refine (of_calls _ _ _ _ _ _ [] _ _ _ _ _ _ _ _ x _ (HR.out.below (B3.out _ _ _)) ((HX.out.below HB.out).below (B3.out _ _ _))).mono ?_
    rintro e w2 ⟨rfl, hb⟩
    rw [W1''.out]
    have H0' := Aside0.mk (below_heap hb (heap_old (heap_old (heap_old H0.out))))
    have H1' := Aside0.mk (below_heap hb (g := w1.heap.size) (o := .cells #[.string p, .int .i64 2, .int .i64 s, .int .i64 meta_, .int .u64 stamp, .slice A2 0 c2] 32 (0, 0)) (by repeat (first | exact heap_new (by simp) | refine heap_old ?_)))
    have H3' := Aside0.mk (below_heap hb (g := w1.heap.size + 1 + 1) (o := .cells #[.string p, .int .i64 1, .int .i64 s, .int .i64 meta_, .int .u64 stamp, .slice A2 0 c2] 32 (0, 0)) (by repeat (first | exact heap_new (by simp) | refine heap_old ?_)))
    have HB2 := Aside0.mk (below_step HB.out (below_step (B3.out _ _ _) hb))
    have HR2 := Aside0.mk ((HR.out.below (B3.out _ _ _)).below hb)
    clear hb c0 f0 l0 l1 l2
    obtain ⟨c0, f0⟩ := blk H0'.out
    obtain ⟨c1, f1⟩ := blk H1'.out
    obtain ⟨c3, f3⟩ := blk H3'.out
    go_wp2_with fail
    refine (of_calls _ _ _ _ _ _ [] _ _ _ _ _ _ _ _ x _ HR2.out (HX.out.below HB2.out)).mono ?_
    rintro e w3 ⟨rfl, hb⟩
    rw [W2.out]
    have G0 := Aside0.mk (below_heap hb H0'.out)
    have G1 := Aside0.mk (below_heap hb H1'.out)
    have GB := Aside0.mk (below_step HB2.out hb)
    have GR := Aside0.mk (HR2.out.below hb)
    clear hb c0 f0 c1 f1 c3 f3 H3' H0' H1' HB2 HR2
    have H0' := G0
    have H1' := G1
    have HB2 := GB
    have HR2 := GR
    clear G0 G1 GB GR
    obtain ⟨c0, f0⟩ := blk H0'.out
    obtain ⟨c1, f1⟩ := blk H1'.out
    go_wp2_with fail
    refine (of_calls _ _ _ _ _ _ [] _ _ _ _ _ _ _ _ x _ HR2.out (HX.out.below HB2.out)).mono ?_
    rintro e w4 ⟨rfl, hb⟩
    rw [W3.out]
    have G0 := Aside0.mk (below_heap hb H0'.out)
    have G1 := Aside0.mk (below_heap hb H1'.out)
    have GB := Aside0.mk (below_step HB2.out hb)
    have GR := Aside0.mk (HR2.out.below hb)
    clear hb c0 f0 c1 f1 H0' H1' HB2 HR2
    have H0' := G0
    have H1' := G1
    have HB2 := GB
    have HR2 := GR
    clear G0 G1 GB GR
    obtain ⟨c0, f0⟩ := blk H0'.out
    obtain ⟨c1, f1⟩ := blk H1'.out
    go_wp2_with fail
    refine (of_calls _ _ _ _ _ _ [] _ _ _ _ _ _ _ _ x _ HR2.out (HX.out.below HB2.out)).mono ?_
    rintro e w5 ⟨rfl, hb⟩
    rw [W4.out]
    have G0 := Aside0.mk (below_heap hb H0'.out)
    have G1 := Aside0.mk (below_heap hb H1'.out)
    have GB := Aside0.mk (below_step HB2.out hb)
    have GR := Aside0.mk (HR2.out.below hb)
    clear hb c0 f0 c1 f1 H0' H1' HB2 HR2
    have H0' := G0
    have H1' := G1
    have HB2 := GB
    have HR2 := GR
    clear G0 G1 GB GR
    obtain ⟨c0, f0⟩ := blk H0'.out
    obtain ⟨c1, f1⟩ := blk H1'.out
    go_wp2_with fail
    refine (of_calls _ _ _ _ _ _ [] _ _ _ _ _ _ _ _ x _ HR2.out (HX.out.below HB2.out)).mono ?_
    rintro e w6 ⟨rfl, hb⟩
    rw [W5.out]
    have G0 := Aside0.mk (below_heap hb H0'.out)
    have G1 := Aside0.mk (below_heap hb H1'.out)
    have GB := Aside0.mk (below_step HB2.out hb)
    have GR := Aside0.mk (HR2.out.below hb)
    clear hb c0 f0 c1 f1 H0' H1' HB2 HR2
    have H0' := G0
    have H1' := G1
    have HB2 := GB
    have HR2 := GR
    clear G0 G1 GB GR
    obtain ⟨c0, f0⟩ := blk H0'.out
    obtain ⟨c1, f1⟩ := blk H1'.out
    go_wp2_with fail
    refine (awake_calls _).mono ?_
    rintro e w7 ⟨rfl, hb⟩
    go_wp2_with fail
    go_ret
    exact ⟨rfl, below_step HB2.out hb⟩
end Go.Proofs.Ythhpimelnaealaa
