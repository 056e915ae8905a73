/-
  Deltas that are alike; turned; what is looked at; what the document fixes of chapter 17. No condition but that what comes in can be read.
-/
import Derived.Test.YtdikconhdbopdaaRDelApply
import Derived.Test.YtdikconhdbopdaaRDelNeed
import Derived.Test.YtdikconhdbopdaaRLists
import Derived.Test.YtdikconhdbopdaaWeight
namespace Go.Proofs.Ytdikconhdbopdaa
open Go.RowKit
set_option linter.unusedVariables false
set_option linter.unusedSimpArgs false

set_option maxHeartbeats 4000000 in
set_option maxRecDepth 100000 in
theorem samedelta_true {vr vl vb vr' vl' vb' : Value} {root : List UInt8} {l : List Int} {bs : List (List UInt8)} (size block : Int) (w : World) (h : DelR w vr vl vb root l bs) (h' : DelR w vr' vl' vb' root l bs) :
    Calls Try.prog 12 #[.agg #[.int .i64 size, .int .i64 block, vr, vl, vb], .agg #[.int .i64 size, .int .i64 block, vr', vl', vb']] w fun e w' => e = .returned (.bool true) ∧ Below w.heap.size w w' := by
  obtain ⟨⟨br, hr⟩, ⟨bl, hl⟩, ⟨bb, hb⟩⟩ := h
  obtain ⟨⟨br', hr'⟩, ⟨bl', hl'⟩, ⟨bb', hb'⟩⟩ := h'
  have HR := Aside0.mk hr
  have HL := Aside0.mk hl
  have HB := Aside0.mk hb
  have HR' := Aside0.mk hr'
  have HL' := Aside0.mk hl'
  have HB' := Aside0.mk hb'
  obtain ⟨Ar, cr, rfl, _, hmr, _⟩ := hr
  obtain ⟨Al, cl, rfl, _, hml, _⟩ := hl
  obtain ⟨Ab, cb, rfl, _, hmb⟩ := hb.shape
  obtain ⟨Ar', cr', rfl, _, hmr', _⟩ := hr'
  obtain ⟨Al', cl', rfl, _, hml', _⟩ := hl'
  obtain ⟨Ab', cb', rfl, _, hmb'⟩ := hb'.shape
  obtain ⟨G, hG⟩ : ∃ G, G = w.heap.size := ⟨_, rfl⟩
  have hHB : ∀ o o', Below w.heap.size w ((w.alloc o).alloc o') := fun o o' => ((Below.refl _ _).alloc (Nat.le_refl _) _).alloc (by simp) _
  have HBB := Aside0.mk hHB
  clear hb hb' hHB
  go_enter Try.func12, Try.ntmps12
  go_wp2_with fail
  have HGE := Aside0.mk hG
  rw [← hG]
  clear hG
  have HK : Aside0 (∀ wr : World, wr.heap[G]? = some (.cells #[.int .i64 size, .int .i64 block, .slice Ar root.length cr, .slice Al l.length cl, .slice Ab bs.length cb] 26 (0, 0)) → wr.heap[G + 1]? = some (.cells #[.int .i64 size, .int .i64 block, .slice Ar' root.length cr', .slice Al' l.length cl', .slice Ab' bs.length cb'] 26 (0, 0)) → wr.cell? ⟨G, 3, none⟩ = some (.slice Al l.length cl) ∧ wr.cell? ⟨G + 1, 3, none⟩ = some (.slice Al' l.length cl')) := ⟨fun wr h h' => ⟨(blk h).1 3, (blk h').1 3⟩⟩
  go_loopw [5] (fun i wr => ∃ n : Nat, n ≤ l.length ∧ i = .int .i64 n ∧ Aside0 (wr.heap[G]? = some (.cells #[.int .i64 size, .int .i64 block, .slice Ar root.length cr, .slice Al l.length cl, .slice Ab bs.length cb] 26 (0, 0)) ∧ wr.heap[G + 1]? = some (.cells #[.int .i64 size, .int .i64 block, .slice Ar' root.length cr', .slice Al' l.length cl', .slice Ab' bs.length cb'] 26 (0, 0)) ∧ Below w.heap.size w wr)) (fun i wr => l.length - (intOf i).toNat)
  case atStart => exact ⟨0, Nat.zero_le _, rfl, ⟨heap_old (heap_new HGE.out), heap_new (by rw [HGE.out]; simp), HBB.out _ _⟩⟩
  case round =>
    obtain ⟨n, hn, rfl, hs⟩ := hrel
    obtain ⟨c3, c3'⟩ := HK.out _ hs.out.1 hs.out.2.1
    by_cases hlt : n < l.length
    · obtain ⟨ad, hA, hc⟩ := (HL.out.below hs.out.2.2).nth n hlt
      subst hA
      obtain ⟨ad', hA', hc'⟩ := (HL'.out.below hs.out.2.2).nth n hlt
      subst hA'
      obtain ⟨x, hx⟩ : ∃ x, x = l.getD n 0 := ⟨_, rfl⟩
      rw [← hx] at hc hc'
      have z1 : (0 : Int) ≤ (n : Int) := by omega
      have z2 : (n : Int) < l.length := by omega
      clear hx
      go_wp2_with fail
      go_quiet (fail)
      go_wp2_with fail
      go_roundw
      case rel => exact ⟨n + 1, by omega, by go_num, ⟨below_heap (by first | exact (Below.refl _ _).drew | exact below_drewN (Below.refl _ _) _) hs.out.1, below_heap (by first | exact (Below.refl _ _).drew | exact below_drewN (Below.refl _ _) _) hs.out.2.1, by first | exact hs.out.2.2.drew | exact below_drewN hs.out.2.2 _⟩⟩
      case measure => simp [intOf]; omega
    · have d1 := (blk hs.out.1).1
      have d2 := (blk hs.out.2.1).1
      have K1 := (HR.out.below hs.out.2.2).string (P := Try.prog) Try.underlying22 Try.underlying5 Try.underlying9
      have K2 := (HR'.out.below hs.out.2.2).string (P := Try.prog) Try.underlying22 Try.underlying5 Try.underlying9
      clear c3 c3'
      go_wp2_with fail
      refine (rlists_calls _ (HB.out.below hs.out.2.2) (HB'.out.below hs.out.2.2)).mono ?_
      rintro e w1 ⟨rfl, hb1⟩
      rw [beq_self_eq_true]
      have HB1 := Aside0.mk (below_step hs.out.2.2 hb1)
      clear hb1 K1 K2 d1 d2
      go_wp2_with fail
      go_ret
      exact ⟨rfl, HB1.out⟩

set_option maxHeartbeats 1000000 in
theorem flat17_calls {vr vl vb : Value} (size block : Int) (w : World) (h1 : ∃ A n c, vr = .slice A n c) (h2 : ∃ A n c, vl = .slice A n c) (h3 : ∃ A n c, vb = .slice A n c) :
    Calls Try.prog 13 #[.agg #[.int .i64 size, .int .i64 block, vr, vl, vb]] w fun e w' => e = .returned (.agg #[.int .i64 size, .int .i64 block, vr, vl, vb]) ∧ Below w.heap.size w w' := by
  obtain ⟨Ar, nr, cr, rfl⟩ := h1
  obtain ⟨Al, nl, cl, rfl⟩ := h2
  obtain ⟨Ap, np, cp, rfl⟩ := h3
  go_enter Try.func13, Try.ntmps13
  go_wp2_with fail
  exact bodyPost_ret (v := .agg #[.int .i64 size, .int .i64 block, .slice Ar nr cr, .slice Al nl cl, .slice Ap np cp]) (by simp [results, Try.results13, go_sem]) rfl ⟨rfl, ((Below.refl _ _).alloc (Nat.le_refl _) _).alloc (by simp) _⟩
set_option maxHeartbeats 1000000 in
theorem made17_calls {vr vl vb : Value} (size block : Int) (w : World) (h1 : ∃ A n c, vr = .slice A n c) (h2 : ∃ A n c, vl = .slice A n c) (h3 : ∃ A n c, vb = .slice A n c) :
    Calls Try.prog 10 #[.agg #[.int .i64 size, .int .i64 block, vr, vl, vb]] w fun e w' => e = .returned (.agg #[.int .i64 size, .int .i64 block, vr, vl, vb]) ∧ Below w.heap.size w w' := by
  obtain ⟨Ar, nr, cr, rfl⟩ := h1
  obtain ⟨Al, nl, cl, rfl⟩ := h2
  obtain ⟨Ap, np, cp, rfl⟩ := h3
  go_enter Try.func10, Try.ntmps10
  go_wp2_with fail
  exact bodyPost_ret (v := .agg #[.int .i64 size, .int .i64 block, .slice Ar nr cr, .slice Al nl cl, .slice Ap np cp]) (by simp [results, Try.results10, go_sem]) rfl ⟨rfl, ((Below.refl _ _).alloc (Nat.le_refl _) _).alloc (by simp) _⟩

def BoolAns (P : Prop) (e : Ending) : Prop := ∃ b : Bool, e = .returned (.bool b) ∧ (b = true → P)
set_option maxHeartbeats 1000000 in
theorem small17_calls {vr vl vb : Value} {root : List UInt8} {l : List Int} {bs : List (List UInt8)} (size block : Int) (w : World) (h : DelR w vr vl vb root l bs) :
    Calls Try.prog 4 #[.agg #[.int .i64 size, .int .i64 block, vr, vl, vb]] w fun e w' => BoolAns (wt bs ≤ 4000) e ∧ Below w.heap.size w w' := by
  obtain ⟨⟨br, hr⟩, ⟨bl, hl⟩, ⟨bb, hb⟩⟩ := h
  have HB := Aside0.mk hb
  obtain ⟨Ar, cr, rfl, _, hmr, _⟩ := hr
  obtain ⟨Al, cl, rfl, _, hml, _⟩ := hl
  obtain ⟨Ab, cb, rfl, _, hmb⟩ := hb.shape
  have HB0 : Aside0 (∀ o, Below w.heap.size w (w.alloc o)) := ⟨fun o => (Below.refl _ _).alloc (Nat.le_refl _) _⟩
  clear hb
  go_enter Try.func4, Try.ntmps4
  go_wp2_with fail
  refine (bytes_calls 4000 _ (HB.out.below (HB0.out _)) (by decide)).mono ?_
  rintro e w1 ⟨q, rfl, hq, _, hq3, hb1⟩
  have HB1 := Aside0.mk (below_step (HB0.out _) hb1)
  have c1 := (blk (below_heap hb1 (heap_new rfl))).1
  have HQ := Aside0.mk hq
  clear hb1 hq
  by_cases h1 : q ≤ 4000
  · have d1 : decide (q ≤ 4000) = true := decide_eq_true h1
    by_cases h2 : l.length ≤ 300
    · have d2 : decide (l.length ≤ 300) = true := decide_eq_true h2
      go_wp2_with fail
      go_ret
      exact ⟨⟨_, rfl, fun _ => by have := HQ.out h1; omega⟩, HB1.out⟩
    · have d2 : decide (l.length ≤ 300) = false := decide_eq_false h2
      go_wp2_with fail
      go_ret
      exact ⟨⟨_, rfl, fun _ => by have := HQ.out h1; omega⟩, HB1.out⟩
  · have d1 : decide (q ≤ 4000) = false := decide_eq_false h1
    go_wp2_with fail
    go_ret
    exact ⟨⟨false, rfl, fun h => by cases h⟩, HB1.out⟩
end Go.Proofs.Ytdikconhdbopdaa
