/-
  The reference's Send. No condition but that the net, and the bytes, can be read, and that they are not more than memory.
-/
import Derived.Test.YtmpmngfimeojhaaRNet
namespace Go.Proofs.Ytmpmngfimeojhaa
open Go.RowKit Go.Joins
set_option linter.unusedVariables false
set_option linter.unusedSimpArgs false

theorem own_empty {w : World} {base e k g : Nat} (h : w.heap[g]? = some (.cells #[] e (0, 0))) (hb : base ≤ g) : w.ownsRow base e k (.slice (some ⟨g, 0, none⟩) 0 0) 0 [] :=
  ⟨by simp, .inr ⟨g, 0, #[], rfl, hb, h, Nat.le_refl _, by simp [maxLen], by simp, by simp⟩⟩

/-- One struct in a block of its own, as a slice. -/
theorem slc_one {w : World} {g t b : Nat} {fr : Nat × Nat} {f : Fr} (h : w.heap[g]? = some (.cells #[.int .i64 f.id, .int .i64 f.whom, .int .i64 f.due, f.u] t fr)) : SlC frC t w b (.slice (some ⟨g, 0, none⟩) 1 1) [f] := by
  refine ⟨_, _, rfl, Nat.le_refl _, by simp [maxLen], fun j u hj => ⟨_, rfl, ?_⟩, fun ad hA _ => .inr ⟨_, fr, by cases hA; exact h⟩⟩
  exact World.news_of_block h j u (by simpa [frC] using hj)
theorem below_to {B : Nat} {w w1 w2 : World} (h : Below B w w1) (k : Below w1.heap.size w1 w2) (hB : B ≤ w1.heap.size) : Below B w w2 := below_then h hB k

set_option maxHeartbeats 1000000 in
theorem rsend_bad {v u : Value} (to' delay now : Int) (w : World) (h : sendOk to' delay now = false) :
    Calls Try.prog 18 #[v, .int .i64 to', u, .int .i64 delay, .int .i64 now] w fun e w' => e = .returned (.tuple #[.int .i64 0, .int .i64 1]) ∧ w = w' := by
  have hor := or6 (decide (to' < 0)) (decide (1 < to')) (decide (delay < 0)) (decide (1000000 < delay)) (decide (now < 0)) (decide (1099511627776 < now)) (by
    simpa only [sendOk, Bool.not_eq_false'] using h)
  clear h
  rcases hor with h1 | ⟨h1, h2⟩ | ⟨h1, h2, h3⟩ | ⟨h1, h2, h3, h4⟩ | ⟨h1, h2, h3, h4, h5⟩ | ⟨h1, h2, h3, h4, h5, h6⟩
  all_goals
    go_enter Try.func18, Try.ntmps18
    go_wp2_with fail
    go_ret2
    exact ⟨rfl, rfl⟩

set_option maxHeartbeats 1000000 in
theorem rsend_calls {base g e0 : Nat} {v u : Value} {s : NetS} {b : List UInt8} (to' delay now : Int) (w : World) (N : RNet w base g v s) (hu : Sl bv 5 w base u b) (hl : 0 ≤ s.last ∧ s.last ≤ 1099511627776) (hn : s.fs.length ≤ 1099511627776) (h : sendOk to' delay now = true) :
    Calls Try.prog 18 #[.pointer (some ⟨g, 0, none⟩), .int .i64 to', u, .int .i64 delay, .int .i64 now] w fun e w' => e = .returned (.tuple #[.int .i64 (s.last + 1), .int .i64 0]) ∧ (∃ v', RNet w' base g v' ⟨s.last + 1, s.lost, s.fs ++ [⟨s.last + 1, to', now + delay, b, u⟩]⟩) ∧ Keeps rnT base w w' := by
  unfold sendOk at h
  simp only [Bool.not_eq_true', Bool.or_eq_false_iff] at h
  obtain ⟨⟨⟨⟨⟨h1, h2⟩, h3⟩, h4⟩, h5⟩, h6⟩ := h
  have hb1 : ¬ delay < 0 := by simpa using h3
  have hb2 : ¬ 1000000 < delay := by simpa using h4
  have hb3 : ¬ now < 0 := by simpa using h5
  have hb4 : ¬ 1099511627776 < now := by simpa using h6
  have HN := Aside0.mk N
  have HU := Aside0.mk hu
  obtain ⟨Au, cu, rfl, _⟩ := hu
  obtain ⟨c0, c1, c2, c3⟩ := N.cells
  obtain ⟨A, c, rfl, hc, hm⟩ := N.shape
  obtain ⟨hl1, hl2⟩ := hl
  clear N
  go_enter Try.func18, Try.ntmps18
  go_upto_region 4 with fail
  obtain ⟨N1, K1⟩ := HN.out.setLast (s.last + 1)
  obtain ⟨wx, hwx⟩ : ∃ wx, wx = w.setCell ⟨g, 0, none⟩ (.int .i64 (s.last + 1)) := ⟨_, rfl⟩
  rw [← hwx] at N1 K1 ⊢
  have H1 := Aside0.mk (And.intro N1 K1)
  obtain ⟨d0, d1, d2, d3⟩ := N1.cells
  have hglt := blk_lt N1.box
  have hgne : ¬ g = wx.heap.size := by omega
  have hgne2 : ¬ g = wx.heap.size + 1 := by omega
  clear N1 K1 hwx c0 c1 c2 c3
  have hws : IntKind.i64.wrap (now + delay) = now + delay := IntWalk.i64_in _ (by omega)
  go_region_law (first
    | (refine step_append_rows frC 4 frC_len (by decide) rfl (.tmp 42) (.tmp 46) 49 rfl wx.heap.size 67 67 0 (.agg #[.int .i64 0, .int .i64 0, .int .i64 0, .slice none 0 0]) 48 Try.underlying49 info_rf rfl (by decide) (.slice (some ⟨_, 0, none⟩) 0 0) [] s.fs (.slice A s.fs.length c) rfl rfl (own_empty ?_ ?_) ((SlC.of_own H1.out.1.row 0).below ?_) (fun f hf => frC_one (H1.out.1.bytes f hf)) (by simp; omega) (by first | (simp; done) | (simp; omega)) ?_
       · first | exact heap_new rfl | exact heap_new (by simp) | exact heap_old (heap_new rfl) | exact heap_old (heap_new (by simp))
       · first | exact Nat.le_refl _ | simp
       · repeat (first | exact Below.refl _ _ | refine Below.drew ?_ | refine Below.alloc ?_ (by first | (simp; done) | (simp; omega)) _)
       intro v5 w5 hown5 hgr5 hsh5
       have hb5 : Below wx.heap.size wx w5 := below_grown (by repeat (first | exact Below.refl _ _ | refine Below.drew ?_ | refine Below.alloc ?_ (by first | (simp; done) | (simp; omega)) _)) (by first | (simp; done) | (simp; omega)) hgr5 (fun k hk => by cases hk; first | exact Nat.le_refl _ | simp)
       obtain ⟨A5, n5, c5, rfl⟩ := hsh5
       have N5 := H1.out.1.below hb5
       obtain ⟨e0, e1, e2, e3⟩ := N5.cells
       have H5 := Aside0.mk (And.intro N5 (And.intro hb5 hown5))
       have HG5 := Aside0.mk hgr5
       have hg5 := blk_lt N5.box
       have hg5a : ¬ g = w5.heap.size := by omega
       clear N5 hb5 hown5 hgr5 hg5)
    | (refine step_append_rows frC 4 frC_len (by decide) rfl (.tmp 47) (.tmp 58) 49 rfl wx.heap.size 67 67 0 (.agg #[.int .i64 0, .int .i64 0, .int .i64 0, .slice none 0 0]) 48 Try.underlying49 info_rf rfl (by decide) (.slice A5 n5 c5) ([] ++ s.fs) [⟨s.last + 1, to', now + delay, b, .slice Au b.length cu⟩] _ rfl rfl ?_ ?_ ?_ ?_ ?_ ?_
       · exact own_below H5.out.2.2 (by repeat (first | exact Below.refl _ _ | refine Below.drew ?_ | refine Below.alloc ?_ (by first | (simp; done) | (simp; omega)) _))
       · first | exact slc_one (heap_new rfl) | exact slc_one ((HG5.out.block _ (by first | (simp; done) | (simp; omega)) (by first | (simp [Value.ownBlock]; done) | (simp [Value.ownBlock]; omega) | (intro he; cases he; omega) | (intro he; cases he))).trans (by first | exact heap_new rfl | exact heap_new (by simp) | exact heap_old (heap_new rfl) | exact heap_old (heap_new (by simp))))
       · (intro y hy; rw [List.mem_singleton] at hy; subst hy; exact frC_one HU.out)
       · first | omega | (simp; done) | (simp; omega)
       · (have := H5.out.2.1.size; first | omega | (simp; done) | (simp; omega))
       intro v6 w6 hown6 hgr6 hsh6
       have hb6 : Below wx.heap.size wx w6 := below_grown (below_to H5.out.2.1 (by repeat (first | exact Below.refl _ _ | refine Below.drew ?_ | refine Below.alloc ?_ (by first | (simp; done) | (simp; omega)) _)) H5.out.2.1.size) (by have := H5.out.2.1.size; first | omega | (simp; done) | (simp; omega)) hgr6 (own_base H5.out.2.2)
       obtain ⟨A6, n6, c6, rfl⟩ := hsh6
       have N6 := H1.out.1.below hb6
       obtain ⟨x0, x1, x2, x3⟩ := N6.cells
       have H6 := Aside0.mk (And.intro N6 (And.intro hb6 hown6))
       clear N6 hb6 hown6 hgr6))
  all_goals
    clear hws
    go_wp2_with fail
    go_ret2
    obtain ⟨NR, KR⟩ := RNet.setRow (v' := .slice A6 n6 c6) (fs := s.fs ++ [⟨s.last + 1, to', now + delay, b, .slice Au b.length cu⟩]) HN.out.ge H6.out.1.box (own_mono H6.out.2.2 (by have := HN.out.ge; omega)) (fun f hf => by
      rcases List.mem_append.1 hf with hf | hf
      · exact H6.out.1.bytes f hf
      · rw [List.mem_singleton] at hf
        subst hf
        exact (HU.out.keeps H1.out.2 (by unfold rnT; decide) (Nat.le_refl _)).below H6.out.2.1)
    exact ⟨rfl, ⟨_, NR⟩, (H1.out.2.then_below H6.out.2.1).trans KR⟩
end Go.Proofs.Ytmpmngfimeojhaa
