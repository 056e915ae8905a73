/-
  The reference's Lose and Double. No condition but that the net can be read, and that it is not more than memory.
-/
import Derived.Test.YtmpmngfimeojhaaRNetSend
namespace Go.Proofs.Ytmpmngfimeojhaa
open Go.RowKit Go.Joins
set_option linter.unusedVariables false
set_option linter.unusedSimpArgs false

theorem slc_take {e b gr n cap : Nat} {w : World} {fs : List Fr} (h : SlC frC e w b (.slice (some ⟨gr, 0, none⟩) n cap) fs) (i : Nat) (hi : i ≤ fs.length) : SlC frC e w b (.slice (some ⟨gr, 0, none⟩) i cap) (fs.take i) := by
  obtain ⟨A, c, he, hc, hm, hR⟩ := h
  cases he
  refine ⟨_, cap, by rw [List.length_take, Nat.min_eq_left hi], by rw [List.length_take]; omega, hm, fun j u hj => ?_, fun ad hA hne => hR.home ad hA ?_⟩
  · rw [flat_take frC_len, List.getElem?_take] at hj
    split at hj
    · exact hR.cell j u hj
    · cases hj
  · intro h0
    rw [flat_take frC_len, h0] at hne
    simp at hne
theorem slc_drop {e b gr n cap : Nat} {w : World} {fs : List Fr} (h : SlC frC e w b (.slice (some ⟨gr, 0, none⟩) n cap) fs) (i : Nat) (hi : i + 1 ≤ fs.length) {Ad : Addr} (hA : (if cap = i + 1 then some (⟨gr, 0, none⟩ : Addr) else some ⟨gr, (i + 1) * 4, none⟩) = some Ad) : SlC frC e w b (.slice (some Ad) (fs.length - (i + 1)) (cap - (i + 1))) (fs.drop (i + 1)) := by
  obtain ⟨A, c, he, hc, hm, hR⟩ := h
  cases he
  have hl : (fs.drop (i + 1)).length = fs.length - (i + 1) := List.length_drop
  split at hA
  · rename_i hcap
    cases hA
    have h0 : fs.drop (i + 1) = [] := List.drop_of_length_le (by omega)
    refine ⟨_, cap - (i + 1), by rw [hl], by rw [hl]; omega, by omega, fun j u hj => ?_, fun ad hA hne => ?_⟩
    · rw [h0] at hj; simp at hj
    · rw [h0] at hne; simp at hne
  · cases hA
    refine ⟨_, cap - (i + 1), by rw [hl], by rw [hl]; omega, by omega, fun j u hj => ?_, fun ad hA hne => ?_⟩
    · rw [flat_drop frC_len, List.getElem?_drop] at hj
      obtain ⟨ad, h1, h2⟩ := hR.cell _ u hj
      cases h1
      refine ⟨_, rfl, ?_⟩
      have hadr : ∀ (k j : Nat), (⟨gr, k, none⟩ : Addr).add j = ⟨gr, k + j, none⟩ := fun k j => by unfold Addr.add; split <;> simp_all
      rw [hadr] at h2 ⊢
      rwa [Nat.zero_add] at h2
    · cases hA
      refine hR.home ⟨gr, 0, none⟩ rfl ?_
      intro h0
      rw [flat_drop frC_len, h0] at hne
      simp at hne

theorem rlose_bad {base g : Nat} {v : Value} {s : NetS} (id : Int) (w : World) (N : RNet w base g v s) (h : idxI (fun f => f.id == id) s.fs = -1) :
    Calls Try.prog 19 #[.pointer (some ⟨g, 0, none⟩), .int .i64 id] w fun e w' => e = .returned (.int .i64 5) ∧ w = w' := by
  have hx := at_calls id w N
  rw [h] at hx
  go_enter Try.func19, Try.ntmps19
  go_wp2_with fail
  refine hx.mono ?_
  rintro e w1 ⟨rfl, rfl⟩
  go_wp2_with fail
  go_ret
  exact ⟨rfl, rfl⟩
theorem rdouble_bad {base g : Nat} {v : Value} {s : NetS} (id : Int) (w : World) (N : RNet w base g v s) (h : idxI (fun f => f.id == id) s.fs = -1) :
    Calls Try.prog 20 #[.pointer (some ⟨g, 0, none⟩), .int .i64 id] w fun e w' => e = .returned (.tuple #[.int .i64 0, .int .i64 5]) ∧ w = w' := by
  have hx := at_calls id w N
  rw [h] at hx
  go_enter Try.func20, Try.ntmps20
  go_wp2_with fail
  refine hx.mono ?_
  rintro e w1 ⟨rfl, rfl⟩
  go_wp2_with fail
  go_ret2
  exact ⟨rfl, rfl⟩

set_option maxHeartbeats 2000000 in
theorem rlose_calls {base g : Nat} {v : Value} {s : NetS} (id : Int) (wx : World) (N : RNet wx base g v s) (i : Nat) (hi : i < s.fs.length) (h : idxI (fun f => f.id == id) s.fs = i) (hl : 0 ≤ s.lost ∧ s.lost ≤ 1099511627776) (hn : s.fs.length ≤ 1099511627776) :
    Calls Try.prog 19 #[.pointer (some ⟨g, 0, none⟩), .int .i64 id] wx fun e w' => e = .returned (.int .i64 0) ∧ (∃ v', RNet w' base g v' ⟨s.last, s.lost + 1, s.fs.eraseIdx i⟩) ∧ Keeps rnT base wx w' := by
  have hx := at_calls id wx N
  rw [h] at hx
  obtain ⟨gr, cap, rfl⟩ : ∃ gr cap, v = .slice (some ⟨gr, 0, none⟩) s.fs.length cap := by
    rcases N.row.2 with ⟨_, h0⟩ | ⟨g', cap, cur, rfl, _⟩
    · omega
    · exact ⟨_, _, rfl⟩
  obtain ⟨A, c, he, hca, hm⟩ := N.shape
  cases he
  have hmx : cap ≤ 9223372036854775807 := by simp only [maxLen] at hm; omega
  obtain ⟨hl1, hl2⟩ := hl
  have H1 := Aside0.mk (And.intro N trivial)
  obtain ⟨d0, d1, d2, d3⟩ := N.cells
  have hglt := blk_lt N.box
  have HT := Aside0.mk (slc_take (SlC.of_own N.row 0) i (by omega))
  obtain ⟨Ad, hA⟩ : ∃ Ad, (if cap = i + 1 then some (⟨gr, 0, none⟩ : Addr) else some ⟨gr, (i + 1) * 4, none⟩) = some Ad := by split <;> exact ⟨_, rfl⟩
  have HD := Aside0.mk (slc_drop (SlC.of_own N.row 0) i hi hA)
  clear N h
  go_enter Try.func19, Try.ntmps19
  go_wp2_with fail
  refine hx.mono ?_
  rintro e w1 ⟨rfl, rfl⟩
  have hgne : ¬ g = wx.heap.size := by omega
  have hgne2 : ¬ g = wx.heap.size + 1 := by omega
  have hic : i ≤ cap := by omega
  have hic1 : i + 1 ≤ cap := by omega
  have hic2 : i + 1 ≤ s.fs.length := by omega
  have hic3 : ((i : Int) + 1).toNat = i + 1 := by omega
  have hic4 : (0 : Int) ≤ (i : Int) + 1 := by omega
  have hic5 : (i : Int) + 1 ≤ s.fs.length := by omega
  have hws : IntKind.i64.wrap ((i : Int) + 1) = (i : Int) + 1 := IntWalk.i64_in _ (by omega)
  clear hx
  go_upto_region 4 with fail
  go_region_law (first
    | (refine step_append_rows frC 4 frC_len (by decide) rfl (.tmp 12) (.tmp 18) 49 rfl wx.heap.size 67 67 0 (.agg #[.int .i64 0, .int .i64 0, .int .i64 0, .slice none 0 0]) 48 Try.underlying49 info_rf rfl (by decide) (.slice (some ⟨_, 0, none⟩) 0 0) [] (s.fs.take i) (.slice (some ⟨gr, 0, none⟩) i cap) rfl rfl (own_empty ?_ ?_) ((HT.out).below ?_) (fun f hf => frC_one (H1.out.1.bytes f (List.mem_of_mem_take hf))) (by simp; omega) (by first | (simp; done) | (simp; omega)) ?_
       · first | exact heap_new rfl | exact heap_new (by simp) | exact heap_old (heap_new rfl) | exact heap_old (heap_new (by simp))
       · first | exact Nat.le_refl _ | simp
       · repeat (first | exact Below.refl _ _ | refine Below.drew ?_ | refine Below.alloc ?_ (by first | (simp; done) | (simp; omega)) _)
       intro v5 w5 hown5 hgr5 hsh5
       have hb5 : Below wx.heap.size wx w5 := below_grown (by repeat (first | exact Below.refl _ _ | refine Below.drew ?_ | refine Below.alloc ?_ (by first | (simp; done) | (simp; omega)) _)) (by first | (simp; done) | (simp; omega)) hgr5 (fun k hk => by cases hk; first | exact Nat.le_refl _ | simp)
       obtain ⟨A5, n5, c5, rfl⟩ := hsh5
       have N5 := H1.out.1.below hb5
       obtain ⟨e0, e1, e2, e3⟩ := N5.cells
       have H5 := Aside0.mk (And.intro N5 (And.intro hb5 hown5))
       have HG5 := Aside0.mk hgr5
       have hg5 := blk_lt N5.box
       have hg5a : ¬ g = w5.heap.size := by omega
       clear N5 hb5 hown5 hgr5 hg5)
    | (refine step_append_rows frC 4 frC_len (by decide) rfl (.tmp 19) (.tmp 26) 49 rfl wx.heap.size 67 67 0 (.agg #[.int .i64 0, .int .i64 0, .int .i64 0, .slice none 0 0]) 48 Try.underlying49 info_rf rfl (by decide) (.slice A5 n5 c5) ([] ++ s.fs.take i) (s.fs.drop (i + 1)) (.slice (some Ad) (s.fs.length - (i + 1)) (cap - (i + 1))) rfl rfl ?_ ?_ ?_ ?_ ?_ ?_
       · exact own_below H5.out.2.2 (by repeat (first | exact Below.refl _ _ | refine Below.drew ?_ | refine Below.alloc ?_ (by first | (simp; done) | (simp; omega)) _))
       · exact (HD.out.below H5.out.2.1).below (by repeat (first | exact Below.refl _ _ | refine Below.drew ?_ | refine Below.alloc ?_ (by first | (simp; done) | (simp; omega)) _))
       · exact fun f hf => frC_one (H1.out.1.bytes f (List.mem_of_mem_drop hf))
       · first | omega | (simp; done) | (simp; omega)
       · (have := H5.out.2.1.size; first | omega | (simp; done) | (simp; omega))
       intro v6 w6 hown6 hgr6 hsh6
       have hb6 : Below wx.heap.size wx w6 := below_grown (below_to H5.out.2.1 (by repeat (first | exact Below.refl _ _ | refine Below.drew ?_ | refine Below.alloc ?_ (by first | (simp; done) | (simp; omega)) _)) H5.out.2.1.size) (by have := H5.out.2.1.size; first | omega | (simp; done) | (simp; omega)) hgr6 (own_base H5.out.2.2)
       obtain ⟨A6, n6, c6, rfl⟩ := hsh6
       have N6 := H1.out.1.below hb6
       obtain ⟨x0, x1, x2, x3⟩ := N6.cells
       have H6 := Aside0.mk (And.intro N6 (And.intro hb6 hown6))
       clear N6 hb6 hown6 hgr6))
  all_goals
    clear hws
    go_wp2_with fail
    go_ret
    obtain ⟨NR, KR⟩ := RNet.setRow (v' := .slice A6 n6 c6) (fs := s.fs.eraseIdx i) H1.out.1.ge H6.out.1.box (own_mono (by rw [List.eraseIdx_eq_take_drop_succ]; exact H6.out.2.2) (by have := H1.out.1.ge; omega)) (fun f hf => H6.out.1.bytes f (List.mem_of_mem_eraseIdx hf))
    obtain ⟨NR2, KR2⟩ := NR.setLost (s.lost + 1)
    exact ⟨rfl, ⟨_, NR2⟩, ((Keeps.of_below H6.out.2.1).trans KR).trans KR2⟩

set_option maxHeartbeats 2000000 in
theorem rdouble_calls {base g : Nat} {v : Value} {s : NetS} (id : Int) (w : World) (N : RNet w base g v s) (i : Nat) (f : Fr) (hf : s.fs[i]? = some f) (h : idxI (fun f => f.id == id) s.fs = i) (hl : 0 ≤ s.last ∧ s.last ≤ 1099511627776) (hn : s.fs.length ≤ 1099511627776) :
    Calls Try.prog 20 #[.pointer (some ⟨g, 0, none⟩), .int .i64 id] w fun e w' => e = .returned (.tuple #[.int .i64 (s.last + 1), .int .i64 0]) ∧ (∃ v', RNet w' base g v' ⟨s.last + 1, s.lost, s.fs ++ [⟨s.last + 1, f.whom, f.due, f.b, f.u⟩]⟩) ∧ Keeps rnT base w w' := by
  have HB0 : Aside0 (∀ (w : World) o, Below w.heap.size w (w.alloc o)) := ⟨fun w o => (Below.refl _ _).alloc (Nat.le_refl _) _⟩
  obtain ⟨hi, hf⟩ := List.getElem?_eq_some_iff.1 hf
  have hx := at_calls id w N
  rw [h] at hx
  have HN := Aside0.mk N
  obtain ⟨c0, c1, c2, c3⟩ := N.cells
  have hglt := blk_lt N.box
  have hgne0 : ¬ g = w.heap.size := by omega
  have hgne9 : ¬ w.heap.size = g := by omega
  obtain ⟨ad, c, rfl, d0, d1, d2, d3⟩ := frame_at (SlC.of_own N.row 0) i hi
  obtain ⟨A, c', he, hca, hm⟩ := N.shape
  cases he
  have hmx : s.fs.length ≤ 9223372036854775807 := by simp only [maxLen] at hm; omega
  have hbf := N.bytes _ (List.getElem_mem hi)
  rw [hf] at d0 d1 d2 d3 hbf
  obtain ⟨fid, fwhom, fdue, fb, fu⟩ := f
  have hbf' := hbf
  obtain ⟨Af, cf, hu, _⟩ := hbf'
  simp only at d0 d1 d2 d3 hu
  subst hu
  have HF := Aside0.mk (show Sl bv 5 w base (⟨fid, fwhom, fdue, fb, .slice Af fb.length cf⟩ : Fr).u fb from hbf)
  obtain ⟨hl1, hl2⟩ := hl
  have hii : (i : Int) < (s.fs.length : Int) := by omega
  clear N h hf hbf
  go_enter Try.func20, Try.ntmps20
  go_wp2_with fail
  refine hx.mono ?_
  rintro e w1 ⟨rfl, rfl⟩
  go_upto_region 7 with fail
  obtain ⟨N0, K0⟩ := HN.out.setLast (s.last + 1)
  have N1 := N0.below (HB0.out _ (.cells #[.int .i64 (s.last + 1), .int .i64 fwhom, .int .i64 fdue, .slice Af fb.length cf] 67))
  have K1 := K0.alloc (.cells #[.int .i64 (s.last + 1), .int .i64 fwhom, .int .i64 fdue, .slice Af fb.length cf] 67)
  have hbx : ((w.setCell ⟨g, 0, none⟩ (.int .i64 (s.last + 1))).alloc (.cells #[.int .i64 (s.last + 1), .int .i64 fwhom, .int .i64 fdue, .slice Af fb.length cf] 67)).heap[w.heap.size]? = some (.cells #[.int .i64 (s.last + 1), .int .i64 fwhom, .int .i64 fdue, .slice Af fb.length cf] 67 (0, 0)) := heap_new (by simp)
  obtain ⟨wx, hwx⟩ : ∃ wx, wx = (w.setCell ⟨g, 0, none⟩ (.int .i64 (s.last + 1))).alloc (.cells #[.int .i64 (s.last + 1), .int .i64 fwhom, .int .i64 fdue, .slice Af fb.length cf] 67) := ⟨_, rfl⟩
  rw [← hwx] at N1 K1 hbx ⊢
  have H1 := Aside0.mk (And.intro N1 K1)
  have HBX := Aside0.mk hbx
  clear hwx c0 c1 c2 c3 d0 d1 d2 d3 hx N0 K0
  obtain ⟨d0, d1, d2, d3⟩ := N1.cells
  have hgl2 := blk_lt N1.box
  have hkl2 := blk_lt hbx
  have hgne : ¬ g = wx.heap.size := by omega
  have hgne2 : ¬ g = wx.heap.size + 1 := by omega
  have hkne : ¬ w.heap.size = wx.heap.size := by omega
  have hkne2 : ¬ w.heap.size = wx.heap.size + 1 := by omega
  have hk := blk hbx
  have j0 := hk.1 0; have j1 := hk.1 1; have j2 := hk.1 2; have j3 := hk.1 3
  simp at j0 j1 j2 j3
  clear N1 K1 hbx hk
  go_region_law (first
    | (refine step_append_rows frC 4 frC_len (by decide) rfl (.tmp 33) (.tmp 37) 49 rfl wx.heap.size 67 67 0 (.agg #[.int .i64 0, .int .i64 0, .int .i64 0, .slice none 0 0]) 48 Try.underlying49 info_rf rfl (by decide) (.slice (some ⟨_, 0, none⟩) 0 0) [] (s.fs) (.slice (some ad) s.fs.length c) rfl rfl (own_empty ?_ ?_) ((SlC.of_own H1.out.1.row 0).below ?_) (fun f hf => frC_one (H1.out.1.bytes f hf)) (by simp; omega) (by first | (simp; done) | (simp; omega)) ?_
       · first | exact heap_new rfl | exact heap_new (by simp) | exact heap_old (heap_new rfl) | exact heap_old (heap_new (by simp))
       · first | exact Nat.le_refl _ | simp
       · repeat (first | exact Below.refl _ _ | refine Below.drew ?_ | refine Below.alloc ?_ (by first | (simp; done) | (simp; omega)) _)
       intro v5 w5 hown5 hgr5 hsh5
       have hb5 : Below wx.heap.size wx w5 := below_grown (by repeat (first | exact Below.refl _ _ | refine Below.drew ?_ | refine Below.alloc ?_ (by first | (simp; done) | (simp; omega)) _)) (by first | (simp; done) | (simp; omega)) hgr5 (fun k hk => by cases hk; first | exact Nat.le_refl _ | simp)
       obtain ⟨A5, n5, c5, rfl⟩ := hsh5
       have N5 := H1.out.1.below hb5
       obtain ⟨e0, e1, e2, e3⟩ := N5.cells
       have H5 := Aside0.mk (And.intro N5 (And.intro hb5 hown5))
       have HG5 := Aside0.mk hgr5
       have hg5 := blk_lt N5.box
       have hg5a : ¬ g = w5.heap.size := by omega
       have hk5 := blk (below_heap hb5 HBX.out)
       have k0 := hk5.1 0; have k1 := hk5.1 1; have k2 := hk5.1 2; have k3 := hk5.1 3
       simp at k0 k1 k2 k3
       clear N5 hb5 hown5 hgr5 hg5)
    | (refine step_append_rows frC 4 frC_len (by decide) rfl (.tmp 38) (.tmp 40) 49 rfl wx.heap.size 67 67 0 (.agg #[.int .i64 0, .int .i64 0, .int .i64 0, .slice none 0 0]) 48 Try.underlying49 info_rf rfl (by decide) (.slice A5 n5 c5) ([] ++ s.fs) ([⟨s.last + 1, fwhom, fdue, fb, .slice Af fb.length cf⟩]) _ rfl rfl ?_ ?_ ?_ ?_ ?_ ?_
       · exact own_below H5.out.2.2 (by repeat (first | exact Below.refl _ _ | refine Below.drew ?_ | refine Below.alloc ?_ (by first | (simp; done) | (simp; omega)) _))
       · first | exact slc_one (heap_new rfl) | exact slc_one ((HG5.out.block _ (by first | (simp; done) | (simp; omega)) (by first | (simp [Value.ownBlock]; done) | (simp [Value.ownBlock]; omega) | (intro he; cases he; omega) | (intro he; cases he))).trans (by first | exact heap_new rfl | exact heap_new (by simp) | exact heap_old (heap_new rfl) | exact heap_old (heap_new (by simp))))
       · (intro y hy; rw [List.mem_singleton] at hy; subst hy; exact frC_one HF.out)
       · first | omega | (simp; done) | (simp; omega)
       · (have := H5.out.2.1.size; first | omega | (simp; done) | (simp; omega))
       intro v6 w6 hown6 hgr6 hsh6
       have hb6 : Below wx.heap.size wx w6 := below_grown (below_to H5.out.2.1 (by repeat (first | exact Below.refl _ _ | refine Below.drew ?_ | refine Below.alloc ?_ (by first | (simp; done) | (simp; omega)) _)) H5.out.2.1.size) (by have := H5.out.2.1.size; first | omega | (simp; done) | (simp; omega)) hgr6 (own_base H5.out.2.2)
       obtain ⟨A6, n6, c6, rfl⟩ := hsh6
       have N6 := H1.out.1.below hb6
       obtain ⟨x0, x1, x2, x3⟩ := N6.cells
       have H6 := Aside0.mk (And.intro N6 (And.intro hb6 hown6))
       clear N6 hb6 hown6 hgr6))
  all_goals
    go_wp2_with fail
    go_ret2
    obtain ⟨NR, KR⟩ := RNet.setRow (v' := .slice A6 n6 c6) (fs := s.fs ++ [⟨s.last + 1, fwhom, fdue, fb, .slice Af fb.length cf⟩]) HN.out.ge H6.out.1.box (own_mono H6.out.2.2 (by have := HN.out.ge; omega)) (fun f hf => by
      rcases List.mem_append.1 hf with hf | hf
      · exact H6.out.1.bytes f hf
      · rw [List.mem_singleton] at hf
        subst hf
        exact (HF.out.keeps H1.out.2 (by unfold rnT; decide) (Nat.le_refl _)).below H6.out.2.1)
    exact ⟨rfl, ⟨_, NR⟩, (H1.out.2.then_below H6.out.2.1).trans KR⟩
end Go.Proofs.Ytmpmngfimeojhaa
