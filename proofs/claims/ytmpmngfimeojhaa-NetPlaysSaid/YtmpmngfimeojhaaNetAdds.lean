/-
  A frame is let wait. No condition but that the net, and the bytes, can be read, and that they are not more than memory.
-/
import Derived.Test.YtmpmngfimeojhaaNetFind
import Derived.Lib.SmallJoins
import Derived.Deep.RegionLaw
import Derived.Deep.AppendLies
namespace Go.Proofs.Ytmpmngfimeojhaa
open Go.RowKit Go.Joins
set_option linter.unusedVariables false
set_option linter.unusedSimpArgs false

theorem NetR.setLast {w : World} {base g : Nat} {v : Value} {s : NetS} (h : NetR w base g v s) (n : Int) : NetR (w.setCell ⟨g, 0, none⟩ (.int .i64 n)) base g v { s with last := n } ∧ Keeps netT base w (w.setCell ⟨g, 0, none⟩ (.int .i64 n)) := by
  have hk : Keeps (fun e => e = 61) base w (w.setCell ⟨g, 0, none⟩ (.int .i64 n)) := Keeps.setCell (T := fun e => e = 61) (a := ⟨g, 0, none⟩) h.ge h.box rfl _
  refine ⟨⟨h.ge, ?_, own_keeps h.row hk (by decide), fun f hf => (h.bytes f hf).keeps hk (by decide) (Nat.le_refl _)⟩, hk.wider (fun e he => .inl he) (Nat.le_refl _)⟩
  rw [block_setCell h.box]; rfl

/-- The new frame's number and bytes are set. -/
theorem adds_mid {w3 : World} {base g K : Nat} {v u u' : Value} {s : NetS} {i0 t d : Int} {b : List UInt8} (n : Int) (N : NetR w3 base g v s) (hbx : w3.heap[K]? = some (.cells #[.int .i64 i0, .int .i64 t, .int .i64 d, u] 42 (0, 0))) (hK : base ≤ K)
    (hne : v.ownBlock ≠ some K) (hu : Sl bv 5 w3 base u' b) :
    NetR ((w3.setCell ⟨K, 0, none⟩ (.int .i64 n)).setCell ⟨K, 3, none⟩ u') base g v s ∧ ((w3.setCell ⟨K, 0, none⟩ (.int .i64 n)).setCell ⟨K, 3, none⟩ u').heap[K]? = some (.cells #[.int .i64 n, .int .i64 t, .int .i64 d, u'] 42 (0, 0)) ∧
      Sl bv 5 ((w3.setCell ⟨K, 0, none⟩ (.int .i64 n)).setCell ⟨K, 3, none⟩ u') base u' b ∧ Keeps netT base w3 ((w3.setCell ⟨K, 0, none⟩ (.int .i64 n)).setCell ⟨K, 3, none⟩ u') := by
  have hb1 : (w3.setCell ⟨K, 0, none⟩ (.int .i64 n)).heap[K]? = some (.cells #[.int .i64 n, .int .i64 t, .int .i64 d, u] 42 (0, 0)) := by rw [block_setCell hbx]; rfl
  have hb2 : ((w3.setCell ⟨K, 0, none⟩ (.int .i64 n)).setCell ⟨K, 3, none⟩ u').heap[K]? = some (.cells #[.int .i64 n, .int .i64 t, .int .i64 d, u'] 42 (0, 0)) := by rw [block_setCell hb1]; rfl
  have k1 : Keeps (fun e => e = 42) base w3 (w3.setCell ⟨K, 0, none⟩ (.int .i64 n)) := Keeps.setCell (T := fun e => e = 42) (a := ⟨K, 0, none⟩) hK hbx rfl _
  have k2 := k1.trans (Keeps.setCell (T := fun e => e = 42) (a := ⟨K, 3, none⟩) hK hb1 rfl u')
  exact ⟨⟨N.ge, heap_keeps N.box k2 (.inr (by decide)), ownsRow_setCell_other (ownsRow_setCell_other N.row hne _) hne _, fun f hf => (N.bytes f hf).keeps k2 (by decide) (Nat.le_refl _)⟩, hb2, hu.keeps k2 (by decide) (Nat.le_refl _), k2.wider (fun e he => .inr he) (Nat.le_refl _)⟩

theorem own_addr {w : World} {base e size n : Nat} {v : Value} {cs : List Value} (h : w.ownsRow base e size v n cs) (ad : Addr) (m c : Nat) (hv : v = .slice (some ad) m c) : base ≤ ad.block := by
  rcases h.2 with ⟨h', _⟩ | ⟨g, cap, cur, h', hb, _⟩
  · rw [hv] at h'; cases h'
  · rw [hv] at h'; cases h'; exact hb
theorem info_fr : (Try.prog.info? 42).map (fun i => (i.zero, i.size, i.bytes)) = some (some (.agg #[.int .i64 0, .int .i64 0, .int .i64 0, .slice none 0 0]), 4, 48) := by kernel_rfl
/-- The net's row is another one. -/
theorem NetR.setRow {w : World} {base g : Nat} {v v' : Value} {last lost : Int} {fs : List Fr} (hg : base ≤ g) (hbox : w.heap[g]? = some (.cells #[.int .i64 last, .int .i64 lost, v] 61 (0, 0))) (hr : w.ownsRow base 42 4 v' fs.length (fs.flatMap frC))
    (hb : ∀ f ∈ fs, Sl bv 5 w base f.u f.b) : NetR (w.setCell ⟨g, 2, none⟩ v') base g v' ⟨last, lost, fs⟩ ∧ Keeps netT base w (w.setCell ⟨g, 2, none⟩ v') := by
  have hk : Keeps (fun e => e = 61) base w (w.setCell ⟨g, 2, none⟩ v') := Keeps.setCell (T := fun e => e = 61) (a := ⟨g, 2, none⟩) hg hbox rfl _
  refine ⟨⟨hg, ?_, own_keeps hr hk (by decide), fun f hf => (hb f hf).keeps hk (by decide) (Nat.le_refl _)⟩, hk.wider (fun e he => .inl he) (Nat.le_refl _)⟩
  rw [block_setCell hbox]; rfl
/-- A row that grows. -/
theorem NetR.rowKeeps {w w' : World} {base g : Nat} {v : Value} {s : NetS} (h : NetR w base g v s) (hg : w.grownBy w' v.ownBlock) : Keeps (fun e => e = 42) base w w' :=
  Keeps.grown hg fun k hk => by
    obtain ⟨h1, cur, fr, e', h2, rfl⟩ := own_row h.row k hk
    exact ⟨h1, cur, _, fr, h2, rfl⟩

set_option maxHeartbeats 1000000 in
theorem adds_calls {base g : Nat} {v u : Value} {s : NetS} {b : List UInt8} (i0 to' due : Int) (w : World) (h : NetR w base g v s) (hu : Sl bv 5 w base u b) (hl : 0 ≤ s.last ∧ s.last ≤ 1099511627776) (hn : s.fs.length ≤ 1099511627776) (hb : b.length ≤ 140737488355328) :
    Calls Try.prog 26 #[.pointer (some ⟨g, 0, none⟩), .agg #[.int .i64 i0, .int .i64 to', .int .i64 due, u]] w fun e w' => e = .returned (.int .i64 (s.last + 1)) ∧ (∃ v' u', NetR w' base g v' ⟨s.last + 1, s.lost, s.fs ++ [⟨s.last + 1, to', due, b, u'⟩]⟩ ∧ ∀ ad n c, u' = .slice (some ad) n c → w.heap.size ≤ ad.block) ∧ Keeps netT base w w' := by
  have H := Aside0.mk h
  have HU := Aside0.mk hu
  obtain ⟨c0, c1, c2, c3⟩ := h.cells
  have hlt := blk_lt h.box
  have HNE : Aside0 (v.ownBlock ≠ some w.heap.size) := ⟨fun he => by have := own_blk_lt h.row _ he; omega⟩
  clear h
  have HB0 : Aside0 (∀ (w : World) o, Below w.heap.size w (w.alloc o)) := ⟨fun w o => (Below.refl _ _).alloc (Nat.le_refl _) _⟩
  have hne : g ≠ w.heap.size := by omega
  obtain ⟨hl1, hl2⟩ := hl
  go_enter Try.func26, Try.ntmps26
  go_upto_region 2 with fail
  obtain ⟨N1, K1⟩ := H.out.setLast (s.last + 1)
  have hbx : ((w.setCell ⟨g, 0, none⟩ (.int .i64 (s.last + 1))).alloc (.cells #[.int .i64 i0, .int .i64 to', .int .i64 due, u] 42)).heap[w.heap.size]? = some (.cells #[.int .i64 i0, .int .i64 to', .int .i64 due, u] 42 (0, 0)) := heap_new (by simp)
  have N2 := Aside0.mk (N1.below (HB0.out _ (.cells #[.int .i64 i0, .int .i64 to', .int .i64 due, u] 42)))
  have K2 := Aside0.mk (K1.alloc (.cells #[.int .i64 i0, .int .i64 to', .int .i64 due, u] 42))
  have U2 := Aside0.mk (HU.out.keeps K2.out netT_u8 (Nat.le_refl _))
  obtain ⟨wx, hwx⟩ : ∃ wx, wx = (w.setCell ⟨g, 0, none⟩ (.int .i64 (s.last + 1))).alloc (.cells #[.int .i64 i0, .int .i64 to', .int .i64 due, u] 42) := ⟨_, rfl⟩
  rw [← hwx] at hbx N2 K2 U2 ⊢
  clear hwx N1 K1
  obtain ⟨d0, d1, d2, d3⟩ := N2.out.cells
  obtain ⟨x0, x1⟩ := blk hbx
  have e0 := x0 0
  have e3 := x0 3
  simp at e0 e3
  have HX := Aside0.mk (show w.heap.size < wx.heap.size from blk_lt hbx)
  have HBX := Aside0.mk hbx
  have hKg : w.heap.size ≠ g := by omega
  go_region_law (go_simp; go_at_call 35; refine (clone_calls _ (U2.out.below (Below.refl _ _).drew) hb).mono ?_; rintro e w3 ⟨u', rfl, hown, hbel⟩
                 have hbel := below_step (Below.refl _ wx).drew hbel
                 have H3 := Aside0.mk (show w3.ownsRow wx.heap.size 5 1 u' b.length (b.map bv) ∧ Below wx.heap.size wx w3 ∧ NetR w3 base g v ⟨s.last + 1, s.lost, s.fs⟩ from ⟨hown, hbel, N2.out.below hbel⟩)
                 have hbx3 := below_heap hbel HBX.out
                 have f0 := (blk hbx3).1 0
                 have f3 := (blk hbx3).1 3
                 have fz := (blk hbx3).2
                 have d0' := H3.out.2.2.cells.1
                 simp at f0 f3
                 have HX3 := Aside0.mk hbx3
                 obtain ⟨A', c', rfl, _⟩ := Sl.of_own (b := 0) hown
                 clear hown hbel hbx3)
  all_goals
    have hM := adds_mid (s.last + 1) H3.out.2.2 HX3.out (by have := H.out.ge; omega) HNE.out (Sl.of_own H3.out.1)
    have HM := Aside0.mk hM
    clear hM f0 f3 fz d0' d0 d1 d2 d3 e0 e3 x0 x1
    obtain ⟨w4, hw4⟩ : ∃ w4, w4 = (w3.setCell ⟨w.heap.size, 0, none⟩ (.int .i64 (s.last + 1))).setCell ⟨w.heap.size, 3, none⟩ (.slice A' b.length c') := ⟨_, rfl⟩
    rw [← hw4] at HM ⊢
    clear hw4
    go_upto_region 3 with fail
  all_goals
    obtain ⟨d0, d1, d2, d3⟩ := HM.out.1.cells
    obtain ⟨x0, x1⟩ := blk HM.out.2.1
    have e0 := x0 0
    have e1 := x0 1
    have e2 := x0 2
    have e3 := x0 3
    simp at e0 e1 e2 e3
    obtain ⟨A2, cR, rfl, _⟩ := HM.out.1.shape
    obtain ⟨i0', hi0, hz0, hz1, hz2⟩ := info_parts info_fr
    have hgw : g ≠ w4.heap.size := by have := blk_lt HM.out.1.box; omega
    have HS4 := Aside0.mk (show base ≤ w4.heap.size by have := blk_lt HM.out.1.box; have := HM.out.1.ge; omega)
    have HN := Aside0.mk hn
    have d2' := ((HM.out.1.below (HB0.out w4 (.cells #[.int .i64 (s.last + 1), .int .i64 to', .int .i64 due, .slice A' b.length c'] 42))).cells).2.2.1
    go_region_law
      (refine step_append_lies (w := (w4.alloc (.cells #[.int .i64 (s.last + 1), .int .i64 to', .int .i64 due, .slice A' b.length c'] 42)).drew) rfl (.tmp 25) (.tmp 27) 33 rfl base 42 i0' _ 4 48 Try.underlying33 hi0 hz0 hz1 hz2 rfl (by omega) (.slice A2 s.fs.length cR) s.fs.length (s.fs.flatMap frC) rfl (own_below (own_below HM.out.1.row (HB0.out _ _)) (Below.refl _ _).drew)
          ⟨w4.heap.size, 0, none⟩ 1 1 [.int .i64 (s.last + 1), .int .i64 to', .int .i64 due, .slice A' b.length c'] rfl rfl (World.news_of_block (cs := #[.int .i64 (s.last + 1), .int .i64 to', .int .i64 due, .slice A' b.length c']) (t := 42) (fr := (0, 0)) (heap_new rfl)) (by simp [Value.oneCell'])
          (by omega) (by have := HN.out; simp only [maxLen]; omega) (by have := HN.out; omega) (by have := HS4.out; simp; omega) (w4.heap.size + 1) (by simp) ?_
       intro gg cap w5 hown hgrow _ _
       have N' := (HM.out.1.below (HB0.out w4 (.cells #[.int .i64 (s.last + 1), .int .i64 to', .int .i64 due, .slice A' b.length c'] 42))).below (Below.refl _ _).drew
       have KG := N'.rowKeeps hgrow
       have hbox5 := heap_keeps N'.box KG (.inr (by decide))
       have z2 := (blk hbox5).1 2
       have zf := (blk hbox5).2
       simp at z2
       have H5 := Aside0.mk (show w5.ownsRow base 42 4 (.slice (some ⟨gg, 0, none⟩) (s.fs.length + 1) cap) (s.fs.length + 1) (s.fs.flatMap frC ++ [.int .i64 (s.last + 1), .int .i64 to', .int .i64 due, .slice A' b.length c']) ∧ Keeps (fun e => e = 42) base w4 w5 from
          ⟨hown, (((Keeps.refl _ _ _).alloc _).drew).trans KG⟩)
       have hk5 : w5.heap[w.heap.size]? = _ := (hgrow.block w.heap.size (Nat.lt_of_lt_of_le (blk_lt HM.out.2.1) (by simp)) (Ne.symm HNE.out)).trans (heap_old (o := .cells #[.int .i64 (s.last + 1), .int .i64 to', .int .i64 due, .slice A' b.length c'] 42) HM.out.2.1)
       have z5 := (blk hk5).1 0
       simp at z5
       have HBX5 := Aside0.mk hbox5
       clear hown hgrow N' KG hbox5 hk5)
    all_goals
      go_wp2_with fail
      go_ret
      have hfl : (s.fs ++ [(⟨s.last + 1, to', due, b, .slice A' b.length c'⟩ : Fr)]).flatMap frC = s.fs.flatMap frC ++ [.int .i64 (s.last + 1), .int .i64 to', .int .i64 due, .slice A' b.length c'] := by simp [frC]
      obtain ⟨NR, KR⟩ := NetR.setRow (v' := .slice (some ⟨gg, 0, none⟩) (s.fs.length + 1) cap) (fs := s.fs ++ [⟨s.last + 1, to', due, b, .slice A' b.length c'⟩]) H.out.ge HBX5.out (by rw [List.length_append, hfl]; exact H5.out.1) (fun f hf => by
        rcases List.mem_append.1 hf with hf | hf
        · exact (HM.out.1.bytes f hf).keeps H5.out.2 (by decide) (Nat.le_refl _)
        · rw [List.mem_singleton] at hf
          subst hf
          exact HM.out.2.2.1.keeps H5.out.2 (by decide) (Nat.le_refl _))
      refine ⟨rfl, ⟨_, _, NR, fun ad n c he => ?_⟩, ?_⟩
      · have h1 := own_addr H3.out.1 ad b.length c' (by cases he; rfl)
        have := HX.out; omega
      exact (((K2.out.then_below H3.out.2.1).trans HM.out.2.2.2).trans (H5.out.2.wider (fun e he => .inr he) (Nat.le_refl _))).trans KR
end Go.Proofs.Ytmpmngfimeojhaa
