/-
  The reference's Swap and Due. No condition but that the net can be read, and that it is not more than memory.
-/
import Derived.Test.YtmpmngfimeojhaaRNetLose
namespace Go.Proofs.Ytmpmngfimeojhaa
open Go.RowKit Go.Joins
set_option linter.unusedVariables false
set_option linter.unusedSimpArgs false

theorem own_frame_t {e : Nat} {w : World} {base g cap : Nat} {xs : List Fr} {n : Nat} (h : w.ownsRow base e 4 (.slice (some ⟨g, 0, none⟩) n cap) n (xs.flatMap frC)) (i : Nat) (hi : i < xs.length) :
    w.cell? ⟨g, i * 4, none⟩ = some (.int .i64 (xs[i]'hi).id) ∧ w.cell? ⟨g, i * 4 + 1, none⟩ = some (.int .i64 (xs[i]'hi).whom) ∧ w.cell? ⟨g, i * 4 + 2, none⟩ = some (.int .i64 (xs[i]'hi).due) ∧ w.cell? ⟨g, i * 4 + 3, none⟩ = some (xs[i]'hi).u ∧ ∀ j, w.frozen? ⟨g, j, none⟩ = false := by
  have ha : ∀ k, (⟨g, 0, none⟩ : Addr).add k = ⟨g, k, none⟩ := fun k => by unfold Addr.add; split <;> simp_all
  have hc : ∀ j u, (frC (xs[i]'hi))[j]? = some u → w.cell? ⟨g, i * 4 + j, none⟩ = some u := fun j u hj => by
    have hj4 : j < 4 := (List.getElem?_eq_some_iff.1 hj).1
    have := World.ownsRow.cells h (g := g) rfl (i * 4 + j) u (by rw [flat_get frC_len xs i j hi hj4]; exact hj)
    rwa [ha] at this
  refine ⟨hc 0 _ rfl, hc 1 _ rfl, hc 2 _ rfl, hc 3 _ rfl, ?_⟩
  rcases h.2 with ⟨h', _⟩ | ⟨g', cap', cur, h', _, hh, _⟩
  · cases h'
  · cases h'; exact fun j => (blk hh).2 j

theorem rswap_bad {base g : Nat} {v : Value} {s : NetS} (a b : Int) (w : World) (N : RNet w base g v s) (h : idxI (fun f => f.id == a) s.fs = -1 ∨ idxI (fun f => f.id == b) s.fs = -1) :
    Calls Try.prog 21 #[.pointer (some ⟨g, 0, none⟩), .int .i64 a, .int .i64 b] w fun e w' => e = .returned (.int .i64 5) ∧ w = w' := by
  have hfa := at_calls a w N
  have hfb := at_calls b w N
  rcases idxI_cases (fun f => f.id == a) s.fs with ⟨ha, _⟩ | ⟨i, hi, ha, _⟩
  · rw [ha] at hfa
    clear h
    obtain ⟨kb, hkb⟩ : ∃ kb, idxI (fun f => f.id == b) s.fs = kb := ⟨_, rfl⟩
    rw [hkb] at hfb
    go_enter Try.func21, Try.ntmps21
    go_wp2_with fail
    refine hfa.mono ?_
    rintro e w1 ⟨rfl, rfl⟩
    go_wp2_with fail
    refine hfb.mono ?_
    rintro e w2 ⟨rfl, rfl⟩
    go_wp2_with fail
    go_ret
    exact ⟨rfl, rfl⟩
  · have hb : idxI (fun f => f.id == b) s.fs = -1 := by
      rcases h with h | h
      · omega
      · exact h
    rw [ha] at hfa
    rw [hb] at hfb
    clear h
    go_enter Try.func21, Try.ntmps21
    go_wp2_with fail
    refine hfa.mono ?_
    rintro e w1 ⟨rfl, rfl⟩
    go_wp2_with fail
    refine hfb.mono ?_
    rintro e w2 ⟨rfl, rfl⟩
    go_wp2_with fail
    go_ret
    exact ⟨rfl, rfl⟩

set_option maxHeartbeats 4000000 in
theorem rswap_calls {base g : Nat} {v : Value} {s : NetS} (a b : Int) (wx : World) (N : RNet wx base g v s) (i k : Nat) (fi fk : Fr) (hi : s.fs[i]? = some fi) (hk : s.fs[k]? = some fk) (ha : idxI (fun f => f.id == a) s.fs = i) (hb : idxI (fun f => f.id == b) s.fs = k) (hn : s.fs.length ≤ 1099511627776) :
    Calls Try.prog 21 #[.pointer (some ⟨g, 0, none⟩), .int .i64 a, .int .i64 b] wx fun e w' => e = .returned (.int .i64 0) ∧ (∃ v', RNet w' base g v' ⟨s.last, s.lost, (s.fs.set i fk).set k fi⟩) ∧ Keeps rnT base wx w' := by
  have HB0 : Aside0 (∀ (w : World) o, Below w.heap.size w (w.alloc o)) := ⟨fun w o => (Below.refl _ _).alloc (Nat.le_refl _) _⟩
  have HN := Aside0.mk N
  have HI := Aside0.mk hi
  have HK := Aside0.mk hk
  obtain ⟨hil, hfi⟩ := List.getElem?_eq_some_iff.1 hi
  obtain ⟨hkl, hfk⟩ := List.getElem?_eq_some_iff.1 hk
  clear hi hk
  have hfa := at_calls a wx N
  have hfb := at_calls b wx N
  rw [ha] at hfa
  rw [hb] at hfb
  obtain ⟨gr, cap, rfl⟩ : ∃ gr cap, v = .slice (some ⟨gr, 0, none⟩) s.fs.length cap := by
    rcases N.row.2 with ⟨_, h0⟩ | ⟨g', cap, cur, rfl, _⟩
    · omega
    · exact ⟨_, _, rfl⟩
  have hmx : s.fs.length ≤ 9223372036854775807 := by
    obtain ⟨A, c, he, h1, h2⟩ := N.shape
    simp only [maxLen] at h2; omega
  obtain ⟨c0, c1, c2, c3⟩ := N.cells
  have hglt := blk_lt N.box
  have hgne : ¬ g = wx.heap.size := by omega
  clear ha hb N
  go_enter Try.func21, Try.ntmps21
  go_wp2_with fail
  refine hfa.mono ?_
  rintro e w1 ⟨rfl, rfl⟩
  go_wp2_with fail
  refine hfb.mono ?_
  rintro e w2 ⟨rfl, rfl⟩
  go_wp2_with
    (at_builtin
     refine wpList_append_rows frC 4 frC_len (by decide) rfl (.tmp 22) (.tmp 26) 49 rfl wx.heap.size 67 67 0 (.agg #[.int .i64 0, .int .i64 0, .int .i64 0, .slice none 0 0]) 48 Try.underlying49 info_rf rfl (by decide) (.slice (some ⟨_, 0, none⟩) 0 0) [] s.fs (.slice (some ⟨gr, 0, none⟩) s.fs.length cap) rfl rfl (own_empty (heap_new rfl) (Nat.le_refl _)) ((SlC.of_own HN.out.row 0).below (HB0.out _ _)) (fun f hf => frC_one (HN.out.bytes f hf)) (by simp; omega) (by simp) ?_
     intro v5 w5 hown5 hgr5 hsh5
     have hb5 : Below wx.heap.size wx w5 := below_grown (HB0.out _ _) (by simp) hgr5 (fun k hk => by cases hk; exact Nat.le_refl _)
     obtain ⟨gl, capl, rfl⟩ : ∃ gl capl, v5 = .slice (some ⟨gl, 0, none⟩) s.fs.length capl := by
       rcases hown5.2 with ⟨_, h0⟩ | ⟨g', cap, cur, rfl, _⟩
       · have h0' : s.fs.length = 0 := h0
         omega
       · exact ⟨g', cap, rfl⟩
     rw [List.nil_append] at hown5
     have H5 := Aside0.mk (And.intro (HN.out.below hb5) (And.intro hb5 hown5))
     clear hb5 hown5 hgr5 hsh5)
  obtain ⟨d0, d1, d2, d3, dz⟩ := own_frame_t H5.out.2.2 i hil
  obtain ⟨e0, e1, e2, e3, _⟩ := own_frame_t H5.out.2.2 k hkl
  have hui := (HN.out.bytes _ (List.getElem_mem hil))
  have huk := (HN.out.bytes _ (List.getElem_mem hkl))
  rw [hfi] at d0 d1 d2 d3 hui
  rw [hfk] at e0 e1 e2 e3 huk
  obtain ⟨iid, iwhom, idue, ib, iu⟩ := fi
  obtain ⟨kid, kwhom, kdue, kb, ku⟩ := fk
  obtain ⟨Ai, ci, hAi, _⟩ := hui
  obtain ⟨Ak, ck, hAk, _⟩ := huk
  simp only at d0 d1 d2 d3 e0 e1 e2 e3 hAi hAk
  subst hAi hAk
  have hii : (i : Int) < (s.fs.length : Int) := by omega
  have hkk : (k : Int) < (s.fs.length : Int) := by omega
  clear hfi hfk hfa hfb c0 c1 c2 c3
  have hset : ∀ (W : World) (j : Nat) (x y : Value), W.cell? ⟨gl, i * 4 + j, none⟩ = some y → W.cell? ⟨gl, k * 4 + j, none⟩ = some x → (W.setCell ⟨gl, i * 4 + j, none⟩ x).cell? ⟨gl, k * 4 + j, none⟩ = some x := fun W j x y h1 h2 => by
    by_cases h : i = k
    · subst h
      exact World.cell?_setCell_same _ _ _ h1
    · rw [World.cell?_setCell_other _ _ _ _ (by intro he; simp only [Addr.mk.injEq] at he; omega)]
      exact h2
  have oth : ∀ (W : World) (p j j' : Nat) (x : Value), j' < j → j < 4 → (W.setCell ⟨gl, i * 4 + j', none⟩ x).cell? ⟨gl, p * 4 + j, none⟩ = W.cell? ⟨gl, p * 4 + j, none⟩ := fun W p j j' x h1 h2 => World.cell?_setCell_other _ _ _ _ (by intro he; simp only [Addr.mk.injEq] at he; omega)
  obtain ⟨W1, hW1⟩ : ∃ W1, W1 = w5.setCell ⟨gl, i * 4 + 0, none⟩ (.int .i64 kid) := ⟨_, rfl⟩
  obtain ⟨W2, hW2⟩ : ∃ W2, W2 = W1.setCell ⟨gl, i * 4 + 1, none⟩ (.int .i64 kwhom) := ⟨_, rfl⟩
  obtain ⟨W3, hW3⟩ : ∃ W3, W3 = W2.setCell ⟨gl, i * 4 + 2, none⟩ (.int .i64 kdue) := ⟨_, rfl⟩
  have f0 := hset w5 0 _ _ d0 e0
  have f1 := hset W1 1 _ _ (by rw [hW1, oth _ _ _ _ _ (by omega) (by omega)]; exact d1) (by rw [hW1, oth _ _ _ _ _ (by omega) (by omega)]; exact e1)
  have f2 := hset W2 2 _ _ (by rw [hW2, oth _ _ _ _ _ (by omega) (by omega), hW1, oth _ _ _ _ _ (by omega) (by omega)]; exact d2) (by rw [hW2, oth _ _ _ _ _ (by omega) (by omega), hW1, oth _ _ _ _ _ (by omega) (by omega)]; exact e2)
  have f3 := hset W3 3 _ _ (by rw [hW3, oth _ _ _ _ _ (by omega) (by omega), hW2, oth _ _ _ _ _ (by omega) (by omega), hW1, oth _ _ _ _ _ (by omega) (by omega)]; exact d3) (by rw [hW3, oth _ _ _ _ _ (by omega) (by omega), hW2, oth _ _ _ _ _ (by omega) (by omega), hW1, oth _ _ _ _ _ (by omega) (by omega)]; exact e3)
  rw [hW3, hW2, hW1] at f3
  rw [hW2, hW1] at f2
  rw [hW1] at f1
  simp only [Nat.add_zero] at f0 f1 f2 f3
  clear hW1 hW2 hW3 oth hset
  go_wp2_with fail
  go_region
  obtain ⟨o1, g1⟩ := own_set4 frC_len (y := (⟨kid, kwhom, kdue, kb, .slice Ak kb.length ck⟩ : Fr)) rfl H5.out.2.2 i hil
  obtain ⟨o2, g2⟩ := own_set4 frC_len (xs := s.fs.set i ⟨kid, kwhom, kdue, kb, .slice Ak kb.length ck⟩) (y := (⟨iid, iwhom, idue, ib, .slice Ai ib.length ci⟩ : Fr)) rfl (by rw [List.length_set]; exact o1) k (by rw [List.length_set]; exact hkl)
  obtain ⟨w7, hw7⟩ : ∃ w7, w7 = ((((w5.setCell ⟨gl, i * 4, none⟩ (.int .i64 kid)).setCell ⟨gl, i * 4 + 1, none⟩ (.int .i64 kwhom)).setCell ⟨gl, i * 4 + 2, none⟩ (.int .i64 kdue)).setCell ⟨gl, i * 4 + 3, none⟩ (.slice Ak kb.length ck)) := ⟨_, rfl⟩
  rw [← hw7] at o1 g1 o2 g2 ⊢
  obtain ⟨w8, hw8⟩ : ∃ w8, w8 = ((((w7.setCell ⟨gl, k * 4, none⟩ (.int .i64 iid)).setCell ⟨gl, k * 4 + 1, none⟩ (.int .i64 iwhom)).setCell ⟨gl, k * 4 + 2, none⟩ (.int .i64 idue)).setCell ⟨gl, k * 4 + 3, none⟩ (.slice Ai ib.length ci)) := ⟨_, rfl⟩
  rw [← hw8] at o2 g2 ⊢
  have hglB : wx.heap.size ≤ gl := own_base H5.out.2.2 gl rfl
  have hb7 : Below wx.heap.size wx w7 := below_grown H5.out.2.1 H5.out.2.1.size g1 (fun k hk => by cases hk; exact hglB)
  have hb8 : Below wx.heap.size wx w8 := below_grown hb7 hb7.size g2 (fun k hk => by cases hk; exact hglB)
  have N8 := HN.out.below hb8
  have H8 := Aside0.mk (And.intro N8 (And.intro hb8 o2))
  obtain ⟨c0, c1, c2, c3⟩ := N8.cells
  clear hw7 hw8 o1 g1 o2 g2 hb7 hb8 N8 f0 f1 f2 f3 d0 d1 d2 d3 e0 e1 e2 e3
  go_wp2_with fail
  go_ret
  have hl2 : ((s.fs.set i ⟨kid, kwhom, kdue, kb, .slice Ak kb.length ck⟩).set k ⟨iid, iwhom, idue, ib, .slice Ai ib.length ci⟩).length = s.fs.length := by rw [List.length_set, List.length_set]
  obtain ⟨NR, KR⟩ := RNet.setRow (v' := .slice (some ⟨gl, 0, none⟩) s.fs.length capl) (fs := (s.fs.set i ⟨kid, kwhom, kdue, kb, .slice Ak kb.length ck⟩).set k ⟨iid, iwhom, idue, ib, .slice Ai ib.length ci⟩) HN.out.ge (w := w8.drew) (H8.out.1.below (Below.refl _ _).drew).box (by
    have h1 := own_below H8.out.2.2 (Below.refl _ _).drew
    rw [List.length_set] at h1
    rw [hl2]
    exact own_mono h1 (by have := HN.out.ge; omega)) (fun f hf => by
    refine ((?_ : Sl bv 5 wx base f.u f.b).below H8.out.2.1).below (Below.refl _ _).drew
    rcases List.mem_or_eq_of_mem_set hf with hf | rfl
    · rcases List.mem_or_eq_of_mem_set hf with hf | rfl
      · exact HN.out.bytes f hf
      · exact HN.out.bytes _ (List.mem_of_getElem? HK.out)
    · exact HN.out.bytes _ (List.mem_of_getElem? HI.out))
  exact ⟨rfl, ⟨_, NR⟩, ((Keeps.of_below H8.out.2.1).drew).trans KR⟩
end Go.Proofs.Ytmpmngfimeojhaa
