/-
  A net's Swap. No condition but that the net can be read.
-/
import Derived.Test.YtmpmngfimeojhaaNetLose
import Derived.BigRegion
namespace Go.Proofs.Ytmpmngfimeojhaa
open Go.RowKit Go.Joins
set_option linter.unusedVariables false
set_option linter.unusedSimpArgs false

set_option maxHeartbeats 1000000 in
theorem swap_bad {base g : Nat} {v : Value} {s : NetS} (a b : Int) (w : World) (N : NetR w base g v s) (h : idxI (fun f => f.id == a) s.fs = -1 ∨ idxI (fun f => f.id == b) s.fs = -1) :
    Calls Try.prog 16 #[.pointer (some ⟨g, 0, none⟩), .int .i64 a, .int .i64 b] w fun e w' => e = .returned (.int .i64 5) ∧ Below w.heap.size w w' := by
  have HN := Aside0.mk N
  have hfa := find_calls a w N
  have hfb := fun w1 (hb : Below w.heap.size w w1) => find_calls b w1 (N.below hb)
  rcases idxI_cases (fun f => f.id == a) s.fs with ⟨ha, _⟩ | ⟨i, hi, ha, _⟩
  · rw [ha] at hfa
    clear h
    obtain ⟨kb, hkb⟩ : ∃ kb, idxI (fun f => f.id == b) s.fs = kb := ⟨_, rfl⟩
    rw [hkb] at hfb
    go_enter Try.func16, Try.ntmps16
    go_wp2_with fail
    refine hfa.mono ?_
    rintro e w1 ⟨rfl, hb⟩
    have hfb := hfb w1 hb
    go_wp2_with fail
    refine hfb.mono ?_
    rintro e w2 ⟨rfl, hb2⟩
    go_wp2_with fail
    go_ret
    exact ⟨rfl, below_step hb hb2⟩
  · have hb : idxI (fun f => f.id == b) s.fs = -1 := by
      rcases h with h | h
      · omega
      · exact h
    rw [ha] at hfa
    rw [hb] at hfb
    clear h
    go_enter Try.func16, Try.ntmps16
    go_wp2_with fail
    refine hfa.mono ?_
    rintro e w1 ⟨rfl, hb⟩
    have hfb := hfb w1 hb
    go_wp2_with fail
    refine hfb.mono ?_
    rintro e w2 ⟨rfl, hb2⟩
    go_wp2_with fail
    go_ret
    exact ⟨rfl, below_step hb hb2⟩

set_option maxHeartbeats 4000000 in
theorem swap_calls {base g : Nat} {v : Value} {s : NetS} (a b : Int) (w : World) (N : NetR w base g v s) (i k : Nat) (fi fk : Fr) (hi : s.fs[i]? = some fi) (hk : s.fs[k]? = some fk) (ha : idxI (fun f => f.id == a) s.fs = i) (hb : idxI (fun f => f.id == b) s.fs = k) :
    Calls Try.prog 16 #[.pointer (some ⟨g, 0, none⟩), .int .i64 a, .int .i64 b] w fun e w' => e = .returned (.int .i64 0) ∧ (∃ v', NetR w' base g v' ⟨s.last, s.lost, (s.fs.set i fk).set k fi⟩) ∧ Keeps netT base w w' := by
  have HN := Aside0.mk N
  have HI := Aside0.mk hi
  have HK := Aside0.mk hk
  obtain ⟨hil, hfi⟩ := List.getElem?_eq_some_iff.1 hi
  obtain ⟨hkl, hfk⟩ := List.getElem?_eq_some_iff.1 hk
  clear hi hk
  have hfa := find_calls a w N
  have hfb := fun w1 (hb : Below w.heap.size w w1) => find_calls b w1 (N.below hb)
  rw [ha] at hfa
  rw [hb] at hfb
  obtain ⟨gr, cap, rfl⟩ : ∃ gr cap, v = .slice (some ⟨gr, 0, none⟩) s.fs.length cap := by
    rcases N.row.2 with ⟨_, h0⟩ | ⟨g', cap, cur, rfl, _⟩
    · omega
    · exact ⟨_, _, rfl⟩
  have hmx : s.fs.length ≤ 9223372036854775807 := by
    obtain ⟨A, c, he, h1, h2⟩ := N.shape
    simp only [maxLen] at h2; omega
  clear ha hb N
  go_enter Try.func16, Try.ntmps16
  go_wp2_with fail
  refine hfa.mono ?_
  rintro e w1 ⟨rfl, hb1⟩
  have hfb := hfb w1 hb1
  have HB1 := Aside0.mk hb1
  clear hb1
  go_wp2_with fail
  refine hfb.mono ?_
  rintro e w2 ⟨rfl, hb2⟩
  have HB2 := Aside0.mk (below_step HB1.out hb2)
  have hNd := HN.out.below HB2.out
  obtain ⟨c0, c1, c2, c3⟩ := hNd.cells
  obtain ⟨d0, d1, d2, d3, dz⟩ := own_frame hNd.row i hil
  obtain ⟨e0, e1, e2, e3, _⟩ := own_frame hNd.row k hkl
  have hui := (hNd.bytes _ (List.getElem_mem hil))
  have huk := (hNd.bytes _ (List.getElem_mem hkl))
  rw [hfi] at d0 d1 d2 d3 hui
  rw [hfk] at e0 e1 e2 e3 huk
  obtain ⟨iid, iwhom, idue, ib, iu⟩ := fi
  obtain ⟨kid, kwhom, kdue, kb, ku⟩ := fk
  obtain ⟨Ai, ci, hAi, _⟩ := hui
  obtain ⟨Ak, ck, hAk, _⟩ := huk
  simp only at d0 d1 d2 d3 e0 e1 e2 e3 hAi hAk
  subst hAi hAk
  have HND := Aside0.mk hNd
  clear hb2 hfa hfb hNd
  have hii : (i : Int) < (s.fs.length : Int) := by omega
  have hkk : (k : Int) < (s.fs.length : Int) := by omega
  clear hfi hfk
  go_upto_region 4 with fail
  have hset : ∀ (W : World) (j : Nat) (x y : Value), W.cell? ⟨gr, i * 4 + j, none⟩ = some y → W.cell? ⟨gr, k * 4 + j, none⟩ = some x → (W.setCell ⟨gr, i * 4 + j, none⟩ x).cell? ⟨gr, k * 4 + j, none⟩ = some x := fun W j x y h1 h2 => by
    by_cases h : i = k
    · subst h
      exact World.cell?_setCell_same _ _ _ h1
    · rw [World.cell?_setCell_other _ _ _ _ (by intro he; simp only [Addr.mk.injEq] at he; omega)]
      exact h2
  have oth : ∀ (W : World) (p j j' : Nat) (x : Value), j' < j → j < 4 → (W.setCell ⟨gr, i * 4 + j', none⟩ x).cell? ⟨gr, p * 4 + j, none⟩ = W.cell? ⟨gr, p * 4 + j, none⟩ := fun W p j j' x h1 h2 => World.cell?_setCell_other _ _ _ _ (by intro he; simp only [Addr.mk.injEq] at he; omega)
  obtain ⟨W1, hW1⟩ : ∃ W1, W1 = w2.setCell ⟨gr, i * 4 + 0, none⟩ (.int .i64 kid) := ⟨_, rfl⟩
  obtain ⟨W2, hW2⟩ : ∃ W2, W2 = W1.setCell ⟨gr, i * 4 + 1, none⟩ (.int .i64 kwhom) := ⟨_, rfl⟩
  obtain ⟨W3, hW3⟩ : ∃ W3, W3 = W2.setCell ⟨gr, i * 4 + 2, none⟩ (.int .i64 kdue) := ⟨_, rfl⟩
  have f0 := hset w2 0 _ _ d0 e0
  have f1 := hset W1 1 _ _ (by rw [hW1, oth _ _ _ _ _ (by omega) (by omega)]; exact d1) (by rw [hW1, oth _ _ _ _ _ (by omega) (by omega)]; exact e1)
  have f2 := hset W2 2 _ _ (by rw [hW2, oth _ _ _ _ _ (by omega) (by omega), hW1, oth _ _ _ _ _ (by omega) (by omega)]; exact d2) (by rw [hW2, oth _ _ _ _ _ (by omega) (by omega), hW1, oth _ _ _ _ _ (by omega) (by omega)]; exact e2)
  have f3 := hset W3 3 _ _ (by rw [hW3, oth _ _ _ _ _ (by omega) (by omega), hW2, oth _ _ _ _ _ (by omega) (by omega), hW1, oth _ _ _ _ _ (by omega) (by omega)]; exact d3) (by rw [hW3, oth _ _ _ _ _ (by omega) (by omega), hW2, oth _ _ _ _ _ (by omega) (by omega), hW1, oth _ _ _ _ _ (by omega) (by omega)]; exact e3)
  rw [hW3, hW2, hW1] at f3
  rw [hW2, hW1] at f2
  rw [hW1] at f1
  simp only [Nat.add_zero] at f0 f1 f2 f3
  clear hW1 hW2 hW3 oth
  clear hset
  go_region
  go_wp2_with fail
  go_ret
  have N2 := HND.out
  obtain ⟨o1, g1⟩ := own_set4 frC_len (y := (⟨kid, kwhom, kdue, kb, .slice Ak kb.length ck⟩ : Fr)) rfl N2.row i hil
  obtain ⟨o2, g2⟩ := own_set4 frC_len (xs := s.fs.set i ⟨kid, kwhom, kdue, kb, .slice Ak kb.length ck⟩) (y := (⟨iid, iwhom, idue, ib, .slice Ai ib.length ci⟩ : Fr)) rfl (by rw [List.length_set]; exact o1) k (by rw [List.length_set]; exact hkl)
  have hK1 : Keeps frT base w2 _ := Keeps.grown g1 fun j hj => by
    obtain ⟨h1, cur, fr, e', h2, rfl⟩ := own_row N2.row j hj
    exact ⟨h1, cur, _, fr, h2, rfl⟩
  have hK2 := Keeps.grown (T := frT) g2 fun j hj => by
    obtain ⟨h1, cur, fr, e', h2, rfl⟩ := own_row o1 j hj
    exact ⟨h1, cur, _, fr, h2, rfl⟩
  have hK := (hK1.trans hK2).drew
  refine ⟨rfl, ⟨.slice (some ⟨gr, 0, none⟩) s.fs.length cap, N2.ge, heap_keeps N2.box hK (.inr (by unfold frT; decide)), ?_, fun f hf => ?_⟩, (Keeps.of_below HB2.out).trans (hK.wider (fun e he => .inr he) (Nat.le_refl _))⟩
  · have o2 := own_below o2 (Below.refl _ _).drew
    rw [List.length_set] at o2
    rw [List.length_set, List.length_set]
    exact o2
  · refine (?_ : Sl bv 5 w2 base f.u f.b).keeps hK (by unfold frT; decide) (Nat.le_refl _)
    rcases List.mem_or_eq_of_mem_set hf with hf | rfl
    · rcases List.mem_or_eq_of_mem_set hf with hf | rfl
      · exact N2.bytes f hf
      · exact N2.bytes _ (List.mem_of_getElem? HK.out)
    · exact N2.bytes _ (List.mem_of_getElem? HI.out)
end Go.Proofs.Ytmpmngfimeojhaa
