/-
  A net's Lose. No condition but that the net can be read.
-/
import Derived.Test.YtmpmngfimeojhaaNetDel
namespace Go.Proofs.Ytmpmngfimeojhaa
open Go.RowKit Go.Joins
set_option linter.unusedVariables false
set_option linter.unusedSimpArgs false

theorem NetR.setLost {w : World} {base g : Nat} {v : Value} {s : NetS} (h : NetR w base g v s) (n : Int) : NetR (w.setCell ⟨g, 1, none⟩ (.int .i64 n)) base g v { s with lost := n } ∧ Keeps netT base w (w.setCell ⟨g, 1, none⟩ (.int .i64 n)) := by
  have hk : Keeps (fun e => e = 61) base w (w.setCell ⟨g, 1, none⟩ (.int .i64 n)) := Keeps.setCell (T := fun e => e = 61) (a := ⟨g, 1, none⟩) h.ge h.box rfl _
  refine ⟨⟨h.ge, ?_, own_keeps h.row hk (by decide), fun f hf => (h.bytes f hf).keeps hk (by decide) (Nat.le_refl _)⟩, hk.wider (fun e he => .inl he) (Nat.le_refl _)⟩
  rw [block_setCell h.box]; rfl

set_option maxHeartbeats 1000000 in
theorem lose_bad {base g : Nat} {v : Value} {s : NetS} (id : Int) (w : World) (N : NetR w base g v s) (h : idxI (fun f => f.id == id) s.fs = -1) :
    Calls Try.prog 11 #[.pointer (some ⟨g, 0, none⟩), .int .i64 id] w fun e w' => e = .returned (.int .i64 5) ∧ Below w.heap.size w w' := by
  go_enter Try.func11, Try.ntmps11
  go_wp2_with fail
  refine (find_calls id w N).mono ?_
  rintro e w1 ⟨rfl, hb⟩
  rw [h]
  go_wp2_with fail
  go_ret
  exact ⟨rfl, hb⟩
set_option maxHeartbeats 1000000 in
theorem lose_nil (id : Int) (w : World) :
    Calls Try.prog 11 #[.pointer none, .int .i64 id] w fun e w' => e = .returned (.int .i64 5) ∧ Below w.heap.size w w' := by
  go_enter Try.func11, Try.ntmps11
  go_wp2_with fail
  refine (find_nil id w).mono ?_
  rintro e w1 ⟨rfl, hb⟩
  go_wp2_with fail
  go_ret
  exact ⟨rfl, hb⟩

set_option maxHeartbeats 1000000 in
theorem lose_calls {base g : Nat} {v : Value} {s : NetS} (id : Int) (w : World) (N : NetR w base g v s) (i : Nat) (hi : i < s.fs.length) (h : idxI (fun f => f.id == id) s.fs = i) (hl : 0 ≤ s.lost ∧ s.lost ≤ 1099511627776) :
    Calls Try.prog 11 #[.pointer (some ⟨g, 0, none⟩), .int .i64 id] w fun e w' => e = .returned (.int .i64 0) ∧ (∃ v', NetR w' base g v' ⟨s.last, s.lost + 1, s.fs.eraseIdx i⟩) ∧ Keeps netT base w w' := by
  have HN := Aside0.mk N
  have hx := find_calls id w N
  rw [h] at hx
  obtain ⟨gr, cap, rfl⟩ : ∃ gr cap, v = .slice (some ⟨gr, 0, none⟩) s.fs.length cap := by
    rcases N.row.2 with ⟨_, h0⟩ | ⟨g', cap, cur, rfl, _⟩
    · omega
    · exact ⟨_, _, rfl⟩
  have hmx : s.fs.length ≤ 9223372036854775807 := by
    obtain ⟨A, c, he, h1, h2⟩ := N.shape
    simp only [maxLen] at h2; omega
  obtain ⟨hl1, hl2⟩ := hl
  clear h N
  go_enter Try.func11, Try.ntmps11
  go_wp2_with fail
  refine hx.mono ?_
  rintro e w1 ⟨rfl, hb1⟩
  have N1 := Aside0.mk (HN.out.below hb1)
  have HB1 := Aside0.mk hb1
  obtain ⟨c0, c1, c2, c3⟩ := N1.out.cells
  have hd := delete_calls i w1 N1.out.row (fun f hf => by obtain ⟨A, c, e, _⟩ := N1.out.bytes f hf; exact ⟨A, _, c, e⟩) hi
  clear hb1 hx
  go_wp2_with fail
  refine hd.mono ?_
  rintro e w2 ⟨⟨v', rfl, hO⟩, hK⟩
  have hbox2 := heap_keeps N1.out.box hK (.inr (by unfold frT; decide))
  have d1 := (blk hbox2).1 1
  have d2 := (blk hbox2).1 2
  have dz := (blk hbox2).2
  simp at d1 d2
  have HO := Aside0.mk hO
  have HK := Aside0.mk hK
  have HX := Aside0.mk hbox2
  obtain ⟨Av, cv, rfl, _⟩ := SlC.of_own hO 0
  clear hO hK hbox2
  go_wp2_with fail
  go_ret
  obtain ⟨NR, KR⟩ := NetR.setRow (v' := .slice Av (s.fs.eraseIdx i).length cv) (fs := s.fs.eraseIdx i) HN.out.ge HX.out HO.out (fun f hf => (N1.out.bytes f (List.mem_of_mem_eraseIdx hf)).keeps HK.out (by unfold frT; decide) (Nat.le_refl _))
  obtain ⟨NR2, KR2⟩ := NR.setLost (s.lost + 1)
  exact ⟨rfl, ⟨_, NR2⟩, (((Keeps.of_below HB1.out).trans (HK.out.wider (fun e he => .inr he) (Nat.le_refl _))).trans KR).trans KR2⟩
end Go.Proofs.Ytmpmngfimeojhaa
