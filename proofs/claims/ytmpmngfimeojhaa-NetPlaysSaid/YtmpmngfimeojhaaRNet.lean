/-
  The reference's net, as it lies in memory; the place of a frame; Send. No condition but that the net, and the bytes, can be read, and that they are not more than memory.
-/
import Derived.Test.YtmpmngfimeojhaaNetSwap
import Derived.Test.YtmpmngfimeojhaaAppRows
namespace Go.Proofs.Ytmpmngfimeojhaa
open Go.RowKit Go.Joins
set_option linter.unusedVariables false
set_option linter.unusedSimpArgs false

def rnT (e : Nat) : Prop := e = 51 ∨ e = 67
/-- The reference's net, as it lies in memory. -/
structure RNet (w : World) (base : Nat) (g : Nat) (v : Value) (s : NetS) : Prop where
  ge : base ≤ g
  box : w.heap[g]? = some (.cells #[.int .i64 s.last, .int .i64 s.lost, v] 51 (0, 0))
  row : w.ownsRow base 67 4 v s.fs.length (s.fs.flatMap frC)
  bytes : ∀ f ∈ s.fs, Sl bv 5 w base f.u f.b
theorem RNet.keeps {w w' : World} {base base' g : Nat} {v : Value} {s : NetS} {T : Nat → Prop} (h : RNet w base g v s) (hk : Keeps T base' w w') (h1 : ¬ T 51) (h2 : ¬ T 67) (h3 : ¬ T 5) (hb : base ≤ base') : RNet w' base g v s :=
  ⟨h.ge, heap_keeps h.box hk (.inr h1), own_keeps h.row hk h2, fun f hf => (h.bytes f hf).keeps hk h3 hb⟩
theorem RNet.below {w w' : World} {base g : Nat} {v : Value} {s : NetS} (h : RNet w base g v s) (hk : Below w.heap.size w w') : RNet w' base g v s :=
  h.keeps (T := fun _ => False) (.of_below hk) (fun h => h) (fun h => h) (fun h => h) (Nat.le_refl _)
theorem RNet.cells {w : World} {base g : Nat} {v : Value} {s : NetS} (h : RNet w base g v s) : w.cell? ⟨g, 0, none⟩ = some (.int .i64 s.last) ∧ w.cell? ⟨g, 1, none⟩ = some (.int .i64 s.lost) ∧ w.cell? ⟨g, 2, none⟩ = some v ∧ (∀ j, w.frozen? ⟨g, j, none⟩ = false) := by
  obtain ⟨h1, h2⟩ := blk h.box
  exact ⟨h1 0, h1 1, h1 2, h2⟩
theorem RNet.shape {w : World} {base g : Nat} {v : Value} {s : NetS} (h : RNet w base g v s) : ∃ A c, v = .slice A s.fs.length c ∧ s.fs.length ≤ c ∧ c ≤ maxLen := by
  obtain ⟨A, c, h1, h2, h3, _⟩ := SlC.of_own h.row 0
  exact ⟨A, c, h1, h2, h3⟩
theorem RNet.setLast {w : World} {base g : Nat} {v : Value} {s : NetS} (h : RNet w base g v s) (n : Int) : RNet (w.setCell ⟨g, 0, none⟩ (.int .i64 n)) base g v { s with last := n } ∧ Keeps rnT base w (w.setCell ⟨g, 0, none⟩ (.int .i64 n)) := by
  have hk : Keeps (fun e => e = 51) base w (w.setCell ⟨g, 0, none⟩ (.int .i64 n)) := Keeps.setCell (T := fun e => e = 51) (a := ⟨g, 0, none⟩) h.ge h.box rfl _
  refine ⟨⟨h.ge, ?_, own_keeps h.row hk (by decide), fun f hf => (h.bytes f hf).keeps hk (by decide) (Nat.le_refl _)⟩, hk.wider (fun e he => .inl he) (Nat.le_refl _)⟩
  rw [block_setCell h.box]; rfl
theorem RNet.setLost {w : World} {base g : Nat} {v : Value} {s : NetS} (h : RNet w base g v s) (n : Int) : RNet (w.setCell ⟨g, 1, none⟩ (.int .i64 n)) base g v { s with lost := n } ∧ Keeps rnT base w (w.setCell ⟨g, 1, none⟩ (.int .i64 n)) := by
  have hk : Keeps (fun e => e = 51) base w (w.setCell ⟨g, 1, none⟩ (.int .i64 n)) := Keeps.setCell (T := fun e => e = 51) (a := ⟨g, 1, none⟩) h.ge h.box rfl _
  refine ⟨⟨h.ge, ?_, own_keeps h.row hk (by decide), fun f hf => (h.bytes f hf).keeps hk (by decide) (Nat.le_refl _)⟩, hk.wider (fun e he => .inl he) (Nat.le_refl _)⟩
  rw [block_setCell h.box]; rfl
theorem RNet.setRow {w : World} {base g : Nat} {v v' : Value} {last lost : Int} {fs : List Fr} (hg : base ≤ g) (hbox : w.heap[g]? = some (.cells #[.int .i64 last, .int .i64 lost, v] 51 (0, 0))) (hr : w.ownsRow base 67 4 v' fs.length (fs.flatMap frC))
    (hb : ∀ f ∈ fs, Sl bv 5 w base f.u f.b) : RNet (w.setCell ⟨g, 2, none⟩ v') base g v' ⟨last, lost, fs⟩ ∧ Keeps rnT base w (w.setCell ⟨g, 2, none⟩ v') := by
  have hk : Keeps (fun e => e = 51) base w (w.setCell ⟨g, 2, none⟩ v') := Keeps.setCell (T := fun e => e = 51) (a := ⟨g, 2, none⟩) hg hbox rfl _
  refine ⟨⟨hg, ?_, own_keeps hr hk (by decide), fun f hf => (hb f hf).keeps hk (by decide) (Nat.le_refl _)⟩, hk.wider (fun e he => .inl he) (Nat.le_refl _)⟩
  rw [block_setCell hbox]; rfl
theorem info_rf : (Try.prog.info? 67).map (fun i => (i.zero, i.size, i.bytes)) = some (some (.agg #[.int .i64 0, .int .i64 0, .int .i64 0, .slice none 0 0]), 4, 48) := by kernel_rfl
/-- Of a frame that can be read each cell is one. -/
theorem frC_one {w : World} {b e : Nat} {f : Fr} (h : Sl bv e w b f.u f.b) : ∀ c ∈ frC f, c.oneCell' = true := by
  obtain ⟨A, c, hu, _⟩ := h
  intro x hx
  simp only [frC, List.mem_cons, List.not_mem_nil, or_false] at hx
  rcases hx with rfl | rfl | rfl | rfl <;> first | rfl | (rw [hu]; rfl)

set_option maxHeartbeats 1000000 in
theorem at_calls {base g : Nat} {v : Value} {s : NetS} (id : Int) (w : World) (N : RNet w base g v s) :
    Calls Try.prog 34 #[.pointer (some ⟨g, 0, none⟩), .int .i64 id] w fun e w' => e = .returned (.int .i64 (idxI (fun f => f.id == id) s.fs)) ∧ w = w' := by
  have HN := Aside0.mk N
  obtain ⟨c0, c1, c2, c3⟩ := N.cells
  obtain ⟨A, c, rfl, hc, hm⟩ := N.shape
  have hmx : s.fs.length ≤ 9223372036854775807 := by simp only [maxLen] at hm; omega
  clear N
  go_enter Try.func34, Try.ntmps34
  go_wp2_with fail
  go_loopw [5] (fun i wr => ∃ n : Nat, n ≤ s.fs.length ∧ i = .int .i64 n ∧ wr = w ∧ Aside0 (∀ j (hj : j < s.fs.length), j < n → ((s.fs[j]'hj).id == id) = false)) (fun i wr => s.fs.length - (intOf i).toNat)
  case atStart => exact ⟨0, Nat.zero_le _, rfl, rfl, ⟨fun j _ hj => absurd hj (Nat.not_lt_zero _)⟩⟩
  case round =>
    obtain ⟨n, hn, rfl, rfl, hs⟩ := hrel
    by_cases hlt : n < s.fs.length
    · obtain ⟨ad, c', he, d0, d1, d2, d3⟩ := frame_at (SlC.of_own HN.out.row 0) n hlt
      cases he
      obtain ⟨i0, hi0⟩ : ∃ i0, i0 = (s.fs[n]'hlt).id := ⟨_, rfl⟩
      rw [← hi0] at d0
      have HI := Aside0.mk hi0
      clear hi0 d1 d2 d3
      by_cases hq : i0 = id
      · have hq1 : (i0 == id) = true := by simpa using hq
        have HQ := Aside0.mk hq1
        clear hq
        go_wp2_with fail
        go_ret
        exact ⟨by rw [idxI_hit _ s.fs n hlt (by rw [← HI.out]; exact HQ.out) (fun j hj => hs.out j (by omega) hj)]; rfl, by first | rfl | trivial⟩
      · have hq1 : (i0 == id) = false := by simpa using hq
        have HQ := Aside0.mk hq1
        go_wp2_with fail
        go_roundw
        case rel =>
          refine ⟨n + 1, by omega, by go_num, by first | rfl | trivial, ⟨fun j hj hjn => ?_⟩⟩
          by_cases he : j = n
          · subst he; rw [← HI.out]; exact HQ.out
          · exact hs.out j hj (by omega)
        case measure => simp [intOf]; omega
    · go_wp2_with fail
      go_ret
      exact ⟨by rw [idxI_miss _ s.fs (fun j hj => hs.out j hj (by omega))]; rfl, by first | rfl | trivial⟩
end Go.Proofs.Ytmpmngfimeojhaa
