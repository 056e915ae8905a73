/-
  What waits on a net, as it lies in memory; the place of a frame. No condition but that the net can be read.
-/
import Derived.Test.YtmpmngfimeojhaaProg
import Derived.Test.YtmpmngfimeojhaaRecs
import Derived.Test.YtmpmngfimeojhaaClone
import Derived.RegionTactic
import Derived.Shelf.SlicesQ.Load
namespace Go.Proofs.Ytmpmngfimeojhaa
open Go.RowKit
set_option linter.unusedVariables false
set_option linter.unusedSimpArgs false

/-- A frame that waits: its number, whom it goes to, when it is due, its bytes, and where they lie. -/
structure Fr where
  id : Int
  whom : Int
  due : Int
  b : List UInt8
  u : Value
def frC (f : Fr) : List Value := [.int .i64 f.id, .int .i64 f.whom, .int .i64 f.due, f.u]
theorem frC_len (f : Fr) : (frC f).length = 4 := rfl

/-- A frame's four cells, in the walk's spelling. -/
theorem frame_at {e : Nat} {w : World} {base : Nat} {v : Value} {fs : List Fr} (h : SlC frC e w base v fs) (i : Nat) (hi : i < fs.length) : ∃ ad c, v = .slice (some ad) fs.length c ∧
    w.cell? (ad.add (i * 4)) = some (.int .i64 (fs[i]'hi).id) ∧ w.cell? ⟨(ad.add (i * 4)).block, (ad.add (i * 4)).off + 1, none⟩ = some (.int .i64 (fs[i]'hi).whom) ∧
    w.cell? ⟨(ad.add (i * 4)).block, (ad.add (i * 4)).off + 2, none⟩ = some (.int .i64 (fs[i]'hi).due) ∧ w.cell? ⟨(ad.add (i * 4)).block, (ad.add (i * 4)).off + 3, none⟩ = some (fs[i]'hi).u := by
  obtain ⟨ad, c, rfl, hcell⟩ := h.at frC_len (by decide) i hi
  refine ⟨ad, c, rfl, ?_, ?_, ?_, ?_⟩
  · exact hcell 0 _ rfl
  · have h := hcell 1 _ rfl; rw [← add_add] at h; exact h
  · have h := hcell 2 _ rfl; rw [← add_add] at h; exact h
  · have h := hcell 3 _ rfl; rw [← add_add] at h; exact h

theorem find1_calls (f : Fr) (id : Int) (B : Nat) (w : World) (hB : w.cell? ⟨B, 0, none⟩ = some (.int .i64 id)) :
    Calls Try.prog 37 #[.agg #[.int .i64 f.id, .int .i64 f.whom, .int .i64 f.due, f.u], .pointer (some ⟨B, 0, none⟩)] w fun e w' => e = .returned (.bool (f.id == id)) ∧ Below w.heap.size w w' := by
  have hlt : B < w.heap.size := World.block_lt_of_cell? w _ hB
  have hne : B ≠ w.heap.size := by omega
  go_enter Try.func37, Try.ntmps37
  go_wp2
  go_ret
  exact ⟨rfl, (Below.refl _ _).alloc (Nat.le_refl _) _⟩

/-- The first place at which p holds, or -1. -/
def idxI {α : Type} (p : α → Bool) (xs : List α) : Int := if xs.any p then (xs.findIdx p : Int) else -1
theorem idxI_hit {α : Type} (p : α → Bool) (xs : List α) (n : Nat) (hn : n < xs.length) (hp : p (xs[n]'hn) = true) (h : ∀ j (hj : j < n), p (xs[j]'(by omega)) = false) : idxI p xs = n := by
  unfold idxI
  rw [if_pos (List.any_eq_true.2 ⟨_, List.getElem_mem hn, hp⟩), (List.findIdx_eq hn).2 ⟨hp, fun j hj => h j hj⟩]
theorem idxI_miss {α : Type} (p : α → Bool) (xs : List α) (h : ∀ j (hj : j < xs.length), p (xs[j]'hj) = false) : idxI p xs = -1 := by
  unfold idxI
  rw [if_neg]
  rw [List.any_eq_true]
  rintro ⟨x, hx, hp⟩
  obtain ⟨j, hj, rfl⟩ := List.getElem_of_mem hx
  rw [h j hj] at hp; cases hp

set_option maxHeartbeats 1000000 in
theorem index_calls {e b0 : Nat} {v : Value} {fs : List Fr} (p : Fr → Bool) (g : Nat) (lb : Array Value) (w : World) (hv : SlC frC e w b0 v fs) (eg : ∀ args w, (callFunc g args).run Try.prog w = .ok (.enter g args) w)
    (hp : ∀ W f, Below w.heap.size w W → Calls Try.prog g (#[.agg #[.int .i64 f.id, .int .i64 f.whom, .int .i64 f.due, f.u]] ++ lb) W fun e w' => e = .returned (.bool (p f)) ∧ Below W.heap.size W w') :
    Calls Try.prog 36 #[v, .func (.func g) #[] lb] w fun e w' => e = .returned (.int .i64 (idxI p fs)) ∧ Below w.heap.size w w' := by
  have HV := Aside0.mk hv
  obtain ⟨A, c, rfl, hc, hm, hR⟩ := hv
  clear hR
  have hmx : fs.length ≤ 9223372036854775807 := by simp only [maxLen] at hm; omega
  go_enter Try.func36, Try.ntmps36
  go_wp2
  go_loopw [8] (fun i wr => ∃ n : Nat, n ≤ fs.length ∧ i = .int .i64 n ∧ Aside0 (Below w.heap.size w wr ∧ ∀ j (hj : j < fs.length), j < n → p (fs[j]'hj) = false)) (fun i wr => fs.length - (intOf i).toNat)
  case atStart => exact ⟨0, Nat.zero_le _, rfl, ⟨Below.refl _ _, fun j _ hj => absurd hj (Nat.not_lt_zero _)⟩⟩
  case round =>
    obtain ⟨n, hn, rfl, hs⟩ := hrel
    by_cases hlt : n < fs.length
    · obtain ⟨ad, c', he, c0, c1, c2, c3⟩ := frame_at (HV.out.below hs.out.1) n hlt
      cases he
      obtain ⟨f, hf⟩ : ∃ f, f = fs[n]'hlt := ⟨_, rfl⟩
      rw [← hf] at c0 c1 c2 c3
      have HF := Aside0.mk hf
      clear hf
      have hcall := hp wr f hs.out.1
      clear hp
      cases hq : p f with
      | true =>
        rw [hq] at hcall
        go_wp2_with (go_at_fn g; refine hcall.mono ?_; rintro e w' ⟨rfl, hb'⟩)
        go_ret
        exact ⟨by rw [idxI_hit p fs n hlt (by rw [← HF.out]; exact hq) (fun j hj => hs.out.2 j (by omega) hj)]; rfl, below_step hs.out.1 hb'⟩
      | false =>
        rw [hq] at hcall
        go_wp2_with (go_at_fn g; refine hcall.mono ?_; rintro e w' ⟨rfl, hb'⟩)
        go_roundw
        case rel =>
          refine ⟨n + 1, by omega, by go_num, ⟨below_step hs.out.1 hb', fun j hj hjn => ?_⟩⟩
          by_cases he : j = n
          · subst he; rw [← HF.out]; exact hq
          · exact hs.out.2 j hj (by omega)
        case measure => simp [intOf]; omega
    · go_wp2
      go_ret
      exact ⟨by rw [idxI_miss p fs (fun j hj => hs.out.2 j hj (by omega))]; rfl, hs.out.1⟩

/-- What a net holds. -/
structure NetS where
  last : Int
  lost : Int
  fs : List Fr
def netT (e : Nat) : Prop := e = 61 ∨ e = 42
/-- A net, as it lies in memory. -/
structure NetR (w : World) (base : Nat) (g : Nat) (v : Value) (s : NetS) : Prop where
  ge : base ≤ g
  box : w.heap[g]? = some (.cells #[.int .i64 s.last, .int .i64 s.lost, v] 61 (0, 0))
  row : w.ownsRow base 42 4 v s.fs.length (s.fs.flatMap frC)
  bytes : ∀ f ∈ s.fs, Sl bv 5 w base f.u f.b
theorem netT_u8 : ¬ netT 5 := by unfold netT; decide
theorem NetR.keeps {w w' : World} {base base' g : Nat} {v : Value} {s : NetS} {T : Nat → Prop} (h : NetR w base g v s) (hk : Keeps T base' w w') (h1 : ¬ T 61) (h2 : ¬ T 42) (h3 : ¬ T 5) (hb : base ≤ base') : NetR w' base g v s :=
  ⟨h.ge, heap_keeps h.box hk (.inr h1), own_keeps h.row hk h2, fun f hf => (h.bytes f hf).keeps hk h3 hb⟩
theorem NetR.below {w w' : World} {base g : Nat} {v : Value} {s : NetS} (h : NetR w base g v s) (hk : Below w.heap.size w w') : NetR w' base g v s :=
  h.keeps (T := fun _ => False) (.of_below hk) (fun h => h) (fun h => h) (fun h => h) (Nat.le_refl _)
theorem NetR.cells {w : World} {base g : Nat} {v : Value} {s : NetS} (h : NetR w base g v s) : w.cell? ⟨g, 0, none⟩ = some (.int .i64 s.last) ∧ w.cell? ⟨g, 1, none⟩ = some (.int .i64 s.lost) ∧ w.cell? ⟨g, 2, none⟩ = some v ∧ (∀ j, w.frozen? ⟨g, j, none⟩ = false) := by
  obtain ⟨h1, h2⟩ := blk h.box
  exact ⟨h1 0, h1 1, h1 2, h2⟩
theorem NetR.shape {w : World} {base g : Nat} {v : Value} {s : NetS} (h : NetR w base g v s) : ∃ A c, v = .slice A s.fs.length c ∧ s.fs.length ≤ c ∧ c ≤ maxLen := by
  obtain ⟨A, c, h1, h2, h3, _⟩ := SlC.of_own h.row 0
  exact ⟨A, c, h1, h2, h3⟩

theorem find1_enters : ∀ args w, (callFunc 37 args).run Try.prog w = .ok (.enter 37 args) w := enters_of Try.func37 (by kernel_rfl) rfl
set_option maxHeartbeats 400000 in
theorem find_calls {base g : Nat} {v : Value} {s : NetS} (id : Int) (w : World) (h : NetR w base g v s) :
    Calls Try.prog 27 #[.pointer (some ⟨g, 0, none⟩), .int .i64 id] w fun e w' => e = .returned (.int .i64 (idxI (fun f => f.id == id) s.fs)) ∧ Below w.heap.size w w' := by
  have H := Aside0.mk h
  obtain ⟨c0, c1, c2, c3⟩ := h.cells
  have hlt := blk_lt h.box
  clear h
  have HB0 : Aside0 (∀ (w : World) o, Below w.heap.size w (w.alloc o)) := ⟨fun w o => (Below.refl _ _).alloc (Nat.le_refl _) _⟩
  have hne : g ≠ w.heap.size := by omega
  go_enter Try.func27, Try.ntmps27
  go_wp2_with fail
  refine (index_calls (fun f => f.id == id) 37 #[.pointer (some ⟨w.heap.size, 0, none⟩)] _ ((SlC.of_own H.out.row w.heap.size).below (HB0.out _ _)) find1_enters (fun W f hW => find1_calls f id w.heap.size W (cell_keep hW ((blk (heap_new rfl)).1 0)))).mono ?_
  rintro e w1 ⟨rfl, hb⟩
  go_wp2_with fail
  go_ret
  exact ⟨rfl, below_step (HB0.out _ _) hb⟩
set_option maxHeartbeats 1000000 in
theorem find_nil (id : Int) (w : World) :
    Calls Try.prog 27 #[.pointer none, .int .i64 id] w fun e w' => e = .returned (.int .i64 (-1)) ∧ Below w.heap.size w w' := by
  go_enter Try.func27, Try.ntmps27
  go_wp2_with fail
  go_ret
  exact ⟨rfl, (Below.refl _ _).alloc (Nat.le_refl _) _⟩
end Go.Proofs.Ytmpmngfimeojhaa
