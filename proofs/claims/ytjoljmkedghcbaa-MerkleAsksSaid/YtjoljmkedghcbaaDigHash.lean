/-
  The hasher: start, Len, Copy, Add. No condition but that the hasher's cells are known.
-/
import Derived.Test.YtjoljmkedghcbaaDigStep
import Derived.Test.YtjoljmkedghcbaaDigPure
import Derived.Deep.RegionHeld3
import Derived.Test.YtjoljmkedghcbaaDigConcat
namespace Go.Proofs.Ytjoljmkedghcbaa
open Go.RowKit
set_option linter.unusedVariables false
set_option linter.unusedSimpArgs false

/-- A hasher's cells. -/
def hC (s : St) (on : Bool) (wv : Value) (n : Nat) : Array Value :=
  #[.int .u32 (s.a.toNat : Int), .int .u32 (s.b.toNat : Int), .int .u32 (s.c.toNat : Int), .int .u32 (s.d.toNat : Int), .int .u32 (s.e.toNat : Int), .int .u32 (s.f.toNat : Int), .int .u32 (s.g.toNat : Int), .int .u32 (s.h.toNat : Int), .bool on, wv, .int .i64 (n : Int)]
def HB (w : World) (g : Nat) (s : St) (on : Bool) (wv : Value) (n : Nat) : Prop := w.heap[g]? = some (.cells (hC s on wv n) 56 (0, 0))
theorem HB.cells {w : World} {g : Nat} {s : St} {on : Bool} {wv : Value} {n : Nat} (h : HB w g s on wv n) :
    w.cell? ⟨g, 8, none⟩ = some (.bool on) ∧ w.cell? ⟨g, 9, none⟩ = some wv ∧ w.cell? ⟨g, 10, none⟩ = some (.int .i64 (n : Int)) ∧ w.frozen? ⟨g, 8, none⟩ = false ∧ w.frozen? ⟨g, 9, none⟩ = false ∧ w.frozen? ⟨g, 10, none⟩ = false := by
  obtain ⟨h1, h2⟩ := blk h
  exact ⟨h1 8, h1 9, h1 10, h2 8, h2 9, h2 10⟩
theorem HB.words {w : World} {g : Nat} {s : St} {on : Bool} {wv : Value} {n : Nat} (h : HB w g s on wv n) : w.cell? ⟨g, 0, none⟩ = some (.int .u32 (s.a.toNat : Int)) ∧ w.cell? ⟨g, 1, none⟩ = some (.int .u32 (s.b.toNat : Int)) ∧ w.cell? ⟨g, 2, none⟩ = some (.int .u32 (s.c.toNat : Int)) ∧ w.cell? ⟨g, 3, none⟩ = some (.int .u32 (s.d.toNat : Int)) ∧ w.cell? ⟨g, 4, none⟩ = some (.int .u32 (s.e.toNat : Int)) ∧ w.cell? ⟨g, 5, none⟩ = some (.int .u32 (s.f.toNat : Int)) ∧ w.cell? ⟨g, 6, none⟩ = some (.int .u32 (s.g.toNat : Int)) ∧ w.cell? ⟨g, 7, none⟩ = some (.int .u32 (s.h.toNat : Int)) := by
  obtain ⟨h1, h2⟩ := blk h
  exact ⟨h1 0, h1 1, h1 2, h1 3, h1 4, h1 5, h1 6, h1 7⟩
theorem grown_set (w : World) (g o : Nat) (v : Value) : w.grownBy (w.setCell ⟨g, o, none⟩ v) (some g) := ⟨rfl, rfl, rfl, by simp, fun k hk hne => Below.heap_setCell w ⟨g, o, none⟩ v k (fun e => hne (by rw [e]))⟩
theorem grown_then {a b c : World} {row : Option Nat} (h : a.grownBy b row) (k : b.grownBy c row) : a.grownBy c row :=
  ⟨k.os.trans h.os, k.tape.trans h.tape, k.output.trans h.output, Nat.le_trans h.size k.size, fun i hi hr => (k.block i (Nat.lt_of_lt_of_le hi h.size) hr).trans (h.block i hi hr)⟩
theorem grown_below {a b c : World} {g : Nat} (hb : Below a.heap.size a b) (k : b.grownBy c (some g)) : a.grownBy c (some g) :=
  ⟨k.os.trans hb.os, k.tape.trans hb.tape, k.output.trans hb.output, Nat.le_trans hb.size k.size, fun i hi hr => (k.block i (Nat.lt_of_lt_of_le hi hb.size) hr).trans (hb.block i hi)⟩

set_option maxHeartbeats 1000000 in
theorem start_on {g : Nat} {s : St} {wv : Value} {n : Nat} (w : World) (h : HB w g s true wv n) :
    Calls Try.prog 41 #[.pointer (some ⟨g, 0, none⟩)] w fun e w' => e = .returned (.tuple #[]) ∧ w = w' := by
  obtain ⟨h8, h9, h10, f8, f9, f10⟩ := h.cells
  go_enter Try.func41, Try.ntmps41
  go_wp2_with fail
  go_end0
  exact ⟨rfl, rfl⟩
set_option maxHeartbeats 1000000 in
theorem start_off {g : Nat} {s : St} {wv : Value} {n : Nat} (w : World) (h : HB w g s false wv n) :
    Calls Try.prog 41 #[.pointer (some ⟨g, 0, none⟩)] w fun e w' => e = .returned (.tuple #[]) ∧ HB w' g St0 true wv n ∧ w.grownBy w' (some g) := by
  obtain ⟨h8, h9, h10, f8, f9, f10⟩ := h.cells
  have HH := Aside0.mk h
  go_enter Try.func41, Try.ntmps41
  go_wp2_with fail
  refine (first_calls w).mono ?_
  rintro e w1 ⟨rfl, hb⟩
  have H1 := Aside0.mk (show HB w1 g s false wv n from below_heap hb HH.out)
  have HB1 := Aside0.mk hb
  obtain ⟨h8, h9, h10, f8, f9, f10⟩ := H1.out.cells
  clear hb
  go_wp2_with (refine wpList_store_part rfl 54 (.tmp 11) (.tmp 9) rfl g 0 St0.vs _ 56 rfl rfl H1.out (by show 0 + 8 ≤ 11; decide) info_state (one_vs _) ?_; intro w2 hh2 hgr2; have HH2 := Aside0.mk (show HB w2 g St0 false wv n from hh2); have HG2 := Aside0.mk hgr2; clear hh2 hgr2; obtain ⟨h8, h9, h10, f8, f9, f10⟩ := HH2.out.cells)
  go_end0
  exact ⟨rfl, arr_set HH2.out, grown_below HB1.out (grown_then HG2.out (grown_set _ _ _ _))⟩

/-- A hasher that has taken M in. -/
def IsH (w : World) (g : Nat) (M : List UInt8) : Prop := ∃ s on wv, HB w g s on wv M.length ∧ Sl bv 5 w 0 wv (waitL M) ∧ (on = true → s = stL M) ∧ (on = false → M = [])
/-- The same; what waits lies from block B on. -/
def IsHB (w : World) (g : Nat) (M : List UInt8) (B : Nat) : Prop := ∃ s on wv, HB w g s on wv M.length ∧ Sl bv 5 w 0 wv (waitL M) ∧ (on = true → s = stL M) ∧ (on = false → M = []) ∧ ∀ ad n c, wv = .slice (some ad) n c → B ≤ ad.block
theorem IsHB.isH {w : World} {g B : Nat} {M : List UInt8} (h : IsHB w g M B) : IsH w g M := by
  obtain ⟨s, on, wv, h1, h2, h3, h4, _⟩ := h
  exact ⟨s, on, wv, h1, h2, h3, h4⟩
theorem IsHB.below {w w1 : World} {g B : Nat} {M : List UInt8} (h : IsHB w g M B) (hb : Below w.heap.size w w1) : IsHB w1 g M B := by
  obtain ⟨s, on, wv, h1, h2, h3, h4, h5⟩ := h
  exact ⟨s, on, wv, below_heap hb h1, h2.below hb, h3, h4, h5⟩
/-- Another block is written, one of before. -/
theorem IsHB.other {w w1 : World} {g B r : Nat} {M : List UInt8} (h : IsHB w g M B) (hg : w.grownBy w1 (some r)) (hr : r < B) (hne : g ≠ r) : IsHB w1 g M B := by
  obtain ⟨s, on, wv, h1, ⟨A, c, rfl, hc, hl, hR⟩, h3, h4, h5⟩ := h
  refine ⟨s, on, _, (hg.block _ (blk_lt h1) (fun e => hne (Option.some.inj e))).trans h1, ⟨A, c, rfl, hc, hl, hR.move fun ad hA hn => ?_⟩, h3, h4, h5⟩
  subst hA
  have := h5 ad _ _ rfl
  exact hg.block _ (hR.lt rfl hn) (fun e => by have := Option.some.inj e; omega)
theorem IsH.below {w w1 : World} {g : Nat} {M : List UInt8} (h : IsH w g M) (hb : Below w.heap.size w w1) : IsH w1 g M := by
  obtain ⟨s, on, wv, h1, h2, h3, h4⟩ := h
  exact ⟨s, on, wv, below_heap hb h1, h2.below hb, h3, h4⟩

theorem Sl.head {α : Type} {enc : α → Value} {e : Nat} {w : World} {base n c : Nat} {ad : Addr} {xs : List α} (h : Sl enc e w base (.slice (some ad) n c) xs) (k : Nat) (hk : k ≤ xs.length) : Sl enc e w base (.slice (some ad) k c) (xs.take k) := by
  have := h.cut 0 k (Nat.zero_le _) hk
  have ha : ad.add 0 = ad := rfl
  simpa [ha] using this
theorem step_at {b0 : Nat} {v : Value} {x : List UInt8} (t : St) (w : World) (hv : Sl bv 5 w b0 v x) (hx : x.length = 64) :
    Calls Try.prog 43 #[.agg #[.int .u32 (t.a.toNat : Int), .int .u32 (t.b.toNat : Int), .int .u32 (t.c.toNat : Int), .int .u32 (t.d.toNat : Int), .int .u32 (t.e.toNat : Int), .int .u32 (t.f.toNat : Int), .int .u32 (t.g.toNat : Int), .int .u32 (t.h.toNat : Int)], v] w fun e w' => ∃ t', t' = stepL t x ∧ e = .returned (.agg #[.int .u32 (t'.a.toNat : Int), .int .u32 (t'.b.toNat : Int), .int .u32 (t'.c.toNat : Int), .int .u32 (t'.d.toNat : Int), .int .u32 (t'.e.toNat : Int), .int .u32 (t'.f.toNat : Int), .int .u32 (t'.g.toNat : Int), .int .u32 (t'.h.toNat : Int)]) ∧ Below w.heap.size w w' :=
  (step_calls t w hv hx).mono fun _ _ ⟨h1, h2⟩ => ⟨_, rfl, h1, h2⟩
/-- Eight words are stored. -/
def put8 (w : World) (g : Nat) (t' : St) : World := ((((((((w.setCell ⟨g, 0, none⟩ (.int .u32 (t'.a.toNat : Int))).setCell ⟨g, 1, none⟩ (.int .u32 (t'.b.toNat : Int))).setCell ⟨g, 2, none⟩ (.int .u32 (t'.c.toNat : Int))).setCell ⟨g, 3, none⟩ (.int .u32 (t'.d.toNat : Int))).setCell ⟨g, 4, none⟩ (.int .u32 (t'.e.toNat : Int))).setCell ⟨g, 5, none⟩ (.int .u32 (t'.f.toNat : Int))).setCell ⟨g, 6, none⟩ (.int .u32 (t'.g.toNat : Int))).setCell ⟨g, 7, none⟩ (.int .u32 (t'.h.toNat : Int)))
theorem put8_block {w : World} {g : Nat} {t t' : St} {on : Bool} {wv : Value} {n : Nat} (h : HB w g t on wv n) : HB (put8 w g t') g t' on wv n := by
  unfold HB at h ⊢
  unfold put8
  have e0 := arr_set (i := 0) (u := .int .u32 (t'.a.toNat : Int)) h
  have e1 := arr_set (i := 1) (u := .int .u32 (t'.b.toNat : Int)) e0
  have e2 := arr_set (i := 2) (u := .int .u32 (t'.c.toNat : Int)) e1
  have e3 := arr_set (i := 3) (u := .int .u32 (t'.d.toNat : Int)) e2
  have e4 := arr_set (i := 4) (u := .int .u32 (t'.e.toNat : Int)) e3
  have e5 := arr_set (i := 5) (u := .int .u32 (t'.f.toNat : Int)) e4
  have e6 := arr_set (i := 6) (u := .int .u32 (t'.g.toNat : Int)) e5
  have e7 := arr_set (i := 7) (u := .int .u32 (t'.h.toNat : Int)) e6
  rw [e7]
  simp [hC]
theorem put8_grown (w : World) (g : Nat) (t' : St) : w.grownBy (put8 w g t') (some g) := by
  unfold put8
  exact grown_then (grown_set _ _ _ _) (grown_then (grown_set _ _ _ _) (grown_then (grown_set _ _ _ _) (grown_then (grown_set _ _ _ _) (grown_then (grown_set _ _ _ _) (grown_then (grown_set _ _ _ _) (grown_then (grown_set _ _ _ _) (grown_set _ _ _ _)))))))
theorem Sl.tail {α : Type} {enc : α → Value} {e : Nat} {w : World} {base n c : Nat} {ad : Addr} {xs : List α} (h : Sl enc e w base (.slice (some ad) n c) xs) (k : Nat) (hk : k ≤ xs.length) : Sl enc e w base (.slice (some (ad.add k)) (n - k) (c - k)) (xs.drop k) := by
  have hn : n = xs.length := by obtain ⟨A, c', he, _⟩ := h; cases he; rfl
  subst hn
  have := h.cut k xs.length hk (Nat.le_refl _)
  rwa [List.take_of_length_le (by rw [List.length_drop]; omega)] at this
theorem Sl.tail_all {α : Type} {enc : α → Value} {e : Nat} {w : World} {base n c : Nat} {ad : Addr} {xs : List α} (h : Sl enc e w base (.slice (some ad) n c) xs) (k : Nat) (hk : k ≤ xs.length) (hc : c = k) : Sl enc e w base (.slice (some ad) (n - k) 0) (xs.drop k) := by
  obtain ⟨A, c', he, h1, h2, _⟩ := h
  cases he
  have h0 : xs.drop k = [] := List.drop_eq_nil_of_le (by omega)
  rw [h0]
  exact ⟨_, 0, by rw [show xs.length - k = 0 by omega]; rfl, Nat.zero_le _, by simp, RdT.nil _ _ _ _⟩
theorem pair_list {w : World} {G B : Nat} {u1 u2 : Value} {x1 x2 : List UInt8} (h : w.heap[G]? = some (.cells #[u1, u2] 22 (0, 0))) (h1 : Sl bv 5 w B u1 x1) (h2 : Sl bv 5 w B u2 x2) : SlL w B (.slice (some ⟨G, 0, none⟩) 2 2) [x1, x2] := by
  refine ⟨[u1, u2], rfl, Sl.at h rfl rfl (by decide) (by decide), fun i u x hu hx => ?_⟩
  match i with
  | 0 => cases hu; cases hx; exact h1
  | 1 => cases hu; cases hx; exact h2
  | i + 2 => simp at hu
/-- A row that the call owns, kept where a block of another type is written. -/
theorem slh {w w1 : World} {g : Nat} {s : St} {on : Bool} {wv v : Value} {n : Nat} {xs : List UInt8} (hh : HB w g s on wv n) (h : Sl bv 5 w 0 v xs) (hg : w.grownBy w1 (some g)) : Sl bv 5 w1 0 v xs :=
  h.other hg (fun k hk => by cases hk; exact ⟨Nat.zero_le _, _, _, _, hh, by decide⟩)

set_option maxHeartbeats 4000000 in
set_option maxRecDepth 100000 in
theorem addB_calls {g b0 : Nat} {M x : List UInt8} {v : Value} (w : World) (h : IsH w g M) (hb0 : b0 ≤ g) (hv : Sl bv 5 w b0 v x) (hl : M.length + x.length ≤ 1099511627776) :
    Calls Try.prog 37 #[.pointer (some ⟨g, 0, none⟩), v] w fun e w' => e = .returned (.pointer (some ⟨g, 0, none⟩)) ∧ IsHB w' g (M ++ x) w.heap.size ∧ w.grownBy w' (some g) := by
  obtain ⟨s, on, wv, h1, h2, h3, h4⟩ := h
  have hs : ∃ s', s' = stL M ∧ ((on = true ∧ s = s') ∨ (on = false ∧ s' = St0)) := by
    cases on with
    | true => exact ⟨_, rfl, .inl ⟨rfl, h3 rfl⟩⟩
    | false => obtain rfl := h4 rfl; exact ⟨_, rfl, .inr ⟨rfl, rfl⟩⟩
  clear h3 h4
  have H1 := Aside0.mk h1
  have H2 := Aside0.mk h2
  have HV := Aside0.mk hv
  have HL := Aside0.mk hl
  obtain ⟨Av, cv, rfl, hcv, hxl, _⟩ := hv
  clear h1 h2 hl
  have hst : Calls Try.prog 41 #[.pointer (some ⟨g, 0, none⟩)] w fun e w' => e = .returned (.tuple #[]) ∧ HB w' g (stL M) true wv M.length ∧ w.grownBy w' (some g) := by
    obtain ⟨s', rfl, ⟨rfl, rfl⟩ | ⟨rfl, h5⟩⟩ := hs
    · refine (start_on w H1.out).mono ?_
      rintro e w' ⟨rfl, rfl⟩
      exact ⟨rfl, H1.out, World.grownBy.refl _ _⟩
    · rw [h5]; exact start_off w H1.out
  have HST := Aside0.mk hst
  clear hst hs
  go_enter Try.func37, Try.ntmps37
  go_wp2_with fail
  refine HST.out.mono ?_
  rintro e w1 ⟨rfl, hh, hg⟩
  have HH := Aside0.mk hh
  have HG := Aside0.mk hg
  have H2 := Aside0.mk (slh H1.out H2.out hg)
  have HV := Aside0.mk (HV.out.other hg (fun k hk => by cases hk; exact ⟨hb0, _, _, _, H1.out, by decide⟩))
  clear hh hg HST H1
  obtain ⟨Aw, cw, rfl, hcw, hwl, _⟩ := id H2.out
  obtain ⟨h8, h9, h10, f8, f9, f10⟩ := HH.out.cells
  have hn1 : (M.length : Int) + (x.length : Int) ≤ 1099511627776 := by have := HL.out; omega
  go_wp2_with fail
  obtain ⟨w2, hw2⟩ : ∃ w2, w2 = w1.setCell ⟨g, 10, none⟩ (Value.int IntKind.i64 (↑M.length + ↑x.length)) := ⟨_, rfl⟩
  rw [← hw2]
  have hz : w1.heap.size = w2.heap.size := by rw [hw2]; simp
  rw [hz]
  have HB2 := Aside0.mk (show HB w2 g (stL M) true (Value.slice Aw (waitL M).length cw) (M.length + x.length) by rw [hw2]; exact arr_set HH.out)
  have HG2 := Aside0.mk (show w.grownBy w2 (some g) by rw [hw2]; exact grown_then HG.out (grown_set _ _ _ _))
  have hgr : w1.grownBy w2 (some g) := by rw [hw2]; exact grown_set _ _ _ _
  have H3 := Aside0.mk (slh HH.out H2.out hgr)
  have HV3 := Aside0.mk (HV.out.other hgr (fun k hk => by cases hk; exact ⟨hb0, _, _, _, HH.out, by decide⟩))
  clear hw2 hz hgr h8 h9 h10 f8 f9 f10 HH HG H2 HV
  have hbw : Below w2.heap.size w2 (w2.alloc (.cells #[Value.slice Aw (waitL M).length cw, Value.slice Av x.length cv] 22)) := (Below.refl _ _).alloc (Nat.le_refl _) _
  have HBW := Aside0.mk hbw
  clear hbw
  refine (concat_calls (b0 := b0) (L := [waitL M, x]) _ (pair_list (heap_new rfl) ((H3.out.below HBW.out).mono (Nat.zero_le _)) (HV3.out.below HBW.out)) ?_).mono ?_
  · have := HL.out
    have := waitL_length M
    simp
    omega
  rintro e w3 ⟨v3, rfl, hown, hb3⟩
  have HB3 := Aside0.mk (show HB w3 g (stL M) true (Value.slice Aw (waitL M).length cw) (M.length + x.length) from below_heap (below_step HBW.out hb3) HB2.out)
  have HG3 := Aside0.mk (show w.grownBy w3 (some g) from ⟨(below_step HBW.out hb3).os.trans HG2.out.os, (below_step HBW.out hb3).tape.trans HG2.out.tape, (below_step HBW.out hb3).output.trans HG2.out.output, Nat.le_trans HG2.out.size (below_step HBW.out hb3).size, fun i hi hr => ((below_step HBW.out hb3).block i (Nat.lt_of_lt_of_le hi HG2.out.size)).trans (HG2.out.block i hi hr)⟩)
  obtain ⟨T, hT⟩ : ∃ T, T = waitL M ++ x := ⟨_, rfl⟩
  have hS3 : Sl bv 5 w3 0 v3 T := by rw [hT]; have := Sl.of_own (b := 0) hown; simpa using this
  have hown3 := own_base hown
  have hsz2 : w.heap.size ≤ w2.heap.size := HG2.out.size
  obtain ⟨A3, c3, rfl, hc3, hl3, _⟩ := id hS3
  have HF3 := Aside0.mk (show ∀ ad n c, Value.slice A3 T.length c3 = .slice (some ad) n c → w.heap.size ≤ ad.block from fun ad n c he => by
    cases he
    have := hown3 ad.block rfl
    simp at this
    omega)
  have HS3 := Aside0.mk hS3
  have HT := Aside0.mk hT
  clear hown hb3 hS3 HB2 HG2 H3 HV3 HBW hT hown3 hsz2
  obtain ⟨h8, h9, h10, f8, f9, f10⟩ := HB3.out.cells
  go_wp2_with fail
  have H4 : ∀ w4, w4 = w3.setCell ⟨g, 9, none⟩ (Value.slice A3 T.length c3) → Aside0 (HB w4 g (blocksL (stL M) 0 T) true (Value.slice A3 T.length c3) (M.length + x.length) ∧ Sl bv 5 w4 0 (Value.slice A3 T.length c3) (T.drop (64 * 0)) ∧ w.grownBy w4 (some g) ∧ ∀ ad n c, Value.slice A3 T.length c3 = .slice (some ad) n c → w.heap.size ≤ ad.block) := fun w4 hw4 => by
    have hgr : w3.grownBy w4 (some g) := by rw [hw4]; exact grown_set _ _ _ _
    exact ⟨by rw [hw4]; exact arr_set HB3.out, slh HB3.out HS3.out hgr, grown_then HG3.out hgr, HF3.out⟩
  have H4 := Aside0.mk H4
  go_loopg [] T.length (fun n wr => ∃ (j : Nat) (v : Value), 64 * j + n = T.length ∧ Aside0 (HB wr g (blocksL (stL M) j T) true v (M.length + x.length) ∧ Sl bv 5 wr 0 v (T.drop (64 * j)) ∧ w.grownBy wr (some g) ∧ ∀ ad n c, v = .slice (some ad) n c → w.heap.size ≤ ad.block))
  case atStart => exact ⟨0, _, by omega, H4.out _ rfl⟩
  case round =>
    obtain ⟨j, v, hj, hs⟩ := hrel
    obtain ⟨A, c, rfl, hc, hl, _⟩ := id hs.out.2.1
    obtain ⟨h8, h9, h10, f8, f9, f10⟩ := hs.out.1.cells
    obtain ⟨R, hR⟩ : ∃ R, R = T.drop (64 * j) := ⟨_, rfl⟩
    rw [← hR] at hs hc hl h9
    have hRl : R.length = gk := by rw [hR, List.length_drop]; omega
    obtain ⟨t, ht⟩ : ∃ t, t = blocksL (stL M) j T := ⟨_, rfl⟩
    rw [← ht] at hs
    have HRR := Aside0.mk (And.intro hR (And.intro ht hRl))
    by_cases hlt : 64 ≤ R.length
    · have d1 : (64 : Int) ≤ (R.length : Int) := by omega
      have d2 : (64 : Int) ≤ (c : Int) := by omega
      have d3 : 64 ≤ c := by omega
      clear hR ht hRl
      rcases A with _ | ad
      · exfalso
        obtain ⟨_, _, he, _, _, hq⟩ := hs.out.2.1
        cases he
        obtain ⟨ad, h1, _⟩ := hq.getD 0 (by rw [List.length_map]; omega)
        cases h1
      obtain ⟨k0, k1, k2, k3, k4, k5, k6, k7⟩ := hs.out.1.words
      have hlt' : 64 ≤ R.length := hlt
      go_wp2_with fail
      go_region_with ((
        go_at_call 43
        refine (step_at (b0 := 0) (x := R.take 64) t _ ?_ ?_).mono ?_
        · exact (hs.out.2.1.below (show Below wr.heap.size wr wr.drew from (Below.refl _ _).drew)).head 64 hlt'
        · rw [List.length_take]; omega
        rintro e w5 ⟨t', ht', rfl, hb5⟩
        have HT5 := Aside0.mk ht'
        have hbw : Below wr.heap.size wr w5 := below_step (show Below wr.heap.size wr wr.drew from (Below.refl _ _).drew) hb5
        have HB5 := Aside0.mk (And.intro (show HB w5 g t true (.slice (some ad) R.length c) (M.length + x.length) from below_heap hbw hs.out.1) hbw)
        obtain ⟨k0, k1, k2, k3, k4, k5, k6, k7⟩ := HB5.out.1.words
        obtain ⟨h8, h9, h10, f8, f9, f10⟩ := HB5.out.1.cells
        have hfz := (blk HB5.out.1).2
        clear hb5 hbw ht'))
      all_goals
        obtain ⟨w6, hw6⟩ : ∃ w6, w6 = put8 w5 g t' := ⟨_, rfl⟩
        have HB6 := Aside0.mk (show HB w6 g t' true (.slice (some ad) R.length c) (M.length + x.length) by rw [hw6]; exact put8_block HB5.out.1)
        have HG6 := Aside0.mk (show w5.grownBy w6 (some g) by rw [hw6]; exact put8_grown _ _ _)
        unfold put8 at hw6
        rw [← hw6]
        clear hw6 k0 k1 k2 k3 k4 k5 k6 k7 h8 h9 h10 f8 f9 f10 hfz
        obtain ⟨h8, h9, h10, f8, f9, f10⟩ := HB6.out.cells
        have hgr6 : wr.grownBy w6 (some g) := grown_below HB5.out.2 HG6.out
        have HS6 := Aside0.mk (slh hs.out.1 hs.out.2.1 hgr6)
        have HG7 := Aside0.mk hgr6
        clear hgr6
        go_wp2_with fail
        all_goals
          go_roundg (gk - 64)
          case measure => have := HRR.out.2.2; omega
          case rel =>
            have hgk := HRR.out.2.2
            refine ⟨j + 1, _, by omega, ⟨by rw [blocksL_succ, ← HRR.out.1, ← HRR.out.2.1, ← HT5.out]; exact arr_set HB6.out, ?_, grown_then hs.out.2.2.1 (grown_then HG7.out (grown_set _ _ _ _)), fun ad' n' c' he => by cases he; first | exact hs.out.2.2.2 ad _ _ rfl | (rw [add_eq]; exact hs.out.2.2.2 ad _ _ rfl)⟩⟩
            rw [show 64 * (j + 1) = 64 * j + 64 by omega, ← List.drop_drop, ← HRR.out.1]
            refine slh HB6.out ?_ (grown_set _ _ _ _)
            first
              | exact HS6.out.tail 64 hlt'
              | exact HS6.out.tail_all 64 hlt' (by assumption)
    · clear hR ht hRl
      go_wp2_with fail
      have hTl := waitL_length M
      go_ret
      have hgk : gk < 64 := by have := HRR.out.2.2; omega
      obtain ⟨e1, e2⟩ := stL_app M x j (by rw [← HT.out]; omega) (by rw [← HT.out]; omega)
      refine ⟨rfl, ⟨t, true, _, by rw [List.length_append]; exact hs.out.1, ?_, fun _ => ?_, fun h => (by cases h), hs.out.2.2.2⟩, hs.out.2.2.1⟩
      · rw [← e2, ← HT.out, ← HRR.out.1]; exact hs.out.2.1
      · rw [← e1, ← HT.out]; exact HRR.out.2.1
theorem add_calls {g b0 : Nat} {M x : List UInt8} {v : Value} (w : World) (h : IsH w g M) (hb0 : b0 ≤ g) (hv : Sl bv 5 w b0 v x) (hl : M.length + x.length ≤ 1099511627776) :
    Calls Try.prog 37 #[.pointer (some ⟨g, 0, none⟩), v] w fun e w' => e = .returned (.pointer (some ⟨g, 0, none⟩)) ∧ IsH w' g (M ++ x) ∧ w.grownBy w' (some g) :=
  (addB_calls w h hb0 hv hl).mono fun _ _ ⟨h1, h2, h3⟩ => ⟨h1, h2.isH, h3⟩
end Go.Proofs.Ytjoljmkedghcbaa
