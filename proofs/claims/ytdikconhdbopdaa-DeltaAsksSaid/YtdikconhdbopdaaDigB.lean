/-
  digest's hasher: what it takes in, and tells. No condition but what each contract says.
-/
import Derived.Test.YtdikconhdbopdaaLists
import Derived.Lib.AppendZerosOnto
import Derived.Lib.AppendZeros
import Derived.Test.YtdikconhdbopdaaDigA
import Derived.Deep.RegionHeld3
import Derived.KernelRfl
namespace Go.Proofs.Ytdikconhdbopdaa
section
open Go.RowKit
set_option linter.unusedVariables false
set_option linter.unusedSimpArgs false

set_option maxHeartbeats 1000000 in
theorem grow_nil (n : Nat) (w : World) (hn : n ≤ 70368744177664) :
    Calls Try.prog 55 #[.slice none 0 0, .int .i64 (n : Int)] w fun e w' => ∃ v', e = .returned v' ∧ w'.ownsRow w.heap.size 5 1 v' 0 [] ∧ Below w.heap.size w w' := by
  rcases Nat.eq_zero_or_pos n with rfl | h0
  · have d1 : ¬ ((0 : Nat) : Int) > 0 := by omega
    go_enter Try.func55, Try.ntmps55
    go_wp2_with fail
    go_ret
    exact ⟨_, rfl, World.ownsRow_nil _ _ _ _, Below.refl _ _⟩
  · obtain ⟨i0, hi, hz0, hz1, hz2⟩ := info_parts info_u8
    have hold : (Builtin.firstCells i0.size 0 (.slice none 0 0)).run Try.prog w.drew = .ok (#[] : Array Value) w.drew := by
      simp [Builtin.firstCells]
    have hr : ∀ ty, (Builtin.append_ #[22, 3] ty #[.slice none 0 0, .int .i64 (n : Int)]).run Try.prog w = _ := fun ty =>
      Lib.run_append_grow_zeros w 22 3 ty 5 i0 _ .i64 .i64 Try.underlying22 Try.underlying3 hi hz0 none 0 0 [] hold n h0 (by omega) (by omega) (by omega) (by rw [hz2]; omega)
        (by rw [hz2]; exact growslice_fits (by omega) (by omega))
    have hG := grownCap_ge w (0 + n) 0 5
    have hM := grownCap_le_maxLen w (0 + n) 0 5 (by unfold maxLen; omega)
    obtain ⟨G, hGe⟩ : ∃ G, G = grownCap w (0 + n) 0 5 := ⟨_, rfl⟩
    rw [← hGe] at hr hG hM
    have HM := Aside0.mk hM
    have hM2 : G ≤ 9223372036854775807 := by unfold maxLen at hM; omega
    clear hGe hold hM
    have d1 : (n : Int) > 0 := by omega
    go_enter Try.func55, Try.ntmps55
    go_wp2_with (at_builtin; refine Lib.wpList_append_run _ rfl _ _ _ _ rfl _ _ rfl rfl _ _ (hr _) ?_)
    go_ret
    refine ⟨_, rfl, World.ownsRow_made (w := w.drew) _ _ (Nat.le_refl _) HM.out ?_, (Below.refl _ _).drew.alloc (Nat.le_refl _) _⟩
    simp only [Array.size_append, size_zeroCells, Array.size_empty]
    show n * 1 + (G - n) * 1 = G * 1
    omega

theorem flat_succ (L : List (List UInt8)) (k : Nat) (h : k < L.length) : (L.take (k + 1)).flatten = (L.take k).flatten ++ L.getD k [] := by
  rw [List.take_succ_eq_append_getElem h, List.flatten_append]
  simp [List.getElem?_eq_getElem h]
theorem flat_le (L : List (List UInt8)) (k : Nat) : (L.take k).flatten.length ≤ L.flatten.length := by
  have h : L.flatten = (L.take k).flatten ++ (L.drop k).flatten := by rw [← List.flatten_append, List.take_append_drop]
  rw [h, List.length_append]; omega

set_option maxHeartbeats 2000000 in
theorem concat_calls {b0 : Nat} {v : Value} {L : List (List UInt8)} (w : World) (hv : SlL w b0 v L) (hl : L.flatten.length ≤ 70368744177664) :
    Calls Try.prog 51 #[v] w fun e w' => ∃ v', e = .returned v' ∧ w'.ownsRow w.heap.size 5 1 v' L.flatten.length (L.flatten.map bv) ∧ Below w.heap.size w w' := by
  have HV := Aside0.mk hv
  obtain ⟨A, c, rfl, hc, hm⟩ := hv.shape
  have HL := Aside0.mk hl
  clear hv
  go_enter Try.func51, Try.ntmps51
  go_wp2_with fail
  go_loop [3, 11] (fun a i => ∃ (k : Nat) (q : Nat), k ≤ L.length ∧ i = .int .i64 k ∧ a = .int .i64 (q : Int) ∧ q ≤ 70368744177664 ∧ Aside0 (q = (L.take k).flatten.length)) (fun a i => L.length - (intOf i).toNat)
  case atStart => exact ⟨0, 0, Nat.zero_le _, rfl, rfl, by omega, ⟨by simp⟩⟩
  case round =>
    obtain ⟨k, q, hk, rfl, rfl, hq, hs⟩ := hrel
    by_cases hlt : k < L.length
    · obtain ⟨ad, c', u, A', cu, he, hu, hcell, hsl⟩ := HV.out.at k hlt
      cases he
      subst hu
      have HS := Aside0.mk hsl
      clear hsl
      have hx1 : q + (L.getD k []).length ≤ 70368744177664 := by
        have h1 := flat_le L (k + 1)
        rw [flat_succ L k hlt, List.length_append, ← hs.out] at h1
        omega
      obtain ⟨x, hxx⟩ : ∃ x, x = L.getD k [] := ⟨_, rfl⟩
      rw [← hxx] at hcell HS hx1
      have HX := Aside0.mk hxx
      clear hxx
      go_wp2_with fail
      go_round
      case rel => exact ⟨k + 1, q + x.length, by omega, by go_num, by go_num, by omega, ⟨by rw [flat_succ L k hlt, List.length_append, ← hs.out, HX.out]⟩⟩
      case measure => simp [intOf]; omega
    · obtain rfl : k = L.length := by omega
      go_wp2_with fail
      refine (grow_nil q w hq).mono ?_
      rintro e w1 ⟨v1, rfl, hown, hb⟩
      have H0 := Aside0.mk (show w1.ownsRow w.heap.size 5 1 v1 ((L.take 0).flatten).length (((L.take 0).flatten).map bv) ∧ Below w.heap.size w w1 from ⟨by simpa using hown, hb⟩)
      clear hown hb
      go_wp2_with fail
      go_loopw [6, 27] (fun a i wr => ∃ (k : Nat), k ≤ L.length ∧ i = .int .i64 k ∧ Aside0 (wr.ownsRow w.heap.size 5 1 a ((L.take k).flatten).length (((L.take k).flatten).map bv) ∧ Below w.heap.size w wr)) (fun a i wr => L.length - (intOf i).toNat)
      case atStart => exact ⟨0, Nat.zero_le _, rfl, H0⟩
      case round =>
        obtain ⟨k, hk, rfl, hs2⟩ := hrel
        clear H0
        by_cases hlt : k < L.length
        · obtain ⟨ad, c', u, A', cu, he, hu, hcell, hsl⟩ := (HV.out.below hs2.out.2).at k hlt
          cases he
          subst hu
          have HS := Aside0.mk hsl
          clear hsl
          have hx1 : ((L.take k).flatten).length + (L.getD k []).length ≤ 70368744177664 := by
            have h1 := flat_le L (k + 1)
            have h2 := HL.out
            rw [flat_succ L k hlt, List.length_append] at h1
            omega
          have HF := Aside0.mk (flat_succ L k hlt)
          obtain ⟨x, hxx⟩ : ∃ x, x = L.getD k [] := ⟨_, rfl⟩
          rw [← hxx] at hcell HS hx1 HF
          have HX1 := Aside0.mk hx1
          clear hxx hx1
          go_wp2_with (at_builtin; refine append_row bv (fun _ => rfl) rfl (.tmp 31) (.tmp 32) 22 rfl w.heap.size 5 _ _ _ _ Try.underlying22 info_u8 rfl (by decide) _ _ x _ rfl rfl hs2.out.1 HS.out (by have := HX1.out; omega) hs2.out.2.size ?_; intro v' w' hown hg _)
          have H3 := Aside0.mk (show w'.ownsRow w.heap.size 5 1 v' ((L.take (k + 1)).flatten).length (((L.take (k + 1)).flatten).map bv) ∧ Below w.heap.size w w' from ⟨by rw [HF.out]; exact hown, hs2.out.2.grown hg hs2.out.2.size (own_base hs2.out.1)⟩)
          clear hown hg
          go_roundw
          case rel => exact ⟨k + 1, by omega, by go_num, H3⟩
          case measure => simp [intOf]; omega
        · obtain rfl : k = L.length := by omega
          go_wp2_with fail
          go_ret
          exact ⟨_, rfl, by simpa using hs2.out.1, hs2.out.2⟩
end

section
open Go.RowKit
set_option linter.unusedVariables false
set_option linter.unusedSimpArgs false

/-- A hasher's cells. -/
def hC (s : St) (on : Bool) (wv : Value) (n : Nat) : Array Value :=
  #[.int .u32 (s.a.toNat : Int), .int .u32 (s.b.toNat : Int), .int .u32 (s.c.toNat : Int), .int .u32 (s.d.toNat : Int), .int .u32 (s.e.toNat : Int), .int .u32 (s.f.toNat : Int), .int .u32 (s.g.toNat : Int), .int .u32 (s.h.toNat : Int), .bool on, wv, .int .i64 (n : Int)]
def HB (w : World) (g : Nat) (s : St) (on : Bool) (wv : Value) (n : Nat) : Prop := w.heap[g]? = some (.cells (hC s on wv n) 70 (0, 0))
theorem HB.cells {w : World} {g : Nat} {s : St} {on : Bool} {wv : Value} {n : Nat} (h : HB w g s on wv n) :
    w.cell? ⟨g, 8, none⟩ = some (.bool on) ∧ w.cell? ⟨g, 9, none⟩ = some wv ∧ w.cell? ⟨g, 10, none⟩ = some (.int .i64 (n : Int)) ∧ w.frozen? ⟨g, 8, none⟩ = false ∧ w.frozen? ⟨g, 9, none⟩ = false ∧ w.frozen? ⟨g, 10, none⟩ = false := by
  obtain ⟨h1, h2⟩ := blk h
  exact ⟨h1 8, h1 9, h1 10, h2 8, h2 9, h2 10⟩
theorem HB.words {w : World} {g : Nat} {s : St} {on : Bool} {wv : Value} {n : Nat} (h : HB w g s on wv n) : w.cell? ⟨g, 0, none⟩ = some (.int .u32 (s.a.toNat : Int)) ∧ w.cell? ⟨g, 1, none⟩ = some (.int .u32 (s.b.toNat : Int)) ∧ w.cell? ⟨g, 2, none⟩ = some (.int .u32 (s.c.toNat : Int)) ∧ w.cell? ⟨g, 3, none⟩ = some (.int .u32 (s.d.toNat : Int)) ∧ w.cell? ⟨g, 4, none⟩ = some (.int .u32 (s.e.toNat : Int)) ∧ w.cell? ⟨g, 5, none⟩ = some (.int .u32 (s.f.toNat : Int)) ∧ w.cell? ⟨g, 6, none⟩ = some (.int .u32 (s.g.toNat : Int)) ∧ w.cell? ⟨g, 7, none⟩ = some (.int .u32 (s.h.toNat : Int)) := by
  obtain ⟨h1, h2⟩ := blk h
  exact ⟨h1 0, h1 1, h1 2, h1 3, h1 4, h1 5, h1 6, h1 7⟩
theorem grown_set (w : World) (g o : Nat) (v : Value) : w.grownBy (w.setCell ⟨g, o, none⟩ v) (some g) := ⟨rfl, rfl, rfl, by simp, fun k hk hne => Below.heap_setCell w ⟨g, o, none⟩ v k (fun e => hne (by rw [e]))⟩
theorem grown_then {a b c : World} {row : Option Nat} (h : a.grownBy b row) (k : b.grownBy c row) : a.grownBy c row :=
  ⟨k.os.trans h.os, k.tape.trans h.tape, k.output.trans h.output, Nat.le_trans h.size k.size, fun i hi hr => (k.block i (Nat.lt_of_lt_of_le hi h.size) hr).trans (h.block i hi hr)⟩
theorem grown_below {a b c : World} {g : Nat} (hb : Below a.heap.size a b) (k : b.grownBy c (some g)) : a.grownBy c (some g) :=
  ⟨k.os.trans hb.os, k.tape.trans hb.tape, k.output.trans hb.output, Nat.le_trans hb.size k.size, fun i hi hr => (k.block i (Nat.lt_of_lt_of_le hi hb.size) hr).trans (hb.block i hi)⟩

set_option maxHeartbeats 1000000 in
theorem start_on {g : Nat} {s : St} {wv : Value} {n : Nat} (w : World) (h : HB w g s true wv n) :
    Calls Try.prog 50 #[.pointer (some ⟨g, 0, none⟩)] w fun e w' => e = .returned (.tuple #[]) ∧ w = w' := by
  obtain ⟨h8, h9, h10, f8, f9, f10⟩ := h.cells
  go_enter Try.func50, Try.ntmps50
  go_wp2_with fail
  go_end0
  exact ⟨rfl, rfl⟩
set_option maxHeartbeats 1000000 in
theorem start_off {g : Nat} {s : St} {wv : Value} {n : Nat} (w : World) (h : HB w g s false wv n) :
    Calls Try.prog 50 #[.pointer (some ⟨g, 0, none⟩)] w fun e w' => e = .returned (.tuple #[]) ∧ HB w' g St0 true wv n ∧ w.grownBy w' (some g) := by
  obtain ⟨h8, h9, h10, f8, f9, f10⟩ := h.cells
  have HH := Aside0.mk h
  go_enter Try.func50, Try.ntmps50
  go_wp2_with fail
  refine (first_calls w).mono ?_
  rintro e w1 ⟨rfl, hb⟩
  have H1 := Aside0.mk (show HB w1 g s false wv n from below_heap hb HH.out)
  have HB1 := Aside0.mk hb
  obtain ⟨h8, h9, h10, f8, f9, f10⟩ := H1.out.cells
  clear hb
  go_wp2_with (refine wpList_store_part rfl 68 (.tmp 11) (.tmp 9) rfl g 0 St0.vs _ 70 rfl rfl H1.out (by show 0 + 8 ≤ 11; decide) info_state (one_vs _) ?_; intro w2 hh2 hgr2; have HH2 := Aside0.mk (show HB w2 g St0 false wv n from hh2); have HG2 := Aside0.mk hgr2; clear hh2 hgr2; obtain ⟨h8, h9, h10, f8, f9, f10⟩ := HH2.out.cells)
  go_end0
  exact ⟨rfl, arr_set HH2.out, grown_below HB1.out (grown_then HG2.out (grown_set _ _ _ _))⟩

/-- A hasher that has taken M in. -/
def IsH (w : World) (g : Nat) (M : List UInt8) : Prop := ∃ s on wv, HB w g s on wv M.length ∧ Sl bv 5 w 0 wv (waitL M) ∧ (on = true → s = stL M) ∧ (on = false → M = [])
/-- The same; what waits lies from block B on. -/
def IsHB (w : World) (g : Nat) (M : List UInt8) (B : Nat) : Prop := ∃ s on wv, HB w g s on wv M.length ∧ Sl bv 5 w 0 wv (waitL M) ∧ (on = true → s = stL M) ∧ (on = false → M = []) ∧ ∀ ad n c, wv = .slice (some ad) n c → B ≤ ad.block
theorem IsHB.isH {w : World} {g B : Nat} {M : List UInt8} (h : IsHB w g M B) : IsH w g M := by
  obtain ⟨s, on, wv, h1, h2, h3, h4, _⟩ := h
  exact ⟨s, on, wv, h1, h2, h3, h4⟩
theorem IsHB.below {w w1 : World} {g B : Nat} {M : List UInt8} (h : IsHB w g M B) (hb : Below w.heap.size w w1) : IsHB w1 g M B := by
  obtain ⟨s, on, wv, h1, h2, h3, h4, h5⟩ := h
  exact ⟨s, on, wv, below_heap hb h1, h2.below hb, h3, h4, h5⟩
/-- Another block is written, one of before. -/
theorem IsHB.other {w w1 : World} {g B r : Nat} {M : List UInt8} (h : IsHB w g M B) (hg : w.grownBy w1 (some r)) (hr : r < B) (hne : g ≠ r) : IsHB w1 g M B := by
  obtain ⟨s, on, wv, h1, ⟨A, c, rfl, hc, hl, hR⟩, h3, h4, h5⟩ := h
  refine ⟨s, on, _, (hg.block _ (blk_lt h1) (fun e => hne (Option.some.inj e))).trans h1, ⟨A, c, rfl, hc, hl, hR.move fun ad hA hn => ?_⟩, h3, h4, h5⟩
  subst hA
  have := h5 ad _ _ rfl
  exact hg.block _ (hR.lt rfl hn) (fun e => by have := Option.some.inj e; omega)
theorem IsH.below {w w1 : World} {g : Nat} {M : List UInt8} (h : IsH w g M) (hb : Below w.heap.size w w1) : IsH w1 g M := by
  obtain ⟨s, on, wv, h1, h2, h3, h4⟩ := h
  exact ⟨s, on, wv, below_heap hb h1, h2.below hb, h3, h4⟩

theorem Sl.head {α : Type} {enc : α → Value} {e : Nat} {w : World} {base n c : Nat} {ad : Addr} {xs : List α} (h : Sl enc e w base (.slice (some ad) n c) xs) (k : Nat) (hk : k ≤ xs.length) : Sl enc e w base (.slice (some ad) k c) (xs.take k) := by
  have := h.cut 0 k (Nat.zero_le _) hk
  have ha : ad.add 0 = ad := rfl
  simpa [ha] using this
theorem step_at {b0 : Nat} {v : Value} {x : List UInt8} (t : St) (w : World) (hv : Sl bv 5 w b0 v x) (hx : x.length = 64) :
    Calls Try.prog 52 #[.agg #[.int .u32 (t.a.toNat : Int), .int .u32 (t.b.toNat : Int), .int .u32 (t.c.toNat : Int), .int .u32 (t.d.toNat : Int), .int .u32 (t.e.toNat : Int), .int .u32 (t.f.toNat : Int), .int .u32 (t.g.toNat : Int), .int .u32 (t.h.toNat : Int)], v] w fun e w' => ∃ t', t' = stepL t x ∧ e = .returned (.agg #[.int .u32 (t'.a.toNat : Int), .int .u32 (t'.b.toNat : Int), .int .u32 (t'.c.toNat : Int), .int .u32 (t'.d.toNat : Int), .int .u32 (t'.e.toNat : Int), .int .u32 (t'.f.toNat : Int), .int .u32 (t'.g.toNat : Int), .int .u32 (t'.h.toNat : Int)]) ∧ Below w.heap.size w w' :=
  (step_calls t w hv hx).mono fun _ _ ⟨h1, h2⟩ => ⟨_, rfl, h1, h2⟩
/-- Eight words are stored. -/
def put8 (w : World) (g : Nat) (t' : St) : World := ((((((((w.setCell ⟨g, 0, none⟩ (.int .u32 (t'.a.toNat : Int))).setCell ⟨g, 1, none⟩ (.int .u32 (t'.b.toNat : Int))).setCell ⟨g, 2, none⟩ (.int .u32 (t'.c.toNat : Int))).setCell ⟨g, 3, none⟩ (.int .u32 (t'.d.toNat : Int))).setCell ⟨g, 4, none⟩ (.int .u32 (t'.e.toNat : Int))).setCell ⟨g, 5, none⟩ (.int .u32 (t'.f.toNat : Int))).setCell ⟨g, 6, none⟩ (.int .u32 (t'.g.toNat : Int))).setCell ⟨g, 7, none⟩ (.int .u32 (t'.h.toNat : Int)))
theorem put8_block {w : World} {g : Nat} {t t' : St} {on : Bool} {wv : Value} {n : Nat} (h : HB w g t on wv n) : HB (put8 w g t') g t' on wv n := by
  unfold HB at h ⊢
  unfold put8
  have e0 := arr_set (i := 0) (u := .int .u32 (t'.a.toNat : Int)) h
  have e1 := arr_set (i := 1) (u := .int .u32 (t'.b.toNat : Int)) e0
  have e2 := arr_set (i := 2) (u := .int .u32 (t'.c.toNat : Int)) e1
  have e3 := arr_set (i := 3) (u := .int .u32 (t'.d.toNat : Int)) e2
  have e4 := arr_set (i := 4) (u := .int .u32 (t'.e.toNat : Int)) e3
  have e5 := arr_set (i := 5) (u := .int .u32 (t'.f.toNat : Int)) e4
  have e6 := arr_set (i := 6) (u := .int .u32 (t'.g.toNat : Int)) e5
  have e7 := arr_set (i := 7) (u := .int .u32 (t'.h.toNat : Int)) e6
  rw [e7]
  simp [hC]
theorem put8_grown (w : World) (g : Nat) (t' : St) : w.grownBy (put8 w g t') (some g) := by
  unfold put8
  exact grown_then (grown_set _ _ _ _) (grown_then (grown_set _ _ _ _) (grown_then (grown_set _ _ _ _) (grown_then (grown_set _ _ _ _) (grown_then (grown_set _ _ _ _) (grown_then (grown_set _ _ _ _) (grown_then (grown_set _ _ _ _) (grown_set _ _ _ _)))))))
theorem Sl.tail {α : Type} {enc : α → Value} {e : Nat} {w : World} {base n c : Nat} {ad : Addr} {xs : List α} (h : Sl enc e w base (.slice (some ad) n c) xs) (k : Nat) (hk : k ≤ xs.length) : Sl enc e w base (.slice (some (ad.add k)) (n - k) (c - k)) (xs.drop k) := by
  have hn : n = xs.length := by obtain ⟨A, c', he, _⟩ := h; cases he; rfl
  subst hn
  have := h.cut k xs.length hk (Nat.le_refl _)
  rwa [List.take_of_length_le (by rw [List.length_drop]; omega)] at this
theorem Sl.tail_all {α : Type} {enc : α → Value} {e : Nat} {w : World} {base n c : Nat} {ad : Addr} {xs : List α} (h : Sl enc e w base (.slice (some ad) n c) xs) (k : Nat) (hk : k ≤ xs.length) (hc : c = k) : Sl enc e w base (.slice (some ad) (n - k) 0) (xs.drop k) := by
  obtain ⟨A, c', he, h1, h2, _⟩ := h
  cases he
  have h0 : xs.drop k = [] := List.drop_eq_nil_of_le (by omega)
  rw [h0]
  exact ⟨_, 0, by rw [show xs.length - k = 0 by omega]; rfl, Nat.zero_le _, by simp, RdT.nil _ _ _ _⟩
theorem pair_list {w : World} {G B : Nat} {u1 u2 : Value} {x1 x2 : List UInt8} (h : w.heap[G]? = some (.cells #[u1, u2] 22 (0, 0))) (h1 : Sl bv 5 w B u1 x1) (h2 : Sl bv 5 w B u2 x2) : SlL w B (.slice (some ⟨G, 0, none⟩) 2 2) [x1, x2] := by
  refine ⟨[u1, u2], rfl, Sl.at h rfl rfl (by decide) (by decide), fun i u x hu hx => ?_⟩
  match i with
  | 0 => cases hu; cases hx; exact h1
  | 1 => cases hu; cases hx; exact h2
  | i + 2 => simp at hu
/-- A row that the call owns, kept where a block of another type is written. -/
theorem slh {w w1 : World} {g : Nat} {s : St} {on : Bool} {wv v : Value} {n : Nat} {xs : List UInt8} (hh : HB w g s on wv n) (h : Sl bv 5 w 0 v xs) (hg : w.grownBy w1 (some g)) : Sl bv 5 w1 0 v xs :=
  h.other hg (fun k hk => by cases hk; exact ⟨Nat.zero_le _, _, _, _, hh, by decide⟩)

set_option maxHeartbeats 4000000 in
set_option maxRecDepth 100000 in
theorem addB_calls {g b0 : Nat} {M x : List UInt8} {v : Value} (w : World) (h : IsH w g M) (hb0 : b0 ≤ g) (hv : Sl bv 5 w b0 v x) (hl : M.length + x.length ≤ 1099511627776) :
    Calls Try.prog 45 #[.pointer (some ⟨g, 0, none⟩), v] w fun e w' => e = .returned (.pointer (some ⟨g, 0, none⟩)) ∧ IsHB w' g (M ++ x) w.heap.size ∧ w.grownBy w' (some g) := by
  obtain ⟨s, on, wv, h1, h2, h3, h4⟩ := h
  have hs : ∃ s', s' = stL M ∧ ((on = true ∧ s = s') ∨ (on = false ∧ s' = St0)) := by
    cases on with
    | true => exact ⟨_, rfl, .inl ⟨rfl, h3 rfl⟩⟩
    | false => obtain rfl := h4 rfl; exact ⟨_, rfl, .inr ⟨rfl, rfl⟩⟩
  clear h3 h4
  have H1 := Aside0.mk h1
  have H2 := Aside0.mk h2
  have HV := Aside0.mk hv
  have HL := Aside0.mk hl
  obtain ⟨Av, cv, rfl, hcv, hxl, _⟩ := hv
  clear h1 h2 hl
  have hst : Calls Try.prog 50 #[.pointer (some ⟨g, 0, none⟩)] w fun e w' => e = .returned (.tuple #[]) ∧ HB w' g (stL M) true wv M.length ∧ w.grownBy w' (some g) := by
    obtain ⟨s', rfl, ⟨rfl, rfl⟩ | ⟨rfl, h5⟩⟩ := hs
    · refine (start_on w H1.out).mono ?_
      rintro e w' ⟨rfl, rfl⟩
      exact ⟨rfl, H1.out, World.grownBy.refl _ _⟩
    · rw [h5]; exact start_off w H1.out
  have HST := Aside0.mk hst
  clear hst hs
  go_enter Try.func45, Try.ntmps45
  go_wp2_with fail
  refine HST.out.mono ?_
  rintro e w1 ⟨rfl, hh, hg⟩
  have HH := Aside0.mk hh
  have HG := Aside0.mk hg
  have H2 := Aside0.mk (slh H1.out H2.out hg)
  have HV := Aside0.mk (HV.out.other hg (fun k hk => by cases hk; exact ⟨hb0, _, _, _, H1.out, by decide⟩))
  clear hh hg HST H1
  obtain ⟨Aw, cw, rfl, hcw, hwl, _⟩ := id H2.out
  obtain ⟨h8, h9, h10, f8, f9, f10⟩ := HH.out.cells
  have hn1 : (M.length : Int) + (x.length : Int) ≤ 1099511627776 := by have := HL.out; omega
  go_wp2_with fail
  obtain ⟨w2, hw2⟩ : ∃ w2, w2 = w1.setCell ⟨g, 10, none⟩ (Value.int IntKind.i64 (↑M.length + ↑x.length)) := ⟨_, rfl⟩
  rw [← hw2]
  have hz : w1.heap.size = w2.heap.size := by rw [hw2]; simp
  rw [hz]
  have HB2 := Aside0.mk (show HB w2 g (stL M) true (Value.slice Aw (waitL M).length cw) (M.length + x.length) by rw [hw2]; exact arr_set HH.out)
  have HG2 := Aside0.mk (show w.grownBy w2 (some g) by rw [hw2]; exact grown_then HG.out (grown_set _ _ _ _))
  have hgr : w1.grownBy w2 (some g) := by rw [hw2]; exact grown_set _ _ _ _
  have H3 := Aside0.mk (slh HH.out H2.out hgr)
  have HV3 := Aside0.mk (HV.out.other hgr (fun k hk => by cases hk; exact ⟨hb0, _, _, _, HH.out, by decide⟩))
  clear hw2 hz hgr h8 h9 h10 f8 f9 f10 HH HG H2 HV
  have hbw : Below w2.heap.size w2 (w2.alloc (.cells #[Value.slice Aw (waitL M).length cw, Value.slice Av x.length cv] 22)) := (Below.refl _ _).alloc (Nat.le_refl _) _
  have HBW := Aside0.mk hbw
  clear hbw
  refine (concat_calls (b0 := b0) (L := [waitL M, x]) _ (pair_list (heap_new rfl) ((H3.out.below HBW.out).mono (Nat.zero_le _)) (HV3.out.below HBW.out)) ?_).mono ?_
  · have := HL.out
    have := waitL_length M
    simp
    omega
  rintro e w3 ⟨v3, rfl, hown, hb3⟩
  have HB3 := Aside0.mk (show HB w3 g (stL M) true (Value.slice Aw (waitL M).length cw) (M.length + x.length) from below_heap (below_step HBW.out hb3) HB2.out)
  have HG3 := Aside0.mk (show w.grownBy w3 (some g) from ⟨(below_step HBW.out hb3).os.trans HG2.out.os, (below_step HBW.out hb3).tape.trans HG2.out.tape, (below_step HBW.out hb3).output.trans HG2.out.output, Nat.le_trans HG2.out.size (below_step HBW.out hb3).size, fun i hi hr => ((below_step HBW.out hb3).block i (Nat.lt_of_lt_of_le hi HG2.out.size)).trans (HG2.out.block i hi hr)⟩)
  obtain ⟨T, hT⟩ : ∃ T, T = waitL M ++ x := ⟨_, rfl⟩
  have hS3 : Sl bv 5 w3 0 v3 T := by rw [hT]; have := Sl.of_own (b := 0) hown; simpa using this
  have hown3 := own_base hown
  have hsz2 : w.heap.size ≤ w2.heap.size := HG2.out.size
  obtain ⟨A3, c3, rfl, hc3, hl3, _⟩ := id hS3
  have HF3 := Aside0.mk (show ∀ ad n c, Value.slice A3 T.length c3 = .slice (some ad) n c → w.heap.size ≤ ad.block from fun ad n c he => by
    cases he
    have := hown3 ad.block rfl
    simp at this
    omega)
  have HS3 := Aside0.mk hS3
  have HT := Aside0.mk hT
  clear hown hb3 hS3 HB2 HG2 H3 HV3 HBW hT hown3 hsz2
  obtain ⟨h8, h9, h10, f8, f9, f10⟩ := HB3.out.cells
  go_wp2_with fail
  have H4 : ∀ w4, w4 = w3.setCell ⟨g, 9, none⟩ (Value.slice A3 T.length c3) → Aside0 (HB w4 g (blocksL (stL M) 0 T) true (Value.slice A3 T.length c3) (M.length + x.length) ∧ Sl bv 5 w4 0 (Value.slice A3 T.length c3) (T.drop (64 * 0)) ∧ w.grownBy w4 (some g) ∧ ∀ ad n c, Value.slice A3 T.length c3 = .slice (some ad) n c → w.heap.size ≤ ad.block) := fun w4 hw4 => by
    have hgr : w3.grownBy w4 (some g) := by rw [hw4]; exact grown_set _ _ _ _
    exact ⟨by rw [hw4]; exact arr_set HB3.out, slh HB3.out HS3.out hgr, grown_then HG3.out hgr, HF3.out⟩
  have H4 := Aside0.mk H4
  go_loopg [] T.length (fun n wr => ∃ (j : Nat) (v : Value), 64 * j + n = T.length ∧ Aside0 (HB wr g (blocksL (stL M) j T) true v (M.length + x.length) ∧ Sl bv 5 wr 0 v (T.drop (64 * j)) ∧ w.grownBy wr (some g) ∧ ∀ ad n c, v = .slice (some ad) n c → w.heap.size ≤ ad.block))
  case atStart => exact ⟨0, _, by omega, H4.out _ rfl⟩
  case round =>
    obtain ⟨j, v, hj, hs⟩ := hrel
    obtain ⟨A, c, rfl, hc, hl, _⟩ := id hs.out.2.1
    obtain ⟨h8, h9, h10, f8, f9, f10⟩ := hs.out.1.cells
    obtain ⟨R, hR⟩ : ∃ R, R = T.drop (64 * j) := ⟨_, rfl⟩
    rw [← hR] at hs hc hl h9
    have hRl : R.length = gk := by rw [hR, List.length_drop]; omega
    obtain ⟨t, ht⟩ : ∃ t, t = blocksL (stL M) j T := ⟨_, rfl⟩
    rw [← ht] at hs
    have HRR := Aside0.mk (And.intro hR (And.intro ht hRl))
    by_cases hlt : 64 ≤ R.length
    · have d1 : (64 : Int) ≤ (R.length : Int) := by omega
      have d2 : (64 : Int) ≤ (c : Int) := by omega
      have d3 : 64 ≤ c := by omega
      clear hR ht hRl
      rcases A with _ | ad
      · exfalso
        obtain ⟨_, _, he, _, _, hq⟩ := hs.out.2.1
        cases he
        obtain ⟨ad, h1, _⟩ := hq.getD 0 (by rw [List.length_map]; omega)
        cases h1
      obtain ⟨k0, k1, k2, k3, k4, k5, k6, k7⟩ := hs.out.1.words
      have hlt' : 64 ≤ R.length := hlt
      go_wp2_with fail
      go_region_with ((
        go_at_call 52
        refine (step_at (b0 := 0) (x := R.take 64) t _ ?_ ?_).mono ?_
        · exact (hs.out.2.1.below (show Below wr.heap.size wr wr.drew from (Below.refl _ _).drew)).head 64 hlt'
        · rw [List.length_take]; omega
        rintro e w5 ⟨t', ht', rfl, hb5⟩
        have HT5 := Aside0.mk ht'
        have hbw : Below wr.heap.size wr w5 := below_step (show Below wr.heap.size wr wr.drew from (Below.refl _ _).drew) hb5
        have HB5 := Aside0.mk (And.intro (show HB w5 g t true (.slice (some ad) R.length c) (M.length + x.length) from below_heap hbw hs.out.1) hbw)
        obtain ⟨k0, k1, k2, k3, k4, k5, k6, k7⟩ := HB5.out.1.words
        obtain ⟨h8, h9, h10, f8, f9, f10⟩ := HB5.out.1.cells
        have hfz := (blk HB5.out.1).2
        clear hb5 hbw ht'))
      all_goals
        obtain ⟨w6, hw6⟩ : ∃ w6, w6 = put8 w5 g t' := ⟨_, rfl⟩
        have HB6 := Aside0.mk (show HB w6 g t' true (.slice (some ad) R.length c) (M.length + x.length) by rw [hw6]; exact put8_block HB5.out.1)
        have HG6 := Aside0.mk (show w5.grownBy w6 (some g) by rw [hw6]; exact put8_grown _ _ _)
        unfold put8 at hw6
        rw [← hw6]
        clear hw6 k0 k1 k2 k3 k4 k5 k6 k7 h8 h9 h10 f8 f9 f10 hfz
        obtain ⟨h8, h9, h10, f8, f9, f10⟩ := HB6.out.cells
        have hgr6 : wr.grownBy w6 (some g) := grown_below HB5.out.2 HG6.out
        have HS6 := Aside0.mk (slh hs.out.1 hs.out.2.1 hgr6)
        have HG7 := Aside0.mk hgr6
        clear hgr6
        go_wp2_with fail
        all_goals
          go_roundg (gk - 64)
          case measure => have := HRR.out.2.2; omega
          case rel =>
            have hgk := HRR.out.2.2
            refine ⟨j + 1, _, by omega, ⟨by rw [blocksL_succ, ← HRR.out.1, ← HRR.out.2.1, ← HT5.out]; exact arr_set HB6.out, ?_, grown_then hs.out.2.2.1 (grown_then HG7.out (grown_set _ _ _ _)), fun ad' n' c' he => by cases he; first | exact hs.out.2.2.2 ad _ _ rfl | (rw [add_eq]; exact hs.out.2.2.2 ad _ _ rfl)⟩⟩
            rw [show 64 * (j + 1) = 64 * j + 64 by omega, ← List.drop_drop, ← HRR.out.1]
            refine slh HB6.out ?_ (grown_set _ _ _ _)
            first
              | exact HS6.out.tail 64 hlt'
              | exact HS6.out.tail_all 64 hlt' (by assumption)
    · clear hR ht hRl
      go_wp2_with fail
      have hTl := waitL_length M
      go_ret
      have hgk : gk < 64 := by have := HRR.out.2.2; omega
      obtain ⟨e1, e2⟩ := stL_app M x j (by rw [← HT.out]; omega) (by rw [← HT.out]; omega)
      refine ⟨rfl, ⟨t, true, _, by rw [List.length_append]; exact hs.out.1, ?_, fun _ => ?_, fun h => (by cases h), hs.out.2.2.2⟩, hs.out.2.2.1⟩
      · rw [← e2, ← HT.out, ← HRR.out.1]; exact hs.out.2.1
      · rw [← e1, ← HT.out]; exact HRR.out.2.1
theorem add_calls {g b0 : Nat} {M x : List UInt8} {v : Value} (w : World) (h : IsH w g M) (hb0 : b0 ≤ g) (hv : Sl bv 5 w b0 v x) (hl : M.length + x.length ≤ 1099511627776) :
    Calls Try.prog 45 #[.pointer (some ⟨g, 0, none⟩), v] w fun e w' => e = .returned (.pointer (some ⟨g, 0, none⟩)) ∧ IsH w' g (M ++ x) ∧ w.grownBy w' (some g) :=
  (addB_calls w h hb0 hv hl).mono fun _ _ ⟨h1, h2, h3⟩ => ⟨h1, h2.isH, h3⟩
end

section
open Go.RowKit
set_option linter.unusedVariables false
set_option linter.unusedSimpArgs false

theorem info_hash : (Try.prog.info? 70).map (·.size) = some 11 := by kernel_rfl

theorem one_hC {s : St} {on : Bool} {wv : Value} {n : Nat} (h : wv.oneCell' = true) : (hC s on wv n).all (·.oneCell') = true := by
  simp [hC, Value.oneCell'] at h ⊢
  exact h
/-- Whatever state it is in, it can be started. -/
theorem start_calls {g : Nat} {s : St} {on : Bool} {wv : Value} {M : List UInt8} (w : World) (h : HB w g s on wv M.length) (h3 : on = true → s = stL M) (h4 : on = false → M = []) :
    Calls Try.prog 50 #[.pointer (some ⟨g, 0, none⟩)] w fun e w' => e = .returned (.tuple #[]) ∧ HB w' g (stL M) true wv M.length ∧ w.grownBy w' (some g) := by
  cases on with
  | true =>
    obtain rfl := h3 rfl
    refine (start_on w h).mono ?_
    rintro e w' ⟨rfl, rfl⟩
    exact ⟨rfl, h, World.grownBy.refl _ _⟩
  | false =>
    obtain rfl := h4 rfl
    exact start_off w h

set_option maxHeartbeats 2000000 in
set_option maxRecDepth 100000 in
theorem copy_calls {g : Nat} {M : List UInt8} (w : World) (h : IsH w g M) :
    Calls Try.prog 53 #[.pointer (some ⟨g, 0, none⟩)] w fun e w' => ∃ g', e = .returned (.pointer (some ⟨g', 0, none⟩)) ∧ w.heap.size ≤ g' ∧ IsH w' g' M ∧ Below w.heap.size w w' := by
  obtain ⟨s, on, wv, h1, h2, h3, h4⟩ := h
  have H1 := Aside0.mk h1
  have H2 := Aside0.mk h2
  have H34 := Aside0.mk (And.intro h3 h4)
  clear h3 h4
  go_enter Try.func53, Try.ntmps53
  have hone : wv.oneCell' = true := by obtain ⟨A, c, rfl, _⟩ := h2; rfl
  obtain ⟨Aw, cw, rfl, hcw, hwl, _⟩ := h2
  go_wp2_with (first
    | (refine wpList_load_row rfl 70 (.tmp 7) rfl g rfl 70 _ (0, 0) _ H1.out Try.underlying70 rfl info_hash ?_)
    | (refine wpList_store_arr rfl 70 (.tmp 3) (.tmp 8) rfl w.heap.size (hC s on (.slice Aw (waitL M).length cw) M.length) _ 70 rfl rfl (heap_new rfl) rfl info_hash (one_hC hone) ?_; intro w2 hh2 hgr2
       have hb2 : Below w.heap.size w w2 := ((Below.refl w.heap.size w).alloc (Nat.le_refl _) _).grown hgr2 (by simp) (fun k hk => by cases hk; exact Nat.le_refl _)
       have HB2 := Aside0.mk hb2
       have HH2 := Aside0.mk (show HB w2 w.heap.size s on (.slice Aw (waitL M).length cw) M.length from hh2)
       have HG := Aside0.mk (show HB w2 g s on (.slice Aw (waitL M).length cw) M.length from below_heap hb2 H1.out)
       obtain ⟨h8, h9, h10, f8, f9, f10⟩ := HG.out.cells
       clear hh2 hgr2 hb2))
  refine (clone_calls (b0 := 0) (x := waitL M) _ (H2.out.below HB2.out) (by have := waitL_length M; omega)).mono ?_
  rintro e w3 ⟨v3, rfl, hown, hb3⟩
  have HB3 := Aside0.mk (below_step HB2.out hb3)
  have HH3 := Aside0.mk (show HB w3 w.heap.size s on (.slice Aw (waitL M).length cw) M.length from below_heap hb3 HH2.out)
  have hS3 : Sl bv 5 w3 0 v3 (waitL M) := Sl.of_own (b := 0) hown
  obtain ⟨A3, c3, rfl, hc3, hl3, _⟩ := id hS3
  have HS3 := Aside0.mk hS3
  clear hS3
  clear h8 h9 h10 f8 f9 f10 hown hb3
  obtain ⟨h8, h9, h10, f8, f9, f10⟩ := HH3.out.cells
  go_wp2_with fail
  obtain ⟨w4, hw4⟩ : ∃ w4, w4 = w3.setCell ⟨w.heap.size, 9, none⟩ (.slice A3 (waitL M).length c3) := ⟨_, rfl⟩
  rw [← hw4]
  have hgr4 : w3.grownBy w4 (some w.heap.size) := by rw [hw4]; exact grown_set _ _ _ _
  have HH4 := Aside0.mk (show HB w4 w.heap.size s on (.slice A3 (waitL M).length c3) M.length by rw [hw4]; exact arr_set HH3.out)
  have HS4 := Aside0.mk (slh HH3.out HS3.out hgr4)
  have HB4 := Aside0.mk (HB3.out.grown hgr4 HB3.out.size (fun k hk => by cases hk; exact Nat.le_refl _))
  clear hw4 hgr4 h8 h9 h10 f8 f9 f10
  refine (start_calls w4 HH4.out H34.out.1 H34.out.2).mono ?_
  rintro e w5 ⟨rfl, hh5, hgr5⟩
  have HH5 := Aside0.mk hh5
  have HS5 := Aside0.mk (slh HH4.out HS4.out hgr5)
  have HB5 := Aside0.mk (HB4.out.grown hgr5 HB4.out.size (fun k hk => by cases hk; exact Nat.le_refl _))
  clear hh5 hgr5
  go_wp2_with fail
  go_ret
  exact ⟨w.heap.size, rfl, Nat.le_refl _, ⟨_, _, _, HH5.out, HS5.out, fun _ => rfl, fun h => by cases h⟩, HB5.out⟩
end

section
open Go.RowKit
set_option linter.unusedVariables false
set_option linter.unusedSimpArgs false

/-- A row of bytes of the call's own, all below its base as it was. -/
def Grow (W w : World) (v : Value) (x : List UInt8) : Prop := w.ownsRow W.heap.size 5 1 v x.length (x.map bv) ∧ Below W.heap.size W w

theorem Grow.refl0 (W : World) : Grow W W (.slice none 0 0) [] := ⟨World.ownsRow_nil _ _ _ _, Below.refl _ _⟩
theorem Grow.shape {W w : World} {v : Value} {x : List UInt8} (h : Grow W w v x) : ∃ A c, v = .slice A x.length c := by
  rcases h.1.2 with ⟨rfl, h0⟩ | ⟨g, cap, cur, rfl, _⟩
  · exact ⟨_, _, by rw [h0]⟩
  · exact ⟨_, _, rfl⟩
/-- Bytes that lie in a new block are appended. -/
theorem append_grow {P : Program} {ops : Array Oper} {rest : List Oper} {o : Oper} {a : Act} {Q : Exit → Act → World → Prop} {W w : World} (hP : P = Try.prog) (hgd : o.guard = none) (s x : Operand)
    (ho : o.op = .call { callee := .builtin .append, args := #[s, x], argTypes := #[22, 22] }) (v : Value) (xs ys : List UInt8) (n : Nat) (hn : n = ys.length) (cells : Array Value) (hcells : cells = (ys.map bv).toArray)
    (hs : a.eval s = v) (hx : a.eval x = .slice (some ⟨w.heap.size, 0, none⟩) n n) (h : Grow W w v xs) (hl : xs.length + ys.length ≤ 70368744177664)
    (hk : ∀ v' w', Grow W w' v' (xs ++ ys) → wpList P ops Q rest (a.put o.dst v') w') : wpList P ops Q (o :: rest) a (w.alloc (.cells cells 5)) := by
  subst hP hn hcells
  have hb : Below w.heap.size w (w.alloc (.cells (ys.map bv).toArray 5)) := (Below.refl _ _).alloc (Nat.le_refl _) _
  refine append_row bv (fun _ => rfl) hgd s x 22 ho W.heap.size 5 5 0 _ _ Try.underlying22 info_u8 rfl (by decide) v xs ys _ hs hx (own_below h.1 hb) (Sl.at (heap_new rfl) ?_ rfl (Nat.le_refl _) (by omega)) (by omega) (Nat.le_trans h.2.size hb.size) ?_
  · rw [List.take_of_length_le (by simp)]
  · intro v' w' hown hg _
    exact hk v' w' ⟨hown, (below_step h.2 hb).grown hg (below_step h.2 hb).size (own_base h.1)⟩

theorem bytes4 (x : UInt32) : (#[Value.int .u8 ((x.toNat : Int) / 16777216 % 256), .int .u8 ((x.toNat : Int) / 65536 % 256), .int .u8 ((x.toNat : Int) / 256 % 256), .int .u8 ((x.toNat : Int) % 256)] : Array Value) = ((bytesW x).map bv).toArray := by
  have e1 := byte_at x 24 (by omega)
  have e2 := byte_at x 16 (by omega)
  have e3 := byte_at x 8 (by omega)
  rw [byte_zero, show (16777216 : Int) = 2 ^ 24 from rfl, show (65536 : Int) = 2 ^ 16 from rfl]
  have e3' : (x.toNat : Int) / 256 % 256 = (((x >>> UInt32.ofNat 8).toUInt8).toNat : Int) := e3
  rw [e1, e2, e3']
  rfl
theorem index_st (s : St) (k : Nat) (h : k < 8) (w : World) : (Instr.index 68 (.agg #[.int .u32 (s.a.toNat : Int), .int .u32 (s.b.toNat : Int), .int .u32 (s.c.toNat : Int), .int .u32 (s.d.toNat : Int), .int .u32 (s.e.toNat : Int), .int .u32 (s.f.toNat : Int), .int .u32 (s.g.toNat : Int), .int .u32 (s.h.toNat : Int)]) (.int .i64 (k : Int))).run Try.prog w = .ok (.int .u32 ((([s.a, s.b, s.c, s.d, s.e, s.f, s.g, s.h] : List UInt32).getD k 0).toNat : Int)) w :=
  match k, h with
  | 0, _ => by kernel_rfl | 1, _ => by kernel_rfl | 2, _ => by kernel_rfl | 3, _ => by kernel_rfl | 4, _ => by kernel_rfl | 5, _ => by kernel_rfl | 6, _ => by kernel_rfl | 7, _ => by kernel_rfl

set_option maxHeartbeats 4000000 in
set_option maxRecDepth 100000 in
theorem hsum_calls {g : Nat} {M : List UInt8} (w : World) (h : IsH w g M) (hl : M.length ≤ 1000000000000) :
    Calls Try.prog 46 #[.pointer (some ⟨g, 0, none⟩)] w fun e w' => ∃ v', e = .returned v' ∧ w'.ownsRow w.heap.size 5 1 v' (shaL M).length ((shaL M).map bv) ∧ Below w.heap.size w w' := by
  have H := Aside0.mk h
  have HL := Aside0.mk hl
  clear h
  go_enter Try.func46, Try.ntmps46
  go_wp2_with fail
  refine (copy_calls w H.out).mono ?_
  rintro e w1 ⟨c, rfl, hc, hi, hb⟩
  have HI := Aside0.mk hi
  have HB1 := Aside0.mk hb
  have HC := Aside0.mk hc
  have h10 : w1.cell? ⟨c, 10, none⟩ = some (.int .i64 (M.length : Int)) := by obtain ⟨_, _, _, h, _⟩ := hi; exact h.cells.2.2.1
  clear hi hb hc
  have H0 : ∀ o, o = Obj.cells #[Value.int .u8 128] 5 → Aside0 (Grow w1 (w1.alloc o) (.slice (some ⟨w1.heap.size, 0, none⟩) 1 1) (padZ 0)) := fun o ho => by
    subst ho
    exact ⟨⟨rfl, .inr ⟨_, 1, _, rfl, Nat.le_refl _, heap_new rfl, Nat.le_refl _, by decide, rfl, rfl⟩⟩, (Below.refl _ _).alloc (Nat.le_refl _) _⟩
  have H0 := Aside0.mk H0
  go_wp2_with fail
  go_loopw [5] (fun a wr => ∃ j : Nat, j ≤ zerosN M.length ∧ (∃ A cc, a = .slice A (j + 1) cc) ∧ Aside0 (Grow w1 wr a (padZ j))) (fun a wr => zerosN M.length - (match a with | .slice _ n _ => n - 1 | _ => 0))
  case atStart => exact ⟨0, Nat.zero_le _, ⟨_, _, rfl⟩, H0.out _ rfl⟩
  case round =>
    obtain ⟨j, hj, ⟨A, cc, rfl⟩, hs⟩ := hrel
    have h10 : wr.cell? ⟨c, 10, none⟩ = some (.int .i64 (M.length : Int)) := cell_keep hs.out.2 h10
    by_cases hlt : j < zerosN M.length
    · have hz := zeros_go M.length j hlt
      have hj2 : (j : Int) ≤ 64 := by have := zerosN_lt M.length; omega
      have hz' : (((M.length : Int) + ((j : Int) + 1)) % 64 != 56) = true := by simp; omega
      go_wp2_with (at_builtin; refine append_grow rfl rfl (.tmp 30) (.tmp 31) rfl _ (padZ j) [0] 1 rfl _ rfl rfl rfl hs.out (by have := zerosN_lt M.length; rw [padZ_length]; simp; omega) ?_; intro v' w' hG)
      have HG := Aside0.mk (show Grow w1 w' v' (padZ (j + 1)) by rw [← padZ_succ]; exact hG)
      have hsh := hG.shape
      rw [padZ_succ, padZ_length] at hsh
      clear hG
      go_roundw
      case rel => exact ⟨j + 1, by omega, hsh, HG⟩
      case measure =>
        obtain ⟨A', c', rfl⟩ := hsh
        simp; omega
    · have hjz : j = zerosN M.length := by omega
      have hj2 : (j : Int) ≤ 64 := by have := zerosN_lt M.length; omega
      have hz := zeros_end M.length
      have hz' : (((M.length : Int) + ((j : Int) + 1)) % 64 != 56) = false := by simp; omega
      have HZ := Aside0.mk hjz
      clear hlt hj hz H0 hjz
      go_wp2_with fail
      have H1 := Aside0.mk (show Grow w1 wr (.slice A (j + 1) cc) (padZ j ++ lenN M.length 0) by rw [show lenN M.length 0 = [] from rfl, List.append_nil]; exact hs.out)
      clear hs
      obtain ⟨wo, rfl⟩ : ∃ wo : World, wo = wr := ⟨_, rfl⟩
      go_loopw [5, 6] (fun a i wr => ∃ m : Nat, m ≤ 8 ∧ i = .int .i64 (7 - (m : Int)) ∧ (∃ A cc, a = .slice A (j + 1 + m) cc) ∧ Aside0 (Grow w1 wr a (padZ j ++ lenN M.length m))) (fun a i wr => (intOf i + 1).toNat)
      case atStart => exact ⟨0, by omega, rfl, ⟨_, _, rfl⟩, H1⟩
      case round =>
        obtain ⟨m, hm, rfl, ⟨A, cc, rfl⟩, hs⟩ := hrel
        by_cases hlt : m < 8
        · have hi0 : (0 : Int) ≤ 7 - (m : Int) := by omega
          have hi1 : 7 - (m : Int) ≤ 7 := by omega
          go_wp2_with (at_builtin; refine append_grow rfl rfl (.tmp 37) (.tmp 43) rfl _ (padZ j ++ lenN M.length m) [lenAt M.length m] 1 rfl _ (by rw [lenAt_value]; rfl) rfl rfl hs.out (by rw [List.length_append, padZ_length, lenN_length]; simp; omega) ?_; intro v' w' hG)
          have HG := Aside0.mk (show Grow w1 w' v' (padZ j ++ lenN M.length (m + 1)) by rw [lenN, ← List.append_assoc]; exact hG)
          have hsh := HG.out.shape
          rw [List.length_append, padZ_length, lenN_length, ← Nat.add_assoc] at hsh
          clear hG
          go_roundw
          case rel => exact ⟨m + 1, by omega, by go_num, hsh, HG⟩
          case measure => simp [intOf]; omega
        · have hm8 : m = 8 := by omega
          have HM8 := Aside0.mk hm8
          have hp : padZ j ++ lenN M.length m = padL M.length := by rw [hm8, HZ.out, padL_eq]
          rw [hp] at hs
          have hi0 : ¬ (0 : Int) ≤ 7 - (m : Int) := by omega
          have hpl := padL_length M.length
          have hzl := zerosN_lt M.length
          clear hp hm8 H1
          go_wp2_with fail
          refine (add_calls (b0 := 0) (M := M) (x := padL M.length) wr (HI.out.below hs.out.2) (Nat.zero_le _) (Sl.of_own hs.out.1) (by omega)).mono ?_
          rintro e w2 ⟨rfl, hi2, hg2⟩
          have hN : (M ++ padL M.length).length = M.length + (zerosN M.length + 9) := by rw [List.length_append, hpl]
          obtain ⟨S, on, wv, hB, hS, h3, h4⟩ := hi2
          have hon : on = true := by
            cases on with
            | true => rfl
            | false => have := h4 rfl; rw [this] at hN; simp at hN
          have hSS := h3 hon
          have HSS := Aside0.mk hSS
          have HB2 := Aside0.mk ((below_step HB1.out hs.out.2).grown hg2 (below_step HB1.out hs.out.2).size (fun k hk => by cases hk; exact HC.out))
          obtain ⟨k0, k1, k2, k3, k4, k5, k6, k7⟩ := hB.words
          clear hon hSS h3 h4 hS hB hg2 hN hpl hzl
          have H0 := Aside0.mk (show Grow w2 w2 (.slice none 0 0) (outL S 0) from Grow.refl0 _)
          go_wp2_with fail
          go_loopw [7, 52] (fun a i wr => ∃ k : Nat, k ≤ 8 ∧ i = .int .i64 (k : Int) ∧ Aside0 (Grow w2 wr a (outL S k))) (fun a i wr => 8 - (intOf i).toNat)
          case atStart => exact ⟨0, by omega, rfl, H0⟩
          case round =>
            obtain ⟨k, hk, rfl, hs2⟩ := hrel
            by_cases hlt2 : k < 8
            · have hix := index_st S k hlt2
              obtain ⟨xk, hxk⟩ : ∃ xk, xk = ([S.a, S.b, S.c, S.d, S.e, S.f, S.g, S.h] : List UInt32).getD k 0 := ⟨_, rfl⟩
              rw [← hxk] at hix
              have HXK := Aside0.mk hxk
              clear hxk
              go_wp2_with (at_builtin; refine append_grow rfl rfl (.tmp 55) (.tmp 67) rfl _ (outL S k) (bytesW xk) 4 rfl _ (bytes4 xk) rfl rfl hs2.out (by rw [outL_length]; simp [bytesW]; omega) ?_; intro v' w' hG)
              have HG := Aside0.mk (show Grow w2 w' v' (outL S (k + 1)) by rw [outL, ← HXK.out]; exact hG)
              clear hG
              go_roundw
              case rel => exact ⟨k + 1, by omega, by go_num, HG⟩
              case measure => simp [intOf]; omega
            · obtain rfl : k = 8 := by omega
              go_wp2_with fail
              go_ret
              have hfin : outL S 8 = shaL M := by rw [outL_eight, HSS.out, shaL_eq]
              rw [hfin] at hs2
              exact ⟨_, rfl, own_mono hs2.out.1 HB2.out.size, below_step HB2.out hs2.out.2⟩
end

section
open Go.RowKit
set_option linter.unusedVariables false
set_option linter.unusedSimpArgs false

theorem IsH.zero {w : World} {g : Nat} (h : w.heap[g]? = some (.cells (hC ⟨0, 0, 0, 0, 0, 0, 0, 0⟩ false (.slice none 0 0) 0) 70 (0, 0))) : IsH w g [] :=
  ⟨_, _, _, h, Sl.nil _ _ _ _, fun h => (by cases h), fun _ => rfl⟩

set_option maxHeartbeats 4000000 in
set_option maxRecDepth 100000 in
theorem dsum_calls {b0 : Nat} {v : Value} {L : List (List UInt8)} (w : World) (hv : SlL w b0 v L) (hb0 : b0 ≤ w.heap.size) (hl : L.flatten.length ≤ 1000000000000) :
    Calls Try.prog 38 #[v] w fun e w' => ∃ v', e = .returned v' ∧ w'.ownsRow w.heap.size 5 1 v' (shaL L.flatten).length ((shaL L.flatten).map bv) ∧ Below w.heap.size w w' := by
  have HV := Aside0.mk hv
  have HL := Aside0.mk hl
  obtain ⟨A, c, rfl, hc, hm⟩ := hv.shape
  clear hv
  have H0 : ∀ o, o = Obj.cells (hC ⟨0, 0, 0, 0, 0, 0, 0, 0⟩ false (.slice none 0 0) 0) 70 → Aside0 (IsH (w.alloc o) w.heap.size (L.take 0).flatten ∧ Below w.heap.size w (w.alloc o)) := fun o ho => by
    subst ho
    exact ⟨by rw [List.take_zero, List.flatten_nil]; exact IsH.zero (heap_new rfl), (Below.refl _ _).alloc (Nat.le_refl _) _⟩
  have H0 := Aside0.mk H0
  go_enter Try.func38, Try.ntmps38
  go_wp2_with fail
  go_outline
  go_loopw [10] (fun i wr => ∃ k : Nat, k ≤ L.length ∧ i = .int .i64 (k : Int) ∧ Aside0 (IsH wr w.heap.size (L.take k).flatten ∧ Below w.heap.size w wr)) (fun i wr => L.length - (intOf i).toNat)
  case atStart => exact ⟨0, Nat.zero_le _, rfl, H0.out _ rfl⟩
  case round =>
    obtain ⟨k, hk, rfl, hs⟩ := hrel
    by_cases hlt : k < L.length
    · obtain ⟨ad, c', u, A', cu, he, hu, hcell, hsl⟩ := (HV.out.below hs.out.2).at k hlt
      cases he
      subst hu
      have HS := Aside0.mk hsl
      clear hsl
      have HF := Aside0.mk (flat_succ L k hlt)
      have hx1 : ((L.take k).flatten).length + (L.getD k []).length ≤ 1000000000000 := by
        have h1 := flat_le L (k + 1)
        have h2 := HL.out
        rw [flat_succ L k hlt, List.length_append] at h1
        omega
      obtain ⟨x, hxx⟩ : ∃ x, x = L.getD k [] := ⟨_, rfl⟩
      rw [← hxx] at hcell HS hx1 HF
      have HX1 := Aside0.mk hx1
      clear hxx hx1
      go_wp2_with fail
      refine (add_calls (x := x) wr hs.out.1 hb0 HS.out (by have := HX1.out; omega)).mono ?_
      rintro e w2 ⟨rfl, hi2, hg2⟩
      have H3 := Aside0.mk (show IsH w2 w.heap.size (L.take (k + 1)).flatten ∧ Below w.heap.size w w2 from ⟨by rw [HF.out]; exact hi2, hs.out.2.grown hg2 hs.out.2.size (fun j hj => by cases hj; exact Nat.le_refl _)⟩)
      clear hi2 hg2
      go_wp2_with fail
      go_roundw
      case rel => exact ⟨k + 1, by omega, by go_num, H3⟩
      case measure => simp [intOf]; omega
    · have hkl : k = L.length := by omega
      have hT : (L.take k).flatten = L.flatten := by rw [hkl, List.take_length]
      have HT := Aside0.mk hT
      rw [hT] at hs
      clear hT hkl
      go_wp2_with fail
      refine (hsum_calls wr hs.out.1 HL.out).mono ?_
      rintro e w2 ⟨v2, rfl, hown, hb2⟩
      have HO := Aside0.mk (And.intro hown hb2)
      clear hown hb2
      go_wp2_with fail
      go_ret
      exact ⟨_, rfl, own_mono HO.out.1 hs.out.2.size, below_step hs.out.2 HO.out.2⟩
end

section
open Go.RowKit
set_option linter.unusedVariables false
set_option linter.unusedSimpArgs false

theorem sha_nil : shaL [] = [227, 176, 196, 66, 152, 252, 28, 20, 154, 251, 244, 200, 153, 111, 185, 36, 39, 174, 65, 228, 100, 155, 147, 76, 164, 149, 153, 27, 120, 82, 184, 85] := by kernel_rfl
theorem sha_abc : shaL [97, 98, 99] = [186, 120, 22, 191, 143, 1, 207, 234, 65, 65, 64, 222, 93, 174, 34, 35, 176, 3, 97, 163, 150, 23, 122, 156, 180, 16, 255, 97, 242, 0, 21, 173] := by kernel_rfl
end

section
open Go.RowKit
set_option linter.unusedVariables false
set_option linter.unusedSimpArgs false

/-- Bytes that lie in a new block are appended, in a region that draws its order. -/
theorem step_append_grow {P : Program} {ops : Array Oper} {o : Oper} {a : Act} {K : Act → World → Prop} {Q : Exit → Act → World → Prop} {E : Prop} {W w : World} (hP : P = Try.prog) (hgd : o.guard = none) (s x : Operand)
    (ho : o.op = .call { callee := .builtin .append, args := #[s, x], argTypes := #[22, 22] }) (v : Value) (xs ys : List UInt8) (n : Nat) (hn : n = ys.length) (cells : Array Value) (hcells : cells = (ys.map bv).toArray)
    (hs : a.eval s = v) (hx : a.eval x = .slice (some ⟨w.heap.size, 0, none⟩) n n) (h : Grow W w v xs) (hl : xs.length + ys.length ≤ 70368744177664)
    (hk : ∀ v' w', Grow W w' v' (xs ++ ys) → K (a.put o.dst v') w') :
    if Region.wanted o (yielded ops a.tmps) = true then Oper.wp P o a (w.alloc (.cells cells 5)) K Q else E := by
  subst hP hn hcells
  have hw : Region.wanted o (yielded ops a.tmps) = true := by simp [Region.wanted, hgd]
  rw [if_pos hw]
  obtain ⟨i, hi, hz0, hz1, hz2⟩ := info_parts info_u8
  have hb : Below w.heap.size w (w.alloc (.cells (ys.map bv).toArray 5)) := (Below.refl _ _).alloc (Nat.le_refl _) _
  refine wp_append_own _ s x 22 ho W.heap.size 5 i _ 1 1 Try.underlying22 hi hz0 hz1 hz2 rfl (by decide) v xs.length (xs.map bv) hs (own_below h.1 hb) ⟨w.heap.size, 0, none⟩ ys.length ys.length (ys.map bv) hx (by simp) ?_ ?_ (by simp only [maxLen]; omega) (by omega) (Nat.le_trans h.2.size hb.size) ?_
  · intro j u hj
    have ha : (⟨w.heap.size, 0, none⟩ : Addr).add j = ⟨w.heap.size, j, none⟩ := by unfold Addr.add; split <;> simp_all
    rw [ha, (blk (heap_new rfl)).1 j]
    simpa using hj
  · intro u hu
    obtain ⟨y, _, rfl⟩ := List.mem_map.1 hu
    rfl
  · intro v' w' h1 h2 _
    exact hk v' w' ⟨by simpa using h1, (below_step h.2 hb).grown h2 (below_step h.2 hb).size (own_base h.1)⟩
end
end Go.Proofs.Ytdikconhdbopdaa
