/-
  The reference's Next. No condition but lengths.
-/
import Derived.Test.YtoigmepkhiknbaaDoorSchRSet
import Derived.Test.YtoigmepkhiknbaaDoorSchNext
namespace Go.Proofs.YtoigmepkhiknbaaDoor
open Go.RowKit Go.Maps Go.Joins
set_option linter.unusedVariables false
set_option linter.unusedSimpArgs false

/-- The reference's test. -/
def rB (S : SS) (v : Ent) : Bool := S.told && rbeh v (S.lp, S.lb)
theorem nextV_ref (S : SS) : nextV S = (((flatL S.l).find? (rB S)).or (flatL S.l).head?).getD ([], 0) := by
  rw [nextV_find]
  cases ht : S.told with
  | true =>
    have : (fun v : Ent => behB S v.1 v.2) = rB S := by
      funext v
      rw [behB_eq, ht]
      unfold rB rbeh
      rw [ht]; rfl
    rw [this]
  | false =>
    have h1 : (fun v : Ent => behB S v.1 v.2) = fun _ => true := by
      funext v
      rw [behB_eq, ht]; rfl
    have h2 : rB S = fun _ => false := by
      funext v
      unfold rB
      rw [ht]; rfl
    rw [h1, h2]
    have h3 : (flatL S.l).find? (fun _ => false) = none := by rw [List.find?_eq_none]; simp
    rw [h3]
    cases flatL S.l <;> simp
theorem tot_cons (x : Ent) (r : List Ent) : totL (x :: r) = x.2 + totL r := by simp [totL]
theorem flat_at : ∀ {l : List Ent} {i k : Nat} (hi : i < l.length), k < (l[i]'hi).2 → (flatL l)[totL (l.take i) + k]? = some ((l[i]'hi).1, k)
  | (p, n) :: r, 0, k, hi, hk => by
    rw [flatL_cons, List.take_zero]
    have : k < n := hk
    rw [List.getElem?_append_left (by simp [totL]; omega)]
    simp [totL, this]
  | (p, n) :: r, i + 1, k, hi, hk => by
    have h1 := flat_at (l := r) (i := i) (k := k) (by simpa using hi) (by simpa using hk)
    rw [flatL_cons, List.take_succ_cons, tot_cons, List.getElem?_append_right (by simp; omega)]
    simp only [List.length_map, List.length_range, List.getElem_cons_succ]
    rw [show n + totL (List.take i r) + k - n = totL (List.take i r) + k by omega]
    exact h1
theorem tot_take {l : List Ent} {i : Nat} (hi : i < l.length) : totL (l.take (i + 1)) = totL (l.take i) + (l[i]'hi).2 := by
  unfold totL
  rw [List.take_add_one, List.getElem?_eq_getElem hi, List.map_append, List.sum_append]
  simp
/-- How far the search has come. -/
structure ScI (S : SS) (pos : Nat) (so met : Bool) (f nx : Ent) : Prop where
  no : met = false → ((flatL S.l).take pos).find? (rB S) = none ∧ so = decide (0 < pos) ∧ (0 < pos → (flatL S.l)[0]? = some f)
  yes : met = true → (flatL S.l).find? (rB S) = some nx
theorem ScI.zero (S : SS) (f nx : Ent) : ScI S 0 false false f nx := ⟨fun _ => ⟨by simp, rfl, fun h => absurd h (by omega)⟩, fun h => by cases h⟩
theorem take_one {l : List Ent} {pos : Nat} {v : Ent} (hv : l[pos]? = some v) : l.take (pos + 1) = l.take pos ++ [v] := by
  rw [List.take_add_one, hv]; rfl
theorem ScI.hit {S : SS} {pos : Nat} {so : Bool} {f nx v : Ent} (h : ScI S pos so false f nx) (hv : (flatL S.l)[pos]? = some v) (hb : rB S v = true) (so' : Bool) (f' : Ent) (pos' : Nat) : ScI S pos' so' true f' v := by
  refine ⟨fun h => (by cases h), fun _ => ?_⟩
  have h1 := (h.no rfl).1
  have h2 : flatL S.l = (flatL S.l).take pos ++ (flatL S.l).drop pos := (List.take_append_drop _ _).symm
  rw [h2, List.find?_append, h1]
  obtain ⟨hl, he⟩ := List.getElem?_eq_some_iff.1 hv
  rw [List.drop_eq_getElem_cons hl, he, List.find?_cons, hb]; rfl
theorem ScI.miss {S : SS} {pos : Nat} {so : Bool} {f nx v : Ent} (h : ScI S pos so false f nx) (hv : (flatL S.l)[pos]? = some v) (hb : rB S v = false) : ScI S (pos + 1) true false (if so = true then f else v) nx := by
  refine ⟨fun _ => ⟨?_, (decide_eq_true (Nat.succ_pos pos)).symm, fun _ => ?_⟩, fun h => by cases h⟩
  · rw [take_one hv, List.find?_append, (h.no rfl).1]
    simp [hb]
  · obtain ⟨h1, h2, h3⟩ := h.no rfl
    cases so with
    | true => exact h3 (by simpa using h2.symm)
    | false =>
      have : pos = 0 := by
        have := of_decide_eq_false h2.symm
        omega
      subst this
      exact hv
theorem ScI.done {S : SS} {f nx : Ent} {so : Bool} (h : ScI S (totL S.l) so false f nx) (h0 : 0 < totL S.l) : nextV S = f := by
  obtain ⟨h1, _, h3⟩ := h.no rfl
  rw [List.take_of_length_le (by rw [flatL_len]; exact Nat.le_refl _)] at h1
  rw [nextV_ref, h1, List.head?_eq_getElem?, h3 h0]; rfl
theorem ScI.found {S : SS} {f nx : Ent} {so : Bool} {pos : Nat} (h : ScI S pos so true f nx) : nextV S = nx := by
  rw [nextV_ref, h.yes rfl]; rfl
theorem RIsS.tell {w : World} {r : Nat} {vp vb : Value} {S : SS} (h : RIsS w r vp vb S) (p : List UInt8) (b : Nat) (hp : p.length ≤ 60) (hb : b ≤ 1000000) :
    RIsS (((w.setCell ⟨r, 2, none⟩ (.string (str p))).setCell ⟨r, 3, none⟩ (.int .i64 (b : Int))).setCell ⟨r, 4, none⟩ (.bool true)) r vp vb ⟨S.l, p, b, true⟩ :=
  ⟨by rw [block_setCell (block_setCell (block_setCell h.box _) _) _]; rfl, own_put (Nat.lt_succ_self r) (own_put (Nat.lt_succ_self r) (own_put (Nat.lt_succ_self r) h.paths _ _) _ _) _ _, own_put (Nat.lt_succ_self r) (own_put (Nat.lt_succ_self r) (own_put (Nat.lt_succ_self r) h.blocks _ _) _ _) _ _, h.good, h.few, hp, hb⟩
theorem info_rvis : (Tryd.prog.info? 41).map (fun i => (i.zero, i.size, i.bytes)) = some (some (.agg #[.string ⟨#[]⟩, .int .i64 0]), 2, 24) := by kernel_rfl
theorem slc_rvis {w : World} {b g : Nat} {t : Ent} (h : w.heap[g]? = some (.cells #[.string (str t.1), .int .i64 (t.2 : Int)] 41 (0, 0))) : SlC visC 41 w b (.slice (some ⟨g, 0, none⟩) 1 1) [t] :=
  SlC.of_own (cells := visC) (xs := [t]) (k := 2) (base := 0) ⟨by simp [visC_len], .inr ⟨g, 1, _, rfl, Nat.zero_le _, h, Nat.le_refl _, by simp [maxLen], by simp, by simp [visC]⟩⟩ b
/-- The two boxes of a search. -/
def bxV (w : World) (b : Nat) (x : Ent) : Prop := w.heap[b]? = some (.cells #[.string (str x.1), .int .i64 (x.2 : Int)] 41 (0, 0))
structure ScW (S : SS) (r : Nat) (vp vb : Value) (w0 wr : World) (fb nb : Nat) (f nx : Ent) : Prop where
  keep : Below w0.heap.size w0 wr
  bf : bxV wr fb f
  bn : bxV wr nb nx
  fs : f.1.length ≤ 60 ∧ f.2 ≤ 4096
  ns : nx.1.length ≤ 60 ∧ nx.2 ≤ 4096
theorem ScW.below {S : SS} {r fb nb : Nat} {vp vb : Value} {w0 wr w4 : World} {f nx : Ent} (h : ScW S r vp vb w0 wr fb nb f nx) (hb : Below wr.heap.size wr w4) : ScW S r vp vb w0 w4 fb nb f nx :=
  ⟨below_step h.keep hb, below_heap hb h.bf, below_heap hb h.bn, h.fs, h.ns⟩
theorem ScW.next {S : SS} {r fb nb : Nat} {vp vb : Value} {w0 wr : World} {f nx : Ent} (h : ScW S r vp vb w0 wr fb nb f nx) (x : Ent) (hx : x.1.length ≤ 60 ∧ x.2 ≤ 4096) (hne : fb ≠ nb) (hnb : w0.heap.size ≤ nb) : ScW S r vp vb w0 ((wr.setCell ⟨nb, 0, none⟩ (.string (str x.1))).setCell ⟨nb, 1, none⟩ (.int .i64 (x.2 : Int))) fb nb f x :=
  ⟨(h.keep.setCell hnb _).setCell hnb _, heap_set hne (heap_set hne h.bf), by unfold bxV; rw [block_setCell (block_setCell h.bn _) _]; rfl, h.fs, hx⟩
theorem ScW.first {S : SS} {r fb nb : Nat} {vp vb : Value} {w0 wr : World} {f nx : Ent} (h : ScW S r vp vb w0 wr fb nb f nx) (x : Ent) (hx : x.1.length ≤ 60 ∧ x.2 ≤ 4096) (hne : nb ≠ fb) (hnb : w0.heap.size ≤ fb) : ScW S r vp vb w0 ((wr.setCell ⟨fb, 0, none⟩ (.string (str x.1))).setCell ⟨fb, 1, none⟩ (.int .i64 (x.2 : Int))) fb nb x nx :=
  ⟨(h.keep.setCell hnb _).setCell hnb _, by unfold bxV; rw [block_setCell (block_setCell h.bf _) _]; rfl, heap_set hne (heap_set hne h.bn), hx, h.ns⟩
/-- Where the loop stands. -/
structure RNx (S : SS) (w wr : World) (r : Nat) (vp vb vo : Value) (k : Nat) : Prop where
  ring : RIsS wr r vp vb (afterN S k)
  keep : w.grownBy wr (some r)
  out : wr.ownsRow w.heap.size 41 2 vo (visN S k).length ((visN S k).flatMap visC)
theorem RIsS.grown {w w' : World} {r : Nat} {vp vb : Value} {S : SS} {row : Option Nat} (h : RIsS w r vp vb S) (hg : w.grownBy w' row) (hr : ∀ k, row = some k → k ≠ r ∧ vp.ownBlock ≠ some k ∧ vb.ownBlock ≠ some k) : RIsS w' r vp vb S := by
  refine ⟨(hg.block r (blk_lt h.box) (fun he => (hr r he.symm).1 rfl)).trans h.box, h.paths.kept hg ?_, h.blocks.kept hg ?_, h.good, h.few, h.lpv, h.lbv⟩
  · cases row with
    | none => cases hq : vp.ownBlock <;> simp
    | some k => exact .inr fun he => (hr k rfl).2.1 he
  · cases row with
    | none => cases hq : vb.ownBlock <;> simp
    | some k => exact .inr fun he => (hr k rfl).2.2 he
theorem visN_shape {w : World} {b e k n c : Nat} {A : Option Addr} {S : SS} {x : Ent} (h : w.ownsRow b e 2 (.slice A n c) (visN S k ++ [x]).length ((visN S k ++ [x]).flatMap visC)) : n = k + 1 := by
  rw [List.length_append, visN_len] at h
  rcases h.2 with ⟨_, h0⟩ | ⟨g, cap, cur, he, _⟩
  · simp at h0
  · cases he; rfl
/-- Behind a search: the visit is told. -/
theorem rn_tail {S : SS} {w1 w2 wm w5 : World} {r k nb : Nat} {vp vb vo v' : Value} {x : Ent} {o : Obj} (hk : RNx S w1 w2 r vp vb vo k) (h : RIsS w1 r vp vb S) (hb : Below w2.heap.size w2 wm) (hx : nextV (afterN S k) = x) (hnb : w2.heap.size ≤ nb) (hbx : bxV wm nb x) (hs : x.1.length ≤ 60 ∧ x.2 ≤ 4096)
    (hown : w5.ownsRow w1.heap.size 41 2 v' (visN S k ++ [x]).length ((visN S k ++ [x]).flatMap visC)) (hg : (wm.alloc o).grownBy w5 vo.ownBlock) :
    bxV w5 nb x ∧ (∃ lp lb td, w5.heap[r]? = some (.cells #[vp, vb, lp, lb, td] 43 (0, 0))) ∧
    RNx S w1 (((w5.setCell ⟨r, 2, none⟩ (.string (str x.1))).setCell ⟨r, 3, none⟩ (.int .i64 (x.2 : Int))).setCell ⟨r, 4, none⟩ (.bool true)) r vp vb v' (k + 1) := by
  have hrow : ∀ q, vo.ownBlock = some q → w1.heap.size ≤ q ∧ q < w2.heap.size := fun q hq => World.ownsRow.lt hk.out q hq
  have hr := blk_lt h.box
  have hne : ∀ q, vo.ownBlock = some q → q ≠ r ∧ vp.ownBlock ≠ some q ∧ vb.ownBlock ≠ some q := fun q hq => by
    have h1 := hrow q hq
    refine ⟨by omega, fun he => ?_, fun he => ?_⟩
    · have := World.ownsRow.lt h.paths q he; omega
    · have := World.ownsRow.lt h.blocks q he; omega
  have hba : Below w2.heap.size w2 (wm.alloc o) := hb.alloc hb.size o
  have h5 : RIsS w5 r vp vb (afterN S k) := (hk.ring.below hba).grown hg hne
  have h6 := h5.tell x.1 x.2 hs.1 (by have := hs.2; omega)
  have hbx' : (wm.alloc o).heap[nb]? = some _ := heap_old hbx
  refine ⟨(hg.block nb (blk_lt hbx') (fun he => ?_)).trans hbx', ⟨_, _, _, h5.box⟩, ?_, ?_, ?_⟩
  · have := hrow nb he.symm; omega
  · have he : afterN S (k + 1) = ⟨(afterN S k).l, x.1, x.2, true⟩ := by
      show nextS (afterN S k) = _
      unfold nextS
      rw [hx]
    rw [he]; exact h6
  · have hg5 : w1.grownBy w5 (some r) := by
      have h1 := grw_then hk.keep (grown_of_below (some r) hba)
      refine ⟨hg.os.trans h1.os, hg.tape.trans h1.tape, hg.output.trans h1.output, Nat.le_trans h1.size hg.size, fun q hq hqr => ?_⟩
      rw [hg.block q (Nat.lt_of_lt_of_le hq h1.size) (fun he => by have := (hrow q he.symm).1; omega)]
      exact h1.block q hq hqr
    exact grw_then (grw_then (grw_then hg5 (grw_set _ _ _ _)) (grw_set _ _ _ _)) (grw_set _ _ _ _)
  · rw [visN_succ, hx]
    exact own_put (by omega) (own_put (by omega) (own_put (by omega) hown _ _) _ _) _ _
section
set_option maxRecDepth 100000
/-- What each slot of the region holds. -/
def RnRtrue (r V : Nat) (adp adb : Addr) (n cp cb : Nat) (lp : List UInt8) (lb : Nat) (bb : Bool) (p : List UInt8) (m : Nat) : Nat → Value → World → Prop
  | 0, v, w => v = .pointer (some ⟨r, 0, none⟩)
  | 1, v, w => v = .pointer (some ⟨r, 0, none⟩)
  | 2, v, w => v = .pointer (some ⟨r, 4, none⟩)
  | 3, v, w => v = .bool true
  | 4, v, w => v = .bool true
  | 5, v, w => v = .agg #[.string (str p), .int .i64 (m : Int)]
  | 6, v, w => v = .pointer (some ⟨r, 0, none⟩)
  | 7, v, w => v = .pointer (some ⟨r, 0, none⟩)
  | 8, v, w => v = .pointer (some ⟨r, 2, none⟩)
  | 9, v, w => v = .agg #[.string (str lp), .int .i64 (lb : Int)]
  | 10, v, w => v = .bool bb
  | 11, v, w => v = .bool bb
  | _, _, _ => True
theorem RnRtrue_st (r V : Nat) (adp adb : Addr) (n cp cb : Nat) (lp : List UInt8) (lb : Nat) (bb : Bool) (p : List UInt8) (m : Nat) : ∀ i v w w', RnRtrue r V adp adb n cp cb lp lb bb p m i v w → Below w.heap.size w w' → RnRtrue r V adp adb n cp cb lp lb bb p m i v w'
  | 0, v, w, w', h, hb => h
  | 1, v, w, w', h, hb => h
  | 2, v, w, w', h, hb => h
  | 3, v, w, w', h, hb => h
  | 4, v, w, w', h, hb => h
  | 5, v, w, w', h, hb => h
  | 6, v, w, w', h, hb => h
  | 7, v, w, w', h, hb => h
  | 8, v, w, w', h, hb => h
  | 9, v, w, w', h, hb => h
  | 10, v, w, w', h, hb => h
  | 11, v, w, w', h, hb => h
  | _ + 12, _, _, _, _, _ => trivial
end
section
set_option maxRecDepth 100000
/-- What each slot of the region holds. -/
def RnRfalse (r V : Nat) (adp adb : Addr) (n cp cb : Nat) (lp : List UInt8) (lb : Nat) (bb : Bool) (p : List UInt8) (m : Nat) : Nat → Value → World → Prop
  | 0, v, w => v = .pointer (some ⟨r, 0, none⟩)
  | 1, v, w => v = .pointer (some ⟨r, 0, none⟩)
  | 2, v, w => v = .pointer (some ⟨r, 4, none⟩)
  | 3, v, w => v = .bool false
  | 4, v, w => v = .bool false
  | 5, v, w => True
  | 6, v, w => True
  | 7, v, w => True
  | 8, v, w => True
  | 9, v, w => True
  | 10, v, w => True
  | 11, v, w => v = .bool false
  | _, _, _ => True
theorem RnRfalse_st (r V : Nat) (adp adb : Addr) (n cp cb : Nat) (lp : List UInt8) (lb : Nat) (bb : Bool) (p : List UInt8) (m : Nat) : ∀ i v w w', RnRfalse r V adp adb n cp cb lp lb bb p m i v w → Below w.heap.size w w' → RnRfalse r V adp adb n cp cb lp lb bb p m i v w'
  | 0, v, w, w', h, hb => h
  | 1, v, w, w', h, hb => h
  | 2, v, w, w', h, hb => h
  | 3, v, w, w', h, hb => h
  | 4, v, w, w', h, hb => h
  | 5, v, w, w', h, hb => trivial
  | 6, v, w, w', h, hb => trivial
  | 7, v, w, w', h, hb => trivial
  | 8, v, w, w', h, hb => trivial
  | 9, v, w, w', h, hb => trivial
  | 10, v, w, w', h, hb => trivial
  | 11, v, w, w', h, hb => h
  | _ + 12, _, _, _, _, _ => trivial
end
set_option maxRecDepth 10000 in
set_option maxHeartbeats 4000000 in
theorem rnext_calls {r : Nat} {vp vb : Value} {S : SS} (q : Int) (w : World) (h : RIsS w r vp vb S) (hq : -9223372036854775808 ≤ q ∧ q ≤ 9223372036854775807) :
    Calls Tryd.prog 18 #[.pointer (some ⟨r, 0, none⟩), .int .i64 q] w fun e w' => ∃ v, e = .returned v ∧ w'.ownsRow w.heap.size 41 2 v (visN S (nextQ S q)).length ((visN S (nextQ S q)).flatMap visC) ∧ (∃ A n c, v = .slice A n c) ∧ RIsS w' r vp vb (afterN S (nextQ S q)) ∧ w.grownBy w' (some r) := by
  obtain ⟨Ap, cp, Ab, cb, rfl, rfl, hcp, hcb⟩ := h.shape
  have H := Aside0.mk h
  have hrl := blk_lt h.box
  have hfew := h.few
  have hT : totL S.l ≤ 409600 := by
    have := tot_bd h.good.small
    omega
  have HTO := Aside0.mk (rtotal_calls w h)
  clear h
  obtain ⟨N, hN⟩ : ∃ N, nextQ S q = N := ⟨_, rfl⟩
  have HQ := Aside0.mk hN
  rw [hN]
  obtain ⟨tt, htt⟩ : ∃ tt, totL S.l = tt := ⟨_, rfl⟩
  have HTT := Aside0.mk htt
  rw [htt] at hT
  have hN2 : (min (min (max q 0) 10000) (tt : Int)) = (N : Int) := by rw [← hN, ← htt]; unfold nextQ; omega
  have HNT : Aside0 (N ≤ tt) := ⟨by omega⟩
  have hN3 : N ≤ 10000 := by omega
  obtain ⟨mx, hmx⟩ : ∃ mx, (if 10000 < max q 0 then (10000 : Int) else max q 0) = mx := ⟨_, rfl⟩
  have hm2 : (if (tt : Int) < mx then (tt : Int) else mx) = (N : Int) := by
    rw [← hN2, ← hmx]
    split at hmx <;> split <;> omega
  clear hN htt hN2
  go_enter Tryd.func18, Tryd.ntmps18
  go_wp2_with fail
  refine HTO.out.mono ?_
  rintro e w1 ⟨rfl, rfl⟩
  rw [HTT.out]
  go_wp2_with fail
  have HN0 : Aside0 (RNx S w1 w1 r (.slice Ap S.l.length cp) (.slice Ab S.l.length cb) (.slice none 0 0) 0) := ⟨⟨H.out, World.grownBy.refl _ _, World.ownsRow_nil _ _ _ _⟩⟩
  go_loopw [5] (fun vo wr => ∃ (k : Nat) (A : Option Addr) (c : Nat), k ≤ N ∧ vo = .slice A k c ∧ Aside0 (RNx S w1 wr r (.slice Ap S.l.length cp) (.slice Ab S.l.length cb) (.slice A k c) k)) (fun vo wr => N - (match vo with | .slice _ n _ => n | _ => 0))
  case atStart => exact ⟨0, none, 0, Nat.zero_le _, rfl, HN0⟩
  case round =>
    obtain ⟨w2, rfl⟩ : ∃ w2, w2 = wr := ⟨_, rfl⟩
    obtain ⟨k, A, c, hk, rfl, hs⟩ := hrel
    by_cases hlt : k < N
    · have d1 : decide ((k : Int) < (N : Int)) = true := decide_eq_true (by omega)
      have HK := Aside0.mk hs.out
      obtain ⟨T, hT⟩ : ∃ T, T = afterN S k := ⟨_, rfl⟩
      have hTl : T.l = S.l := by rw [hT]; exact afterN_l S k
      have HT := Aside0.mk hT
      have HRG : Aside0 (RIsS w2 r (.slice Ap S.l.length cp) (.slice Ab S.l.length cb) T) := ⟨by rw [hT]; exact hs.out.ring⟩
      have HTL := Aside0.mk hTl
      obtain ⟨n, hn⟩ : ∃ n, S.l.length = n := ⟨_, rfl⟩
      rw [hn] at HRG HK hfew
      have HN := Aside0.mk hn
      have hrw : r < w2.heap.size := blk_lt HRG.out.box
      have HW0 : Aside0 (ScW T r (.slice Ap n cp) (.slice Ab n cb) w2 ((w2.alloc (.cells #[.string ⟨#[]⟩, .int .i64 0] 41 (0, 0))).alloc (.cells #[.string ⟨#[]⟩, .int .i64 0] 41 (0, 0))) w2.heap.size (w2.heap.size + 1) ([], 0) ([], 0)) :=
        ⟨⟨((Below.refl _ _).alloc (Nat.le_refl _) _).alloc (by simp) _, heap_old (heap_new rfl), heap_new (by simp), ⟨by decide, by decide⟩, ⟨by decide, by decide⟩⟩⟩
      rw [hn]
      clear hT hTl hn hs
      go_wp2_with fail
      go_loopw [8, 9, 10] (fun so me iw wr => ∃ (i pos : Nat) (s m : Bool) (f nx : Ent), i ≤ n ∧ so = .bool s ∧ me = .bool m ∧ iw = .int .i64 i ∧ Aside0 (ScW T r (.slice Ap n cp) (.slice Ab n cb) w2 wr w2.heap.size (w2.heap.size + 1) f nx ∧ ScI T pos s m f nx ∧ (m = false → pos = totL (T.l.take i)))) (fun so me iw wr => n - (intOf iw).toNat)
      case atStart => exact ⟨0, 0, false, false, ([], 0), ([], 0), Nat.zero_le _, rfl, rfl, rfl, ⟨HW0.out, ScI.zero _ _ _, fun _ => rfl⟩⟩
      case round =>
        obtain ⟨i, pos, s, m, f, nx, hi, rfl, rfl, rfl, hsc⟩ := hrel
        have hcx := (blk (HRG.out.below hsc.out.1.keep).box).1
        have x0 := hcx 0
        have x1 := hcx 1
        simp only [List.getElem?_toArray, List.getElem?_cons_zero, List.getElem?_cons_succ] at x0 x1
        have hrm : r < wr.heap.size := Nat.lt_of_lt_of_le hrw hsc.out.1.keep.size
        clear hcx
        by_cases hin : (i : Int) < (n : Int)
        · cases m with
          | true =>
            have hnb := (blk hsc.out.1.bn).1
            have y0 := hnb 0
            have y1 := hnb 1
            simp only [List.getElem?_toArray, List.getElem?_cons_zero, List.getElem?_cons_succ] at y0 y1
            have hx : nextV T = nx := hsc.out.2.1.found
            have hz1 := hsc.out.1.keep
            have hz2 := hsc.out.1.bn
            have hz3 := hsc.out.1.ns
            have HH : Aside0 (RIsS w1 r (.slice Ap n cp) (.slice Ab n cb) S) := ⟨by rw [← HN.out]; exact H.out⟩
            clear hnb
            have HXX : Aside0 (nextV (afterN S k) = nx) := ⟨by rw [← HT.out]; exact hx⟩
            have HZ3 := Aside0.mk hz3
            have HTL2 : Aside0 (∀ (v' : Value) (w5 : World), w5.ownsRow w1.heap.size 41 2 v' (visN S k ++ [nx]).length ((visN S k ++ [nx]).flatMap visC) → (wr.alloc (.cells #[.string (str nx.1), .int .i64 (nx.2 : Int)] 41 (0, 0))).grownBy w5 (Value.slice A k c).ownBlock → _) := ⟨fun v' w5 h1 h2 => rn_tail HK.out HH.out hz1 HXX.out (Nat.le_succ _) hz2 HZ3.out h1 h2⟩
            have HAB : Aside0 (Below w2.heap.size w2 (wr.alloc (.cells #[.string (str nx.1), .int .i64 (nx.2 : Int)] 41 (0, 0)))) := ⟨hz1.alloc hz1.size _⟩
            have HSZ : Aside0 (w1.heap.size ≤ (wr.alloc (.cells #[.string (str nx.1), .int .i64 (nx.2 : Int)] 41 (0, 0))).heap.size) := ⟨Nat.le_trans HK.out.keep.size HAB.out.size⟩
            have HOK : Aside0 (((visN S k).length + 1) * 24 ≤ 140737488355328) := ⟨by rw [visN_len]; omega⟩
            clear hz1 hz2 hz3 hx
            go_wp2_with (at_builtin; go_must (refine wpList_append_rows visC 2 visC_len (by decide) rfl (.tmp 78) (.tmp 80) 49 rfl w1.heap.size 41 41 0 (.agg #[.string ⟨#[]⟩, .int .i64 0]) 24 Tryd.underlying49 info_rvis rfl (by decide) (.slice A k c) (visN S k) [nx] (.slice (some ⟨wr.heap.size, 0, none⟩) 1 1) (by rfl) (by rfl) (own_below HK.out.out HAB.out) (slc_rvis (heap_new (by rfl))) (fun y hy => visC_one y) HOK.out HSZ.out ?_); intro v' w5 hown hg hsh; obtain ⟨A5, n5, c5, rfl⟩ := hsh; obtain ⟨e1, ⟨lp5, lb5, td5, e2⟩, e3⟩ := HTL2.out _ w5 hown hg; obtain rfl : n5 = k + 1 := visN_shape hown; obtain ⟨e4, e5⟩ := blk e1; obtain ⟨e6, e7⟩ := blk e2; have HRN := Aside0.mk e3; have e8 := e4 0; have e9 := e4 1; have f2 := e6 2; have f3 := e6 3; have f4 := e6 4; simp only [List.getElem?_toArray, List.getElem?_cons_zero, List.getElem?_cons_succ] at e8 e9 f2 f3 f4; clear hown hg e1 e2 e3 e4 e6)
            go_roundw
            case rel => exact ⟨k + 1, A5, c5, by omega, rfl, HRN⟩
            case measure => simp; omega
          | false =>
            have hn1 : i < T.l.length := by rw [HTL.out]; have := HN.out; omega
            obtain ⟨adp, rfl, hcp1⟩ := HRG.out.key i hn1
            obtain ⟨adb, rfl, hcb1⟩ := HRG.out.blo i hn1
            have hp60 := valid_len (HRG.out.good.paths _ (List.getElem_mem hn1))
            have hb40 := HRG.out.good.small _ (List.getElem_mem hn1)
            obtain ⟨p, hp⟩ : ∃ p, (T.l[i]'hn1).1 = p := ⟨_, rfl⟩
            obtain ⟨bk, hbk⟩ : ∃ bk, (T.l[i]'hn1).2 = bk := ⟨_, rfl⟩
            have HAT : Aside0 (∀ m, m < bk → (flatL T.l)[totL (T.l.take i) + m]? = some (p, m)) := ⟨fun m hm => by rw [flat_at hn1 (by rw [hbk]; exact hm), hp]⟩
            have HTK : Aside0 (totL (T.l.take (i + 1)) = totL (T.l.take i) + bk) := ⟨by rw [tot_take hn1, hbk]⟩
            rw [hp] at hcp1 hp60
            rw [hbk] at hcb1 hb40
            clear hp hbk
            go_wp2_with fail
            go_loopw [8, 9, 11] (fun so me kw wr => ∃ (m pos : Nat) (s mt : Bool) (f nx : Ent), m ≤ bk ∧ so = .bool s ∧ me = .bool mt ∧ kw = .int .i64 m ∧ Aside0 (ScW T r (.slice (some adp) n cp) (.slice (some adb) n cb) w2 wr w2.heap.size (w2.heap.size + 1) f nx ∧ ScI T pos s mt f nx ∧ (mt = false → pos = totL (T.l.take i) + m))) (fun so me kw wr => bk - (intOf kw).toNat)
            case atStart => exact ⟨0, pos, s, false, f, nx, Nat.zero_le _, rfl, rfl, rfl, ⟨hsc.out.1, hsc.out.2.1, fun _ => hsc.out.2.2 (by first | rfl | trivial)⟩⟩
            case round =>
              clear x0 x1 hrm hsc
              obtain ⟨m, pos, s, mt, f, nx, hm, rfl, rfl, rfl, hsc⟩ := hrel
              obtain ⟨w3, rfl⟩ : ∃ w3, w3 = wr := ⟨_, rfl⟩
              have hbox3 := (HRG.out.below hsc.out.1.keep).box
              have hcx := (blk hbox3).1
              have x0 := hcx 0
              have x1 := hcx 1
              simp only [List.getElem?_toArray, List.getElem?_cons_zero, List.getElem?_cons_succ] at x0 x1
              have hrm : r < w3.heap.size := Nat.lt_of_lt_of_le hrw hsc.out.1.keep.size
              have b3 := cell_keep hsc.out.1.keep hcb1
              have p3 := cell_keep hsc.out.1.keep hcp1
              clear hcx hbox3
              by_cases hmk : (m : Int) < (bk : Int)
              · cases mt with
                | true =>
                  go_wp2_with fail
                  go_roundw
                  case rel => exact ⟨i + 1, pos, s, true, f, nx, by omega, rfl, rfl, by go_num, ⟨hsc.out.1, hsc.out.2.1, fun h => by cases h⟩⟩
                  case measure => simp [intOf]; omega
                | false =>
                  cases s with
                  | true =>
                    have HAL : Aside0 (ScW T r (.slice (some adp) n cp) (.slice (some adb) n cb) w2 (w3.alloc (.cells #[.string (str p), .int .i64 (m : Int)] 41 (0, 0))) w2.heap.size (w2.heap.size + 1) f nx ∧ bxV (w3.alloc (.cells #[.string (str p), .int .i64 (m : Int)] 41 (0, 0))) w3.heap.size (p, m)) := ⟨⟨hsc.out.1.below ((Below.refl _ _).alloc (Nat.le_refl _) _), heap_new rfl⟩⟩
                    go_wp2_with fail
                    obtain ⟨wq, hwq⟩ : ∃ wq, wq = w3.alloc (.cells #[.string (str p), .int .i64 (m : Int)] 41 (0, 0)) := ⟨_, rfl⟩
                    rw [← hwq] at HAL ⊢
                    have HSQ := HAL
                    obtain ⟨V, hV⟩ : ∃ V, V = w3.heap.size := ⟨_, rfl⟩
                    rw [← hV] at HSQ ⊢
                    have hVn : w2.heap.size + 1 ≠ V := by have := blk_lt hsc.out.1.bn; omega
                    have HRQ := Aside0.mk (HRG.out.below HSQ.out.1.keep)
                    obtain ⟨lp, hlp⟩ : ∃ lp, T.lp = lp := ⟨_, rfl⟩
                    obtain ⟨lb, hlb⟩ : ∃ lb, T.lb = lb := ⟨_, rfl⟩
                    obtain ⟨td, htd⟩ : ∃ td, T.told = td := ⟨_, rfl⟩
                    obtain ⟨bb, hbb⟩ : ∃ bb, rbeh (p, m) (lp, lb) = bb := ⟨_, rfl⟩
                    have HBB : Aside0 (rB T (p, m) = (td && bb)) := ⟨by unfold rB; rw [hlp, hlb, htd, hbb]⟩
                    have HRB : Aside0 (wq.heap[r]? = some (.cells #[.slice (some adp) n cp, .slice (some adb) n cb, .string (str lp), .int .i64 (lb : Int), .bool td] 43 (0, 0))) := ⟨by rw [← hlp, ← hlb, ← htd]; exact HRQ.out.box⟩
                    have HVB : Aside0 (wq.heap[V]? = some (.cells #[.string (str p), .int .i64 (m : Int)] 41 (0, 0))) := ⟨HSQ.out.2⟩
                    have HBEH : Aside0 (∀ W, Calls Tryd.prog 29 #[.agg #[.string (str p), .int .i64 (m : Int)], .agg #[.string (str lp), .int .i64 (lb : Int)]] W fun e w' => e = .returned (.bool bb) ∧ Below W.heap.size W w') := ⟨fun W => by
                      have h1 := rbeh_calls (str p) (str lp) m lb W (by rw [str_size]; omega) (by rw [str_size, ← hlp]; have := HRQ.out.lpv; omega) (by omega) (by rw [← hlb]; have := HRQ.out.lbv; omega)
                      rw [str_data, str_data, hbb] at h1; exact h1⟩
                    have HHV := Aside0.mk (HAT.out m (by omega))
                    have HPS := hsc.out.2.2 (by first | rfl | trivial)
                    rw [← HPS] at HHV
                    have HSI := Aside0.mk hsc.out.2.1
                    have HPS2 := Aside0.mk HPS
                    clear hwq hV hlp hlb htd hbb hsc x0 x1 hrm b3 p3 HPS HAL
                    cases td with
                    | false =>
                      refine wp_region_flowMB (fun a b => Below a.heap.size a b) 12 (RnRfalse r V adp adb n cp cb lp lb bb p m) [62, 63, 64, 65, 66, 67, 68, 69, 70, 71, 72, 73] (by kernel_rfl) (by kernel_rfl) (by kernel_rfl) ((Below.refl _ _).drew) (fun _ _ _ h k => below_step h k) (RnRfalse_st _ _ _ _ _ _ _ _ _ _ _ _) ?_ (.inl (by kernel_rfl)) ?_
                      · intro i o hi ho aa w' F
                        have hlow := F.low
                        match i, ho with
                        | 0, ho =>
                          obtain rfl := Option.some.inj ho
                          refine flow_plain rfl rfl ?_
                          have f0 : aa.tmps.getD 0 undef = .pointer (some ⟨r, 0, none⟩) := F.out 0 (by kernel_rfl) _ rfl
                          exact op_move (.tmp 0) rfl ⟨_, rfl, Below.refl _ _, f0⟩
                        | 1, ho =>
                          obtain rfl := Option.some.inj ho
                          refine flow_plain rfl rfl ?_
                          have f62 : (aa.tmps.getD 62 undef) = .pointer (some ⟨r, 0, none⟩) := F.of 0 (by kernel_rfl)
                          refine op_pure (.pointer (some ⟨r, 0, none⟩)) ?_ ⟨_, rfl, Below.refl _ _, rfl⟩
                          simp [execOp, Act.eval, go_sem, f62]
                        | 2, ho =>
                          obtain rfl := Option.some.inj ho
                          refine flow_plain rfl rfl ?_
                          have f63 : (aa.tmps.getD 63 undef) = .pointer (some ⟨r, 0, none⟩) := F.of 1 (by kernel_rfl)
                          refine op_pure (.pointer (some ⟨r, 4, none⟩)) ?_ ⟨_, rfl, Below.refl _ _, rfl⟩
                          simp [execOp, Act.eval, go_sem, f63]
                        | 3, ho =>
                          obtain rfl := Option.some.inj ho
                          refine flow_plain rfl rfl ?_
                          have f64 : (aa.tmps.getD 64 undef) = .pointer (some ⟨r, 4, none⟩) := F.of 2 (by kernel_rfl)
                          have hc := (blk (below_heap hlow HRB.out)).1
                          have hc := hc 4
                          simp only [List.getElem?_toArray, List.getElem?_cons_zero, List.getElem?_cons_succ] at hc
                          refine op_pure (.bool false) ?_ ⟨_, rfl, Below.refl _ _, rfl⟩
                          simp [execOp, Act.eval, go_sem, f64, hc]
                        | 4, ho =>
                          obtain rfl := Option.some.inj ho
                          refine flow_plain rfl rfl ?_
                          have f65 : (aa.tmps.getD 65 undef) = .bool false := F.of 3 (by kernel_rfl)
                          exact op_move (.tmp 65) rfl ⟨_, rfl, Below.refl _ _, f65⟩
                        | 5, ho =>
                          obtain rfl := Option.some.inj ho
                          have hg : aa.tmps.getD 66 undef = .bool false := F.of 4 (by kernel_rfl)
                          exact flow_no rfl rfl 66 rfl hg ⟨_, rfl, Below.refl _ _, trivial⟩
                        | 6, ho =>
                          obtain rfl := Option.some.inj ho
                          have hg : aa.tmps.getD 66 undef = .bool false := F.of 4 (by kernel_rfl)
                          exact flow_no rfl rfl 66 rfl hg ⟨_, rfl, Below.refl _ _, trivial⟩
                        | 7, ho =>
                          obtain rfl := Option.some.inj ho
                          have hg : aa.tmps.getD 66 undef = .bool false := F.of 4 (by kernel_rfl)
                          exact flow_no rfl rfl 66 rfl hg ⟨_, rfl, Below.refl _ _, trivial⟩
                        | 8, ho =>
                          obtain rfl := Option.some.inj ho
                          have hg : aa.tmps.getD 66 undef = .bool false := F.of 4 (by kernel_rfl)
                          exact flow_no rfl rfl 66 rfl hg ⟨_, rfl, Below.refl _ _, trivial⟩
                        | 9, ho =>
                          obtain rfl := Option.some.inj ho
                          have hg : aa.tmps.getD 66 undef = .bool false := F.of 4 (by kernel_rfl)
                          exact flow_no rfl rfl 66 rfl hg ⟨_, rfl, Below.refl _ _, trivial⟩
                        | 10, ho =>
                          obtain rfl := Option.some.inj ho
                          have hg : aa.tmps.getD 66 undef = .bool false := F.of 4 (by kernel_rfl)
                          exact flow_no rfl rfl 66 rfl hg ⟨_, rfl, Below.refl _ _, trivial⟩
                        | 11, ho =>
                          obtain rfl := Option.some.inj ho
                          refine flow_plain rfl rfl ?_
                          have f66 : (aa.tmps.getD 66 undef) = .bool false := F.of 4 (by kernel_rfl)
                          have f72 : True := F.of 10 (by kernel_rfl)
                          refine op_pure (.bool false) ?_ ⟨_, rfl, Below.refl _ _, rfl⟩
                          simp [execOp, Act.eval, go_sem, f66]
                        | j + 12, ho => omega
                      intro vs w4 hlow hvs
                      refine ⟨fun hx => ?_, fun h => absurd h (by decide)⟩
                      clear hx
                      have h11 : vs 11 = .bool false := hvs 11 (by decide)
                      have HW4 := Aside0.mk hlow
                      simp only [putL, Act.put, List.setIfInBounds_toArray, List.set_cons_zero, List.set_cons_succ, Nat.reduceAdd]
                      rw [h11]
                      clear hvs hlow h11
                      have HMS := Aside0.mk (HSI.out.miss HHV.out HBB.out)
                      go_wp2_with fail
                      go_roundw
                      case rel => exact ⟨m + 1, pos + 1, true, false, f, nx, by omega, rfl, rfl, by go_num, ⟨HSQ.out.1.below HW4.out, HMS.out, fun _ => by rw [HPS2.out]; omega⟩⟩
                      case measure => simp [intOf]; omega
                    | true =>
                      cases bb with
                      | false =>
                        refine wp_region_flowMB (fun a b => Below a.heap.size a b) 12 (RnRtrue r V adp adb n cp cb lp lb false p m) [62, 63, 64, 65, 66, 67, 68, 69, 70, 71, 72, 73] (by kernel_rfl) (by kernel_rfl) (by kernel_rfl) ((Below.refl _ _).drew) (fun _ _ _ h k => below_step h k) (RnRtrue_st _ _ _ _ _ _ _ _ _ _ _ _) ?_ (.inl (by kernel_rfl)) ?_
                        · intro i o hi ho aa w' F
                          have hlow := F.low
                          match i, ho with
                          | 0, ho =>
                            obtain rfl := Option.some.inj ho
                            refine flow_plain rfl rfl ?_
                            have f0 : aa.tmps.getD 0 undef = .pointer (some ⟨r, 0, none⟩) := F.out 0 (by kernel_rfl) _ rfl
                            exact op_move (.tmp 0) rfl ⟨_, rfl, Below.refl _ _, f0⟩
                          | 1, ho =>
                            obtain rfl := Option.some.inj ho
                            refine flow_plain rfl rfl ?_
                            have f62 : (aa.tmps.getD 62 undef) = .pointer (some ⟨r, 0, none⟩) := F.of 0 (by kernel_rfl)
                            refine op_pure (.pointer (some ⟨r, 0, none⟩)) ?_ ⟨_, rfl, Below.refl _ _, rfl⟩
                            simp [execOp, Act.eval, go_sem, f62]
                          | 2, ho =>
                            obtain rfl := Option.some.inj ho
                            refine flow_plain rfl rfl ?_
                            have f63 : (aa.tmps.getD 63 undef) = .pointer (some ⟨r, 0, none⟩) := F.of 1 (by kernel_rfl)
                            refine op_pure (.pointer (some ⟨r, 4, none⟩)) ?_ ⟨_, rfl, Below.refl _ _, rfl⟩
                            simp [execOp, Act.eval, go_sem, f63]
                          | 3, ho =>
                            obtain rfl := Option.some.inj ho
                            refine flow_plain rfl rfl ?_
                            have f64 : (aa.tmps.getD 64 undef) = .pointer (some ⟨r, 4, none⟩) := F.of 2 (by kernel_rfl)
                            have hc := (blk (below_heap hlow HRB.out)).1
                            have hc := hc 4
                            simp only [List.getElem?_toArray, List.getElem?_cons_zero, List.getElem?_cons_succ] at hc
                            refine op_pure (.bool true) ?_ ⟨_, rfl, Below.refl _ _, rfl⟩
                            simp [execOp, Act.eval, go_sem, f64, hc]
                          | 4, ho =>
                            obtain rfl := Option.some.inj ho
                            refine flow_plain rfl rfl ?_
                            have f65 : (aa.tmps.getD 65 undef) = .bool true := F.of 3 (by kernel_rfl)
                            exact op_move (.tmp 65) rfl ⟨_, rfl, Below.refl _ _, f65⟩
                          | 5, ho =>
                            obtain rfl := Option.some.inj ho
                            have hg : aa.tmps.getD 66 undef = .bool true := F.of 4 (by kernel_rfl)
                            refine flow_yes rfl rfl 66 rfl hg ?_
                            have f12 : aa.tmps.getD 12 undef = .pointer (some ⟨V, 0, none⟩) := F.out 12 (by kernel_rfl) _ rfl
                            have hc := (blk (below_heap hlow HVB.out)).1
                            refine op_pure (.agg #[.string (str p), .int .i64 (m : Int)]) ?_ ⟨_, rfl, Below.refl _ _, rfl⟩
                            simp [execOp, Act.eval, go_sem, f12, hc]
                          | 6, ho =>
                            obtain rfl := Option.some.inj ho
                            have hg : aa.tmps.getD 66 undef = .bool true := F.of 4 (by kernel_rfl)
                            refine flow_yes rfl rfl 66 rfl hg ?_
                            have f0 : aa.tmps.getD 0 undef = .pointer (some ⟨r, 0, none⟩) := F.out 0 (by kernel_rfl) _ rfl
                            exact op_move (.tmp 0) rfl ⟨_, rfl, Below.refl _ _, f0⟩
                          | 7, ho =>
                            obtain rfl := Option.some.inj ho
                            have hg : aa.tmps.getD 66 undef = .bool true := F.of 4 (by kernel_rfl)
                            refine flow_yes rfl rfl 66 rfl hg ?_
                            have f68 : (aa.tmps.getD 68 undef) = .pointer (some ⟨r, 0, none⟩) := F.of 6 (by kernel_rfl)
                            refine op_pure (.pointer (some ⟨r, 0, none⟩)) ?_ ⟨_, rfl, Below.refl _ _, rfl⟩
                            simp [execOp, Act.eval, go_sem, f68]
                          | 8, ho =>
                            obtain rfl := Option.some.inj ho
                            have hg : aa.tmps.getD 66 undef = .bool true := F.of 4 (by kernel_rfl)
                            refine flow_yes rfl rfl 66 rfl hg ?_
                            have f69 : (aa.tmps.getD 69 undef) = .pointer (some ⟨r, 0, none⟩) := F.of 7 (by kernel_rfl)
                            refine op_pure (.pointer (some ⟨r, 2, none⟩)) ?_ ⟨_, rfl, Below.refl _ _, rfl⟩
                            simp [execOp, Act.eval, go_sem, f69]
                          | 9, ho =>
                            obtain rfl := Option.some.inj ho
                            have hg : aa.tmps.getD 66 undef = .bool true := F.of 4 (by kernel_rfl)
                            refine flow_yes rfl rfl 66 rfl hg ?_
                            have f70 : (aa.tmps.getD 70 undef) = .pointer (some ⟨r, 2, none⟩) := F.of 8 (by kernel_rfl)
                            have hc := (blk (below_heap hlow HRB.out)).1
                            have hc1 := hc 2
                            have hc2 := hc 3
                            simp only [List.getElem?_toArray, List.getElem?_cons_zero, List.getElem?_cons_succ] at hc1 hc2
                            refine op_pure (.agg #[.string (str lp), .int .i64 (lb : Int)]) ?_ ⟨_, rfl, Below.refl _ _, rfl⟩
                            simp [execOp, Act.eval, go_sem, f70, hc1, hc2]
                          | 10, ho =>
                            obtain rfl := Option.some.inj ho
                            have hg : aa.tmps.getD 66 undef = .bool true := F.of 4 (by kernel_rfl)
                            refine flow_yes rfl rfl 66 rfl hg ?_
                            have f67 : (aa.tmps.getD 67 undef) = .agg #[.string (str p), .int .i64 (m : Int)] := F.of 5 (by kernel_rfl)
                            have f71 : (aa.tmps.getD 71 undef) = .agg #[.string (str lp), .int .i64 (lb : Int)] := F.of 9 (by kernel_rfl)
                            refine op_call 29 #[.tmp 67, .tmp 71] #[41, 41] rfl _ rfl rfl rfl #[.agg #[.string (str p), .int .i64 (m : Int)], .agg #[.string (str lp), .int .i64 (lb : Int)]] (by simp [Act.eval, f67, f71]) ?_
                            refine (HBEH.out _).mono ?_
                            rintro e w2 ⟨rfl, hb2⟩
                            exact ⟨_, rfl, _, rfl, hb2, rfl⟩
                          | 11, ho =>
                            obtain rfl := Option.some.inj ho
                            refine flow_plain rfl rfl ?_
                            have f66 : (aa.tmps.getD 66 undef) = .bool true := F.of 4 (by kernel_rfl)
                            have f72 : (aa.tmps.getD 72 undef) = .bool false := F.of 10 (by kernel_rfl)
                            refine op_pure (.bool false) ?_ ⟨_, rfl, Below.refl _ _, rfl⟩
                            simp [execOp, Act.eval, go_sem, f66, f72]
                          | j + 12, ho => omega
                        intro vs w4 hlow hvs
                        refine ⟨fun hx => ?_, fun h => absurd h (by decide)⟩
                        clear hx
                        have h11 : vs 11 = .bool false := hvs 11 (by decide)
                        have HW4 := Aside0.mk hlow
                        simp only [putL, Act.put, List.setIfInBounds_toArray, List.set_cons_zero, List.set_cons_succ, Nat.reduceAdd]
                        rw [h11]
                        clear hvs hlow h11
                        have HMS := Aside0.mk (HSI.out.miss HHV.out HBB.out)
                        go_wp2_with fail
                        go_roundw
                        case rel => exact ⟨m + 1, pos + 1, true, false, f, nx, by omega, rfl, rfl, by go_num, ⟨HSQ.out.1.below HW4.out, HMS.out, fun _ => by rw [HPS2.out]; omega⟩⟩
                        case measure => simp [intOf]; omega
                      | true =>
                        refine wp_region_flowMB (fun a b => Below a.heap.size a b) 12 (RnRtrue r V adp adb n cp cb lp lb true p m) [62, 63, 64, 65, 66, 67, 68, 69, 70, 71, 72, 73] (by kernel_rfl) (by kernel_rfl) (by kernel_rfl) ((Below.refl _ _).drew) (fun _ _ _ h k => below_step h k) (RnRtrue_st _ _ _ _ _ _ _ _ _ _ _ _) ?_ (.inl (by kernel_rfl)) ?_
                        · intro i o hi ho aa w' F
                          have hlow := F.low
                          match i, ho with
                          | 0, ho =>
                            obtain rfl := Option.some.inj ho
                            refine flow_plain rfl rfl ?_
                            have f0 : aa.tmps.getD 0 undef = .pointer (some ⟨r, 0, none⟩) := F.out 0 (by kernel_rfl) _ rfl
                            exact op_move (.tmp 0) rfl ⟨_, rfl, Below.refl _ _, f0⟩
                          | 1, ho =>
                            obtain rfl := Option.some.inj ho
                            refine flow_plain rfl rfl ?_
                            have f62 : (aa.tmps.getD 62 undef) = .pointer (some ⟨r, 0, none⟩) := F.of 0 (by kernel_rfl)
                            refine op_pure (.pointer (some ⟨r, 0, none⟩)) ?_ ⟨_, rfl, Below.refl _ _, rfl⟩
                            simp [execOp, Act.eval, go_sem, f62]
                          | 2, ho =>
                            obtain rfl := Option.some.inj ho
                            refine flow_plain rfl rfl ?_
                            have f63 : (aa.tmps.getD 63 undef) = .pointer (some ⟨r, 0, none⟩) := F.of 1 (by kernel_rfl)
                            refine op_pure (.pointer (some ⟨r, 4, none⟩)) ?_ ⟨_, rfl, Below.refl _ _, rfl⟩
                            simp [execOp, Act.eval, go_sem, f63]
                          | 3, ho =>
                            obtain rfl := Option.some.inj ho
                            refine flow_plain rfl rfl ?_
                            have f64 : (aa.tmps.getD 64 undef) = .pointer (some ⟨r, 4, none⟩) := F.of 2 (by kernel_rfl)
                            have hc := (blk (below_heap hlow HRB.out)).1
                            have hc := hc 4
                            simp only [List.getElem?_toArray, List.getElem?_cons_zero, List.getElem?_cons_succ] at hc
                            refine op_pure (.bool true) ?_ ⟨_, rfl, Below.refl _ _, rfl⟩
                            simp [execOp, Act.eval, go_sem, f64, hc]
                          | 4, ho =>
                            obtain rfl := Option.some.inj ho
                            refine flow_plain rfl rfl ?_
                            have f65 : (aa.tmps.getD 65 undef) = .bool true := F.of 3 (by kernel_rfl)
                            exact op_move (.tmp 65) rfl ⟨_, rfl, Below.refl _ _, f65⟩
                          | 5, ho =>
                            obtain rfl := Option.some.inj ho
                            have hg : aa.tmps.getD 66 undef = .bool true := F.of 4 (by kernel_rfl)
                            refine flow_yes rfl rfl 66 rfl hg ?_
                            have f12 : aa.tmps.getD 12 undef = .pointer (some ⟨V, 0, none⟩) := F.out 12 (by kernel_rfl) _ rfl
                            have hc := (blk (below_heap hlow HVB.out)).1
                            refine op_pure (.agg #[.string (str p), .int .i64 (m : Int)]) ?_ ⟨_, rfl, Below.refl _ _, rfl⟩
                            simp [execOp, Act.eval, go_sem, f12, hc]
                          | 6, ho =>
                            obtain rfl := Option.some.inj ho
                            have hg : aa.tmps.getD 66 undef = .bool true := F.of 4 (by kernel_rfl)
                            refine flow_yes rfl rfl 66 rfl hg ?_
                            have f0 : aa.tmps.getD 0 undef = .pointer (some ⟨r, 0, none⟩) := F.out 0 (by kernel_rfl) _ rfl
                            exact op_move (.tmp 0) rfl ⟨_, rfl, Below.refl _ _, f0⟩
                          | 7, ho =>
                            obtain rfl := Option.some.inj ho
                            have hg : aa.tmps.getD 66 undef = .bool true := F.of 4 (by kernel_rfl)
                            refine flow_yes rfl rfl 66 rfl hg ?_
                            have f68 : (aa.tmps.getD 68 undef) = .pointer (some ⟨r, 0, none⟩) := F.of 6 (by kernel_rfl)
                            refine op_pure (.pointer (some ⟨r, 0, none⟩)) ?_ ⟨_, rfl, Below.refl _ _, rfl⟩
                            simp [execOp, Act.eval, go_sem, f68]
                          | 8, ho =>
                            obtain rfl := Option.some.inj ho
                            have hg : aa.tmps.getD 66 undef = .bool true := F.of 4 (by kernel_rfl)
                            refine flow_yes rfl rfl 66 rfl hg ?_
                            have f69 : (aa.tmps.getD 69 undef) = .pointer (some ⟨r, 0, none⟩) := F.of 7 (by kernel_rfl)
                            refine op_pure (.pointer (some ⟨r, 2, none⟩)) ?_ ⟨_, rfl, Below.refl _ _, rfl⟩
                            simp [execOp, Act.eval, go_sem, f69]
                          | 9, ho =>
                            obtain rfl := Option.some.inj ho
                            have hg : aa.tmps.getD 66 undef = .bool true := F.of 4 (by kernel_rfl)
                            refine flow_yes rfl rfl 66 rfl hg ?_
                            have f70 : (aa.tmps.getD 70 undef) = .pointer (some ⟨r, 2, none⟩) := F.of 8 (by kernel_rfl)
                            have hc := (blk (below_heap hlow HRB.out)).1
                            have hc1 := hc 2
                            have hc2 := hc 3
                            simp only [List.getElem?_toArray, List.getElem?_cons_zero, List.getElem?_cons_succ] at hc1 hc2
                            refine op_pure (.agg #[.string (str lp), .int .i64 (lb : Int)]) ?_ ⟨_, rfl, Below.refl _ _, rfl⟩
                            simp [execOp, Act.eval, go_sem, f70, hc1, hc2]
                          | 10, ho =>
                            obtain rfl := Option.some.inj ho
                            have hg : aa.tmps.getD 66 undef = .bool true := F.of 4 (by kernel_rfl)
                            refine flow_yes rfl rfl 66 rfl hg ?_
                            have f67 : (aa.tmps.getD 67 undef) = .agg #[.string (str p), .int .i64 (m : Int)] := F.of 5 (by kernel_rfl)
                            have f71 : (aa.tmps.getD 71 undef) = .agg #[.string (str lp), .int .i64 (lb : Int)] := F.of 9 (by kernel_rfl)
                            refine op_call 29 #[.tmp 67, .tmp 71] #[41, 41] rfl _ rfl rfl rfl #[.agg #[.string (str p), .int .i64 (m : Int)], .agg #[.string (str lp), .int .i64 (lb : Int)]] (by simp [Act.eval, f67, f71]) ?_
                            refine (HBEH.out _).mono ?_
                            rintro e w2 ⟨rfl, hb2⟩
                            exact ⟨_, rfl, _, rfl, hb2, rfl⟩
                          | 11, ho =>
                            obtain rfl := Option.some.inj ho
                            refine flow_plain rfl rfl ?_
                            have f66 : (aa.tmps.getD 66 undef) = .bool true := F.of 4 (by kernel_rfl)
                            have f72 : (aa.tmps.getD 72 undef) = .bool true := F.of 10 (by kernel_rfl)
                            refine op_pure (.bool true) ?_ ⟨_, rfl, Below.refl _ _, rfl⟩
                            simp [execOp, Act.eval, go_sem, f66, f72]
                          | j + 12, ho => omega
                        intro vs w4 hlow hvs
                        refine ⟨fun hx => ?_, fun h => absurd h (by decide)⟩
                        clear hx
                        have h11 : vs 11 = .bool true := hvs 11 (by decide)
                        have HW4 := Aside0.mk hlow
                        simp only [putL, Act.put, List.setIfInBounds_toArray, List.set_cons_zero, List.set_cons_succ, Nat.reduceAdd]
                        rw [h11]
                        clear hvs hlow h11
                        have HHT := Aside0.mk (HSI.out.hit HHV.out HBB.out true f pos)
                        have HS4 := Aside0.mk (HSQ.out.1.below HW4.out)
                        have v0 := (blk (below_heap HW4.out HVB.out)).1
                        have v1 := v0 1
                        have v0 := v0 0
                        have g0 := (blk HS4.out.bn).1
                        have gf := (blk HS4.out.bn).2
                        have g1 := g0 1
                        have g0 := g0 0
                        simp only [List.getElem?_toArray, List.getElem?_cons_zero, List.getElem?_cons_succ] at v0 v1 g0 g1
                        go_wp2_with fail
                        go_roundw
                        case rel => exact ⟨m + 1, pos, true, true, f, (p, m), by omega, rfl, rfl, by go_num, ⟨HS4.out.next (p, m) ⟨hp60, by omega⟩ (by omega) (Nat.le_succ _), HHT.out, fun h => by cases h⟩⟩
                        case measure => simp [intOf]; omega
                  | false =>
                    have HAL : Aside0 (ScW T r (.slice (some adp) n cp) (.slice (some adb) n cb) w2 (w3.alloc (.cells #[.string (str p), .int .i64 (m : Int)] 41 (0, 0))) w2.heap.size (w2.heap.size + 1) f nx ∧ bxV (w3.alloc (.cells #[.string (str p), .int .i64 (m : Int)] 41 (0, 0))) w3.heap.size (p, m)) := ⟨⟨hsc.out.1.below ((Below.refl _ _).alloc (Nat.le_refl _) _), heap_new rfl⟩⟩
                    obtain ⟨u0, uf⟩ := blk hsc.out.1.bf
                    have u1 := u0 1
                    have u0 := u0 0
                    simp only [List.getElem?_toArray, List.getElem?_cons_zero, List.getElem?_cons_succ] at u0 u1
                    have hVlt : w2.heap.size < w3.heap.size := blk_lt hsc.out.1.bf
                    have hv0 := (blk HAL.out.2).1 0
                    have hv1 := (blk HAL.out.2).1 1
                    simp only [List.getElem?_toArray, List.getElem?_cons_zero, List.getElem?_cons_succ] at hv0 hv1
                    have HSQ0 : Aside0 (_ ∧ bxV (((w3.setCell ⟨w2.heap.size, 0, none⟩ (.string (str p))).setCell ⟨w2.heap.size, 1, none⟩ (.int .i64 (m : Int))).alloc (.cells #[.string (str p), .int .i64 (m : Int)] 41 (0, 0))) w3.heap.size (p, m)) := ⟨⟨(hsc.out.1.first (p, m) ⟨hp60, by omega⟩ (by omega) (Nat.le_refl _)).below ((Below.refl _ _).alloc (Nat.le_refl _) (.cells #[.string (str p), .int .i64 (m : Int)] 41 (0, 0))), heap_new (by simp only [World.size_setCell])⟩⟩
                    go_wp2_with fail
                    obtain ⟨wq, hwq⟩ : ∃ wq, wq = ((w3.setCell ⟨w2.heap.size, 0, none⟩ (.string (str p))).setCell ⟨w2.heap.size, 1, none⟩ (.int .i64 (m : Int))).alloc (.cells #[.string (str p), .int .i64 (m : Int)] 41 (0, 0)) := ⟨_, rfl⟩
                    have HSQ : Aside0 (ScW T r (.slice (some adp) n cp) (.slice (some adb) n cb) w2 wq w2.heap.size (w2.heap.size + 1) (p, m) nx ∧ bxV wq w3.heap.size (p, m)) := ⟨by rw [hwq]; exact HSQ0.out⟩
                    rw [← hwq]
                    clear HSQ0 u0 u1 uf hv0 hv1
                    obtain ⟨V, hV⟩ : ∃ V, V = w3.heap.size := ⟨_, rfl⟩
                    rw [← hV] at HSQ ⊢
                    have hVn : w2.heap.size + 1 ≠ V := by have := blk_lt hsc.out.1.bn; omega
                    have HRQ := Aside0.mk (HRG.out.below HSQ.out.1.keep)
                    obtain ⟨lp, hlp⟩ : ∃ lp, T.lp = lp := ⟨_, rfl⟩
                    obtain ⟨lb, hlb⟩ : ∃ lb, T.lb = lb := ⟨_, rfl⟩
                    obtain ⟨td, htd⟩ : ∃ td, T.told = td := ⟨_, rfl⟩
                    obtain ⟨bb, hbb⟩ : ∃ bb, rbeh (p, m) (lp, lb) = bb := ⟨_, rfl⟩
                    have HBB : Aside0 (rB T (p, m) = (td && bb)) := ⟨by unfold rB; rw [hlp, hlb, htd, hbb]⟩
                    have HRB : Aside0 (wq.heap[r]? = some (.cells #[.slice (some adp) n cp, .slice (some adb) n cb, .string (str lp), .int .i64 (lb : Int), .bool td] 43 (0, 0))) := ⟨by rw [← hlp, ← hlb, ← htd]; exact HRQ.out.box⟩
                    have HVB : Aside0 (wq.heap[V]? = some (.cells #[.string (str p), .int .i64 (m : Int)] 41 (0, 0))) := ⟨HSQ.out.2⟩
                    have HBEH : Aside0 (∀ W, Calls Tryd.prog 29 #[.agg #[.string (str p), .int .i64 (m : Int)], .agg #[.string (str lp), .int .i64 (lb : Int)]] W fun e w' => e = .returned (.bool bb) ∧ Below W.heap.size W w') := ⟨fun W => by
                      have h1 := rbeh_calls (str p) (str lp) m lb W (by rw [str_size]; omega) (by rw [str_size, ← hlp]; have := HRQ.out.lpv; omega) (by omega) (by rw [← hlb]; have := HRQ.out.lbv; omega)
                      rw [str_data, str_data, hbb] at h1; exact h1⟩
                    have HHV := Aside0.mk (HAT.out m (by omega))
                    have HPS := hsc.out.2.2 (by first | rfl | trivial)
                    rw [← HPS] at HHV
                    have HSI := Aside0.mk hsc.out.2.1
                    have HPS2 := Aside0.mk HPS
                    clear hwq hV hlp hlb htd hbb hsc x0 x1 hrm b3 p3 HPS HAL
                    cases td with
                    | false =>
                      refine wp_region_flowMB (fun a b => Below a.heap.size a b) 12 (RnRfalse r V adp adb n cp cb lp lb bb p m) [62, 63, 64, 65, 66, 67, 68, 69, 70, 71, 72, 73] (by kernel_rfl) (by kernel_rfl) (by kernel_rfl) ((Below.refl _ _).drew) (fun _ _ _ h k => below_step h k) (RnRfalse_st _ _ _ _ _ _ _ _ _ _ _ _) ?_ (.inl (by kernel_rfl)) ?_
                      · intro i o hi ho aa w' F
                        have hlow := F.low
                        match i, ho with
                        | 0, ho =>
                          obtain rfl := Option.some.inj ho
                          refine flow_plain rfl rfl ?_
                          have f0 : aa.tmps.getD 0 undef = .pointer (some ⟨r, 0, none⟩) := F.out 0 (by kernel_rfl) _ rfl
                          exact op_move (.tmp 0) rfl ⟨_, rfl, Below.refl _ _, f0⟩
                        | 1, ho =>
                          obtain rfl := Option.some.inj ho
                          refine flow_plain rfl rfl ?_
                          have f62 : (aa.tmps.getD 62 undef) = .pointer (some ⟨r, 0, none⟩) := F.of 0 (by kernel_rfl)
                          refine op_pure (.pointer (some ⟨r, 0, none⟩)) ?_ ⟨_, rfl, Below.refl _ _, rfl⟩
                          simp [execOp, Act.eval, go_sem, f62]
                        | 2, ho =>
                          obtain rfl := Option.some.inj ho
                          refine flow_plain rfl rfl ?_
                          have f63 : (aa.tmps.getD 63 undef) = .pointer (some ⟨r, 0, none⟩) := F.of 1 (by kernel_rfl)
                          refine op_pure (.pointer (some ⟨r, 4, none⟩)) ?_ ⟨_, rfl, Below.refl _ _, rfl⟩
                          simp [execOp, Act.eval, go_sem, f63]
                        | 3, ho =>
                          obtain rfl := Option.some.inj ho
                          refine flow_plain rfl rfl ?_
                          have f64 : (aa.tmps.getD 64 undef) = .pointer (some ⟨r, 4, none⟩) := F.of 2 (by kernel_rfl)
                          have hc := (blk (below_heap hlow HRB.out)).1
                          have hc := hc 4
                          simp only [List.getElem?_toArray, List.getElem?_cons_zero, List.getElem?_cons_succ] at hc
                          refine op_pure (.bool false) ?_ ⟨_, rfl, Below.refl _ _, rfl⟩
                          simp [execOp, Act.eval, go_sem, f64, hc]
                        | 4, ho =>
                          obtain rfl := Option.some.inj ho
                          refine flow_plain rfl rfl ?_
                          have f65 : (aa.tmps.getD 65 undef) = .bool false := F.of 3 (by kernel_rfl)
                          exact op_move (.tmp 65) rfl ⟨_, rfl, Below.refl _ _, f65⟩
                        | 5, ho =>
                          obtain rfl := Option.some.inj ho
                          have hg : aa.tmps.getD 66 undef = .bool false := F.of 4 (by kernel_rfl)
                          exact flow_no rfl rfl 66 rfl hg ⟨_, rfl, Below.refl _ _, trivial⟩
                        | 6, ho =>
                          obtain rfl := Option.some.inj ho
                          have hg : aa.tmps.getD 66 undef = .bool false := F.of 4 (by kernel_rfl)
                          exact flow_no rfl rfl 66 rfl hg ⟨_, rfl, Below.refl _ _, trivial⟩
                        | 7, ho =>
                          obtain rfl := Option.some.inj ho
                          have hg : aa.tmps.getD 66 undef = .bool false := F.of 4 (by kernel_rfl)
                          exact flow_no rfl rfl 66 rfl hg ⟨_, rfl, Below.refl _ _, trivial⟩
                        | 8, ho =>
                          obtain rfl := Option.some.inj ho
                          have hg : aa.tmps.getD 66 undef = .bool false := F.of 4 (by kernel_rfl)
                          exact flow_no rfl rfl 66 rfl hg ⟨_, rfl, Below.refl _ _, trivial⟩
                        | 9, ho =>
                          obtain rfl := Option.some.inj ho
                          have hg : aa.tmps.getD 66 undef = .bool false := F.of 4 (by kernel_rfl)
                          exact flow_no rfl rfl 66 rfl hg ⟨_, rfl, Below.refl _ _, trivial⟩
                        | 10, ho =>
                          obtain rfl := Option.some.inj ho
                          have hg : aa.tmps.getD 66 undef = .bool false := F.of 4 (by kernel_rfl)
                          exact flow_no rfl rfl 66 rfl hg ⟨_, rfl, Below.refl _ _, trivial⟩
                        | 11, ho =>
                          obtain rfl := Option.some.inj ho
                          refine flow_plain rfl rfl ?_
                          have f66 : (aa.tmps.getD 66 undef) = .bool false := F.of 4 (by kernel_rfl)
                          have f72 : True := F.of 10 (by kernel_rfl)
                          refine op_pure (.bool false) ?_ ⟨_, rfl, Below.refl _ _, rfl⟩
                          simp [execOp, Act.eval, go_sem, f66]
                        | j + 12, ho => omega
                      intro vs w4 hlow hvs
                      refine ⟨fun hx => ?_, fun h => absurd h (by decide)⟩
                      clear hx
                      have h11 : vs 11 = .bool false := hvs 11 (by decide)
                      have HW4 := Aside0.mk hlow
                      simp only [putL, Act.put, List.setIfInBounds_toArray, List.set_cons_zero, List.set_cons_succ, Nat.reduceAdd]
                      rw [h11]
                      clear hvs hlow h11
                      have HMS := Aside0.mk (HSI.out.miss HHV.out HBB.out)
                      go_wp2_with fail
                      go_roundw
                      case rel => exact ⟨m + 1, pos + 1, true, false, (p, m), nx, by omega, rfl, rfl, by go_num, ⟨HSQ.out.1.below HW4.out, HMS.out, fun _ => by rw [HPS2.out]; omega⟩⟩
                      case measure => simp [intOf]; omega
                    | true =>
                      cases bb with
                      | false =>
                        refine wp_region_flowMB (fun a b => Below a.heap.size a b) 12 (RnRtrue r V adp adb n cp cb lp lb false p m) [62, 63, 64, 65, 66, 67, 68, 69, 70, 71, 72, 73] (by kernel_rfl) (by kernel_rfl) (by kernel_rfl) ((Below.refl _ _).drew) (fun _ _ _ h k => below_step h k) (RnRtrue_st _ _ _ _ _ _ _ _ _ _ _ _) ?_ (.inl (by kernel_rfl)) ?_
                        · intro i o hi ho aa w' F
                          have hlow := F.low
                          match i, ho with
                          | 0, ho =>
                            obtain rfl := Option.some.inj ho
                            refine flow_plain rfl rfl ?_
                            have f0 : aa.tmps.getD 0 undef = .pointer (some ⟨r, 0, none⟩) := F.out 0 (by kernel_rfl) _ rfl
                            exact op_move (.tmp 0) rfl ⟨_, rfl, Below.refl _ _, f0⟩
                          | 1, ho =>
                            obtain rfl := Option.some.inj ho
                            refine flow_plain rfl rfl ?_
                            have f62 : (aa.tmps.getD 62 undef) = .pointer (some ⟨r, 0, none⟩) := F.of 0 (by kernel_rfl)
                            refine op_pure (.pointer (some ⟨r, 0, none⟩)) ?_ ⟨_, rfl, Below.refl _ _, rfl⟩
                            simp [execOp, Act.eval, go_sem, f62]
                          | 2, ho =>
                            obtain rfl := Option.some.inj ho
                            refine flow_plain rfl rfl ?_
                            have f63 : (aa.tmps.getD 63 undef) = .pointer (some ⟨r, 0, none⟩) := F.of 1 (by kernel_rfl)
                            refine op_pure (.pointer (some ⟨r, 4, none⟩)) ?_ ⟨_, rfl, Below.refl _ _, rfl⟩
                            simp [execOp, Act.eval, go_sem, f63]
                          | 3, ho =>
                            obtain rfl := Option.some.inj ho
                            refine flow_plain rfl rfl ?_
                            have f64 : (aa.tmps.getD 64 undef) = .pointer (some ⟨r, 4, none⟩) := F.of 2 (by kernel_rfl)
                            have hc := (blk (below_heap hlow HRB.out)).1
                            have hc := hc 4
                            simp only [List.getElem?_toArray, List.getElem?_cons_zero, List.getElem?_cons_succ] at hc
                            refine op_pure (.bool true) ?_ ⟨_, rfl, Below.refl _ _, rfl⟩
                            simp [execOp, Act.eval, go_sem, f64, hc]
                          | 4, ho =>
                            obtain rfl := Option.some.inj ho
                            refine flow_plain rfl rfl ?_
                            have f65 : (aa.tmps.getD 65 undef) = .bool true := F.of 3 (by kernel_rfl)
                            exact op_move (.tmp 65) rfl ⟨_, rfl, Below.refl _ _, f65⟩
                          | 5, ho =>
                            obtain rfl := Option.some.inj ho
                            have hg : aa.tmps.getD 66 undef = .bool true := F.of 4 (by kernel_rfl)
                            refine flow_yes rfl rfl 66 rfl hg ?_
                            have f12 : aa.tmps.getD 12 undef = .pointer (some ⟨V, 0, none⟩) := F.out 12 (by kernel_rfl) _ rfl
                            have hc := (blk (below_heap hlow HVB.out)).1
                            refine op_pure (.agg #[.string (str p), .int .i64 (m : Int)]) ?_ ⟨_, rfl, Below.refl _ _, rfl⟩
                            simp [execOp, Act.eval, go_sem, f12, hc]
                          | 6, ho =>
                            obtain rfl := Option.some.inj ho
                            have hg : aa.tmps.getD 66 undef = .bool true := F.of 4 (by kernel_rfl)
                            refine flow_yes rfl rfl 66 rfl hg ?_
                            have f0 : aa.tmps.getD 0 undef = .pointer (some ⟨r, 0, none⟩) := F.out 0 (by kernel_rfl) _ rfl
                            exact op_move (.tmp 0) rfl ⟨_, rfl, Below.refl _ _, f0⟩
                          | 7, ho =>
                            obtain rfl := Option.some.inj ho
                            have hg : aa.tmps.getD 66 undef = .bool true := F.of 4 (by kernel_rfl)
                            refine flow_yes rfl rfl 66 rfl hg ?_
                            have f68 : (aa.tmps.getD 68 undef) = .pointer (some ⟨r, 0, none⟩) := F.of 6 (by kernel_rfl)
                            refine op_pure (.pointer (some ⟨r, 0, none⟩)) ?_ ⟨_, rfl, Below.refl _ _, rfl⟩
                            simp [execOp, Act.eval, go_sem, f68]
                          | 8, ho =>
                            obtain rfl := Option.some.inj ho
                            have hg : aa.tmps.getD 66 undef = .bool true := F.of 4 (by kernel_rfl)
                            refine flow_yes rfl rfl 66 rfl hg ?_
                            have f69 : (aa.tmps.getD 69 undef) = .pointer (some ⟨r, 0, none⟩) := F.of 7 (by kernel_rfl)
                            refine op_pure (.pointer (some ⟨r, 2, none⟩)) ?_ ⟨_, rfl, Below.refl _ _, rfl⟩
                            simp [execOp, Act.eval, go_sem, f69]
                          | 9, ho =>
                            obtain rfl := Option.some.inj ho
                            have hg : aa.tmps.getD 66 undef = .bool true := F.of 4 (by kernel_rfl)
                            refine flow_yes rfl rfl 66 rfl hg ?_
                            have f70 : (aa.tmps.getD 70 undef) = .pointer (some ⟨r, 2, none⟩) := F.of 8 (by kernel_rfl)
                            have hc := (blk (below_heap hlow HRB.out)).1
                            have hc1 := hc 2
                            have hc2 := hc 3
                            simp only [List.getElem?_toArray, List.getElem?_cons_zero, List.getElem?_cons_succ] at hc1 hc2
                            refine op_pure (.agg #[.string (str lp), .int .i64 (lb : Int)]) ?_ ⟨_, rfl, Below.refl _ _, rfl⟩
                            simp [execOp, Act.eval, go_sem, f70, hc1, hc2]
                          | 10, ho =>
                            obtain rfl := Option.some.inj ho
                            have hg : aa.tmps.getD 66 undef = .bool true := F.of 4 (by kernel_rfl)
                            refine flow_yes rfl rfl 66 rfl hg ?_
                            have f67 : (aa.tmps.getD 67 undef) = .agg #[.string (str p), .int .i64 (m : Int)] := F.of 5 (by kernel_rfl)
                            have f71 : (aa.tmps.getD 71 undef) = .agg #[.string (str lp), .int .i64 (lb : Int)] := F.of 9 (by kernel_rfl)
                            refine op_call 29 #[.tmp 67, .tmp 71] #[41, 41] rfl _ rfl rfl rfl #[.agg #[.string (str p), .int .i64 (m : Int)], .agg #[.string (str lp), .int .i64 (lb : Int)]] (by simp [Act.eval, f67, f71]) ?_
                            refine (HBEH.out _).mono ?_
                            rintro e w2 ⟨rfl, hb2⟩
                            exact ⟨_, rfl, _, rfl, hb2, rfl⟩
                          | 11, ho =>
                            obtain rfl := Option.some.inj ho
                            refine flow_plain rfl rfl ?_
                            have f66 : (aa.tmps.getD 66 undef) = .bool true := F.of 4 (by kernel_rfl)
                            have f72 : (aa.tmps.getD 72 undef) = .bool false := F.of 10 (by kernel_rfl)
                            refine op_pure (.bool false) ?_ ⟨_, rfl, Below.refl _ _, rfl⟩
                            simp [execOp, Act.eval, go_sem, f66, f72]
                          | j + 12, ho => omega
                        intro vs w4 hlow hvs
                        refine ⟨fun hx => ?_, fun h => absurd h (by decide)⟩
                        clear hx
                        have h11 : vs 11 = .bool false := hvs 11 (by decide)
                        have HW4 := Aside0.mk hlow
                        simp only [putL, Act.put, List.setIfInBounds_toArray, List.set_cons_zero, List.set_cons_succ, Nat.reduceAdd]
                        rw [h11]
                        clear hvs hlow h11
                        have HMS := Aside0.mk (HSI.out.miss HHV.out HBB.out)
                        go_wp2_with fail
                        go_roundw
                        case rel => exact ⟨m + 1, pos + 1, true, false, (p, m), nx, by omega, rfl, rfl, by go_num, ⟨HSQ.out.1.below HW4.out, HMS.out, fun _ => by rw [HPS2.out]; omega⟩⟩
                        case measure => simp [intOf]; omega
                      | true =>
                        refine wp_region_flowMB (fun a b => Below a.heap.size a b) 12 (RnRtrue r V adp adb n cp cb lp lb true p m) [62, 63, 64, 65, 66, 67, 68, 69, 70, 71, 72, 73] (by kernel_rfl) (by kernel_rfl) (by kernel_rfl) ((Below.refl _ _).drew) (fun _ _ _ h k => below_step h k) (RnRtrue_st _ _ _ _ _ _ _ _ _ _ _ _) ?_ (.inl (by kernel_rfl)) ?_
                        · intro i o hi ho aa w' F
                          have hlow := F.low
                          match i, ho with
                          | 0, ho =>
                            obtain rfl := Option.some.inj ho
                            refine flow_plain rfl rfl ?_
                            have f0 : aa.tmps.getD 0 undef = .pointer (some ⟨r, 0, none⟩) := F.out 0 (by kernel_rfl) _ rfl
                            exact op_move (.tmp 0) rfl ⟨_, rfl, Below.refl _ _, f0⟩
                          | 1, ho =>
                            obtain rfl := Option.some.inj ho
                            refine flow_plain rfl rfl ?_
                            have f62 : (aa.tmps.getD 62 undef) = .pointer (some ⟨r, 0, none⟩) := F.of 0 (by kernel_rfl)
                            refine op_pure (.pointer (some ⟨r, 0, none⟩)) ?_ ⟨_, rfl, Below.refl _ _, rfl⟩
                            simp [execOp, Act.eval, go_sem, f62]
                          | 2, ho =>
                            obtain rfl := Option.some.inj ho
                            refine flow_plain rfl rfl ?_
                            have f63 : (aa.tmps.getD 63 undef) = .pointer (some ⟨r, 0, none⟩) := F.of 1 (by kernel_rfl)
                            refine op_pure (.pointer (some ⟨r, 4, none⟩)) ?_ ⟨_, rfl, Below.refl _ _, rfl⟩
                            simp [execOp, Act.eval, go_sem, f63]
                          | 3, ho =>
                            obtain rfl := Option.some.inj ho
                            refine flow_plain rfl rfl ?_
                            have f64 : (aa.tmps.getD 64 undef) = .pointer (some ⟨r, 4, none⟩) := F.of 2 (by kernel_rfl)
                            have hc := (blk (below_heap hlow HRB.out)).1
                            have hc := hc 4
                            simp only [List.getElem?_toArray, List.getElem?_cons_zero, List.getElem?_cons_succ] at hc
                            refine op_pure (.bool true) ?_ ⟨_, rfl, Below.refl _ _, rfl⟩
                            simp [execOp, Act.eval, go_sem, f64, hc]
                          | 4, ho =>
                            obtain rfl := Option.some.inj ho
                            refine flow_plain rfl rfl ?_
                            have f65 : (aa.tmps.getD 65 undef) = .bool true := F.of 3 (by kernel_rfl)
                            exact op_move (.tmp 65) rfl ⟨_, rfl, Below.refl _ _, f65⟩
                          | 5, ho =>
                            obtain rfl := Option.some.inj ho
                            have hg : aa.tmps.getD 66 undef = .bool true := F.of 4 (by kernel_rfl)
                            refine flow_yes rfl rfl 66 rfl hg ?_
                            have f12 : aa.tmps.getD 12 undef = .pointer (some ⟨V, 0, none⟩) := F.out 12 (by kernel_rfl) _ rfl
                            have hc := (blk (below_heap hlow HVB.out)).1
                            refine op_pure (.agg #[.string (str p), .int .i64 (m : Int)]) ?_ ⟨_, rfl, Below.refl _ _, rfl⟩
                            simp [execOp, Act.eval, go_sem, f12, hc]
                          | 6, ho =>
                            obtain rfl := Option.some.inj ho
                            have hg : aa.tmps.getD 66 undef = .bool true := F.of 4 (by kernel_rfl)
                            refine flow_yes rfl rfl 66 rfl hg ?_
                            have f0 : aa.tmps.getD 0 undef = .pointer (some ⟨r, 0, none⟩) := F.out 0 (by kernel_rfl) _ rfl
                            exact op_move (.tmp 0) rfl ⟨_, rfl, Below.refl _ _, f0⟩
                          | 7, ho =>
                            obtain rfl := Option.some.inj ho
                            have hg : aa.tmps.getD 66 undef = .bool true := F.of 4 (by kernel_rfl)
                            refine flow_yes rfl rfl 66 rfl hg ?_
                            have f68 : (aa.tmps.getD 68 undef) = .pointer (some ⟨r, 0, none⟩) := F.of 6 (by kernel_rfl)
                            refine op_pure (.pointer (some ⟨r, 0, none⟩)) ?_ ⟨_, rfl, Below.refl _ _, rfl⟩
                            simp [execOp, Act.eval, go_sem, f68]
                          | 8, ho =>
                            obtain rfl := Option.some.inj ho
                            have hg : aa.tmps.getD 66 undef = .bool true := F.of 4 (by kernel_rfl)
                            refine flow_yes rfl rfl 66 rfl hg ?_
                            have f69 : (aa.tmps.getD 69 undef) = .pointer (some ⟨r, 0, none⟩) := F.of 7 (by kernel_rfl)
                            refine op_pure (.pointer (some ⟨r, 2, none⟩)) ?_ ⟨_, rfl, Below.refl _ _, rfl⟩
                            simp [execOp, Act.eval, go_sem, f69]
                          | 9, ho =>
                            obtain rfl := Option.some.inj ho
                            have hg : aa.tmps.getD 66 undef = .bool true := F.of 4 (by kernel_rfl)
                            refine flow_yes rfl rfl 66 rfl hg ?_
                            have f70 : (aa.tmps.getD 70 undef) = .pointer (some ⟨r, 2, none⟩) := F.of 8 (by kernel_rfl)
                            have hc := (blk (below_heap hlow HRB.out)).1
                            have hc1 := hc 2
                            have hc2 := hc 3
                            simp only [List.getElem?_toArray, List.getElem?_cons_zero, List.getElem?_cons_succ] at hc1 hc2
                            refine op_pure (.agg #[.string (str lp), .int .i64 (lb : Int)]) ?_ ⟨_, rfl, Below.refl _ _, rfl⟩
                            simp [execOp, Act.eval, go_sem, f70, hc1, hc2]
                          | 10, ho =>
                            obtain rfl := Option.some.inj ho
                            have hg : aa.tmps.getD 66 undef = .bool true := F.of 4 (by kernel_rfl)
                            refine flow_yes rfl rfl 66 rfl hg ?_
                            have f67 : (aa.tmps.getD 67 undef) = .agg #[.string (str p), .int .i64 (m : Int)] := F.of 5 (by kernel_rfl)
                            have f71 : (aa.tmps.getD 71 undef) = .agg #[.string (str lp), .int .i64 (lb : Int)] := F.of 9 (by kernel_rfl)
                            refine op_call 29 #[.tmp 67, .tmp 71] #[41, 41] rfl _ rfl rfl rfl #[.agg #[.string (str p), .int .i64 (m : Int)], .agg #[.string (str lp), .int .i64 (lb : Int)]] (by simp [Act.eval, f67, f71]) ?_
                            refine (HBEH.out _).mono ?_
                            rintro e w2 ⟨rfl, hb2⟩
                            exact ⟨_, rfl, _, rfl, hb2, rfl⟩
                          | 11, ho =>
                            obtain rfl := Option.some.inj ho
                            refine flow_plain rfl rfl ?_
                            have f66 : (aa.tmps.getD 66 undef) = .bool true := F.of 4 (by kernel_rfl)
                            have f72 : (aa.tmps.getD 72 undef) = .bool true := F.of 10 (by kernel_rfl)
                            refine op_pure (.bool true) ?_ ⟨_, rfl, Below.refl _ _, rfl⟩
                            simp [execOp, Act.eval, go_sem, f66, f72]
                          | j + 12, ho => omega
                        intro vs w4 hlow hvs
                        refine ⟨fun hx => ?_, fun h => absurd h (by decide)⟩
                        clear hx
                        have h11 : vs 11 = .bool true := hvs 11 (by decide)
                        have HW4 := Aside0.mk hlow
                        simp only [putL, Act.put, List.setIfInBounds_toArray, List.set_cons_zero, List.set_cons_succ, Nat.reduceAdd]
                        rw [h11]
                        clear hvs hlow h11
                        have HHT := Aside0.mk (HSI.out.hit HHV.out HBB.out true (p, m) pos)
                        have HS4 := Aside0.mk (HSQ.out.1.below HW4.out)
                        have v0 := (blk (below_heap HW4.out HVB.out)).1
                        have v1 := v0 1
                        have v0 := v0 0
                        have g0 := (blk HS4.out.bn).1
                        have gf := (blk HS4.out.bn).2
                        have g1 := g0 1
                        have g0 := g0 0
                        simp only [List.getElem?_toArray, List.getElem?_cons_zero, List.getElem?_cons_succ] at v0 v1 g0 g1
                        go_wp2_with fail
                        go_roundw
                        case rel => exact ⟨m + 1, pos, true, true, (p, m), (p, m), by omega, rfl, rfl, by go_num, ⟨HS4.out.next (p, m) ⟨hp60, by omega⟩ (by omega) (Nat.le_succ _), HHT.out, fun h => by cases h⟩⟩
                        case measure => simp [intOf]; omega
              · cases mt with
                | true =>
                  go_wp2_with fail
                  go_roundw
                  case rel => exact ⟨i + 1, pos, s, true, f, nx, by omega, rfl, rfl, by go_num, ⟨hsc.out.1, hsc.out.2.1, fun h => by cases h⟩⟩
                  case measure => simp [intOf]; omega
                | false =>
                  have hmb : m = bk := by omega
                  go_wp2_with fail
                  go_roundw
                  case rel => exact ⟨i + 1, pos, s, false, f, nx, by omega, rfl, rfl, by go_num, ⟨hsc.out.1, hsc.out.2.1, fun _ => by rw [HTK.out, hsc.out.2.2 (by first | rfl | trivial), hmb]⟩⟩
                  case measure => simp [intOf]; omega
        · cases m with
          | true =>
            have hnb := (blk hsc.out.1.bn).1
            have y0 := hnb 0
            have y1 := hnb 1
            simp only [List.getElem?_toArray, List.getElem?_cons_zero, List.getElem?_cons_succ] at y0 y1
            have hx : nextV T = nx := hsc.out.2.1.found
            have hz1 := hsc.out.1.keep
            have hz2 := hsc.out.1.bn
            have hz3 := hsc.out.1.ns
            have HH : Aside0 (RIsS w1 r (.slice Ap n cp) (.slice Ab n cb) S) := ⟨by rw [← HN.out]; exact H.out⟩
            clear hnb
            have HXX : Aside0 (nextV (afterN S k) = nx) := ⟨by rw [← HT.out]; exact hx⟩
            have HZ3 := Aside0.mk hz3
            have HTL2 : Aside0 (∀ (v' : Value) (w5 : World), w5.ownsRow w1.heap.size 41 2 v' (visN S k ++ [nx]).length ((visN S k ++ [nx]).flatMap visC) → (wr.alloc (.cells #[.string (str nx.1), .int .i64 (nx.2 : Int)] 41 (0, 0))).grownBy w5 (Value.slice A k c).ownBlock → _) := ⟨fun v' w5 h1 h2 => rn_tail HK.out HH.out hz1 HXX.out (Nat.le_succ _) hz2 HZ3.out h1 h2⟩
            have HAB : Aside0 (Below w2.heap.size w2 (wr.alloc (.cells #[.string (str nx.1), .int .i64 (nx.2 : Int)] 41 (0, 0)))) := ⟨hz1.alloc hz1.size _⟩
            have HSZ : Aside0 (w1.heap.size ≤ (wr.alloc (.cells #[.string (str nx.1), .int .i64 (nx.2 : Int)] 41 (0, 0))).heap.size) := ⟨Nat.le_trans HK.out.keep.size HAB.out.size⟩
            have HOK : Aside0 (((visN S k).length + 1) * 24 ≤ 140737488355328) := ⟨by rw [visN_len]; omega⟩
            clear hz1 hz2 hz3 hx
            go_wp2_with (at_builtin; go_must (refine wpList_append_rows visC 2 visC_len (by decide) rfl (.tmp 78) (.tmp 80) 49 rfl w1.heap.size 41 41 0 (.agg #[.string ⟨#[]⟩, .int .i64 0]) 24 Tryd.underlying49 info_rvis rfl (by decide) (.slice A k c) (visN S k) [nx] (.slice (some ⟨wr.heap.size, 0, none⟩) 1 1) (by rfl) (by rfl) (own_below HK.out.out HAB.out) (slc_rvis (heap_new (by rfl))) (fun y hy => visC_one y) HOK.out HSZ.out ?_); intro v' w5 hown hg hsh; obtain ⟨A5, n5, c5, rfl⟩ := hsh; obtain ⟨e1, ⟨lp5, lb5, td5, e2⟩, e3⟩ := HTL2.out _ w5 hown hg; obtain rfl : n5 = k + 1 := visN_shape hown; obtain ⟨e4, e5⟩ := blk e1; obtain ⟨e6, e7⟩ := blk e2; have HRN := Aside0.mk e3; have e8 := e4 0; have e9 := e4 1; have f2 := e6 2; have f3 := e6 3; have f4 := e6 4; simp only [List.getElem?_toArray, List.getElem?_cons_zero, List.getElem?_cons_succ] at e8 e9 f2 f3 f4; clear hown hg e1 e2 e3 e4 e6)
            go_roundw
            case rel => exact ⟨k + 1, A5, c5, by omega, rfl, HRN⟩
            case measure => simp; omega
          | false =>
            have hin2 : i = n := by omega
            have hx : nextV T = f := by
              refine ScI.done (so := s) (nx := nx) ?_ (by rw [HTL.out]; have := HTT.out; have := HNT.out; omega)
              have h1 := hsc.out.2.2 (by first | rfl | trivial)
              rw [hin2, List.take_of_length_le (by rw [HTL.out]; have := HN.out; omega)] at h1
              rw [← h1]; exact hsc.out.2.1
            have hnb := (blk hsc.out.1.bn).1
            have y0 := hnb 0
            have y1 := hnb 1
            have hfb := (blk hsc.out.1.bf).1
            have u0 := hfb 0
            have u1 := hfb 1
            simp only [List.getElem?_toArray, List.getElem?_cons_zero, List.getElem?_cons_succ] at y0 y1 u0 u1
            have yf := (blk hsc.out.1.bn).2
            have hz0 : bxV ((wr.setCell ⟨w2.heap.size + 1, 0, none⟩ (.string (str f.1))).setCell ⟨w2.heap.size + 1, 1, none⟩ (.int .i64 (f.2 : Int))) (w2.heap.size + 1) f := by
              unfold bxV
              rw [block_setCell (block_setCell hsc.out.1.bn _) _]; rfl
            have hz1 : Below w2.heap.size w2 ((wr.setCell ⟨w2.heap.size + 1, 0, none⟩ (.string (str f.1))).setCell ⟨w2.heap.size + 1, 1, none⟩ (.int .i64 (f.2 : Int))) := (hsc.out.1.keep.setCell (Nat.le_succ _) _).setCell (Nat.le_succ _) _
            have hz2 := hz0
            have hz3 := hsc.out.1.fs
            have HH : Aside0 (RIsS w1 r (.slice Ap n cp) (.slice Ab n cb) S) := ⟨by rw [← HN.out]; exact H.out⟩
            clear hnb hfb hin2 hz0
            have HXX : Aside0 (nextV (afterN S k) = f) := ⟨by rw [← HT.out]; exact hx⟩
            have HZ3 := Aside0.mk hz3
            have HTL2 : Aside0 (∀ (v' : Value) (w5 : World), w5.ownsRow w1.heap.size 41 2 v' (visN S k ++ [f]).length ((visN S k ++ [f]).flatMap visC) → (((wr.setCell ⟨w2.heap.size + 1, 0, none⟩ (.string (str f.1))).setCell ⟨w2.heap.size + 1, 1, none⟩ (.int .i64 (f.2 : Int))).alloc (.cells #[.string (str f.1), .int .i64 (f.2 : Int)] 41 (0, 0))).grownBy w5 (Value.slice A k c).ownBlock → _) := ⟨fun v' w5 h1 h2 => rn_tail HK.out HH.out hz1 HXX.out (Nat.le_succ _) hz2 HZ3.out h1 h2⟩
            have HAB : Aside0 (Below w2.heap.size w2 (((wr.setCell ⟨w2.heap.size + 1, 0, none⟩ (.string (str f.1))).setCell ⟨w2.heap.size + 1, 1, none⟩ (.int .i64 (f.2 : Int))).alloc (.cells #[.string (str f.1), .int .i64 (f.2 : Int)] 41 (0, 0)))) := ⟨hz1.alloc hz1.size _⟩
            have HSZ : Aside0 (w1.heap.size ≤ (((wr.setCell ⟨w2.heap.size + 1, 0, none⟩ (.string (str f.1))).setCell ⟨w2.heap.size + 1, 1, none⟩ (.int .i64 (f.2 : Int))).alloc (.cells #[.string (str f.1), .int .i64 (f.2 : Int)] 41 (0, 0))).heap.size) := ⟨Nat.le_trans HK.out.keep.size HAB.out.size⟩
            have HOK : Aside0 (((visN S k).length + 1) * 24 ≤ 140737488355328) := ⟨by rw [visN_len]; omega⟩
            clear hz1 hz2 hz3 hx
            go_wp2_with (at_builtin; go_must (refine wpList_append_rows visC 2 visC_len (by decide) rfl (.tmp 78) (.tmp 80) 49 rfl w1.heap.size 41 41 0 (.agg #[.string ⟨#[]⟩, .int .i64 0]) 24 Tryd.underlying49 info_rvis rfl (by decide) (.slice A k c) (visN S k) [f] (.slice (some ⟨wr.heap.size, 0, none⟩) 1 1) (by rfl) (by rfl) (own_below HK.out.out HAB.out) (slc_rvis (heap_new (by simp))) (fun y hy => visC_one y) HOK.out HSZ.out ?_); intro v' w5 hown hg hsh; obtain ⟨A5, n5, c5, rfl⟩ := hsh; obtain ⟨e1, ⟨lp5, lb5, td5, e2⟩, e3⟩ := HTL2.out _ w5 hown hg; obtain rfl : n5 = k + 1 := visN_shape hown; obtain ⟨e4, e5⟩ := blk e1; obtain ⟨e6, e7⟩ := blk e2; have HRN := Aside0.mk e3; have e8 := e4 0; have e9 := e4 1; have f2 := e6 2; have f3 := e6 3; have f4 := e6 4; simp only [List.getElem?_toArray, List.getElem?_cons_zero, List.getElem?_cons_succ] at e8 e9 f2 f3 f4; clear hown hg e1 e2 e3 e4 e6)
            go_roundw
            case rel => exact ⟨k + 1, A5, c5, by omega, rfl, HRN⟩
            case measure => simp; omega
    · obtain rfl : k = N := by omega
      have HF := Aside0.mk hs.out
      go_wp2_with fail
      go_ret
      exact ⟨_, rfl, HF.out.out, ⟨_, _, _, rfl⟩, HF.out.ring, HF.out.keep⟩
end Go.Proofs.YtoigmepkhiknbaaDoor
