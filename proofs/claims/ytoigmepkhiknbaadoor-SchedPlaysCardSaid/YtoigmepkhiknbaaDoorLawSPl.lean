/-
  SchedPlays: whatever paths are set, dropped and asked for, each call answers, and the next visits are, as the document says. No condition.
-/
import Derived.Test.YtoigmepkhiknbaaDoorSchAwake
import Derived.Test.YtoigmepkhiknbaaDoorSchSmall
namespace Go.Proofs.YtoigmepkhiknbaaDoor
open Go.RowKit Go.Joins Go.Maps
set_option linter.unusedVariables false
set_option linter.unusedSimpArgs false

theorem RIsS.keepS {w w' : World} {r g mb : Nat} {vp vb : Value} {S : SS} (h : RIsS w r vp vb S) (hk : KeepS g mb w w') (h1 : g < r) (h2 : mb < r) : RIsS w' r vp vb S :=
  ⟨(hk.block r (blk_lt h.box) (by omega) (by omega)).trans h.box, own_keepS h.paths hk (by omega) (by omega), own_keepS h.blocks hk (by omega) (by omega), h.good, h.few, h.lpv, h.lbv⟩
theorem IsS.off {w w' : World} {base g mb r : Nat} {S : SS} (h : IsS w base g mb S) (hg : w.grownBy w' (some r)) (h1 : g ≠ r) (h2 : mb ≠ r) : IsS w' base g mb S := by
  refine ⟨h.hg, h.hm, (hg.block g (blk_lt h.box) (fun e => h1 (by cases e; rfl))).trans h.box, ?_, h.good, h.few, h.lpv, h.lbv⟩
  obtain ⟨D, ⟨es, clock, hh, hr⟩, hM⟩ := h.map
  exact ⟨D, ⟨es, clock, (hg.block mb (blk_lt hh) (fun e => h2 (by cases e; rfl))).trans hh, hr⟩, hM⟩
/-- Where the boxes lie. -/
structure Dst (b0 g mb r B : Nat) : Prop where
  g0 : b0 ≤ g
  m0 : b0 ≤ mb
  gr : g < r
  mr : mb < r
  rB : r < B
/-- While the law's two rings go on by one step. -/
structure PlJ (S S' : SS) (W : World) (base g mb r B : Nat) (x : Stp) (i j : Nat) (l : Array Bool) (w : World) : Prop where
  is : IsS w base g mb (if l.getD i false = true then S' else S)
  ris : ∃ vp vb, RIsS w r vp vb (if l.getD j false = true then S' else S)
  low : Below W.heap.size W w
  box : w.heap[B]? = some (.cells #[.int .i64 x.kind, .string x.path, .int .i64 x.num] 45 (0, 0))
theorem getD_other {l : Array Bool} {i j : Nat} (h : j ≠ i) : (l.setIfInBounds i true).getD j false = l.getD j false := by
  rw [Array.getD_eq_getD_getElem?, Array.getElem?_setIfInBounds, if_neg (fun e => h e.symm), ← Array.getD_eq_getD_getElem?]
theorem PlJ.below {S S' : SS} {W : World} {base g mb r B i j q : Nat} {x : Stp} {l : Array Bool} {w w' : World} (h : PlJ S S' W base g mb r B x i j l w) (hb : Below w.heap.size w w') (h1 : q ≠ i) (h2 : q ≠ j) : PlJ S S' W base g mb r B x i j (l.setIfInBounds q true) w' := by
  refine ⟨?_, ?_, below_step h.low hb, below_heap hb h.box⟩
  · rw [getD_other h1.symm]; exact h.is.below hb
  · obtain ⟨vp, vb, hr⟩ := h.ris
    rw [getD_other h2.symm]; exact ⟨vp, vb, hr.below hb⟩
theorem PlJ.left {S S' : SS} {W : World} {base g mb r B i j : Nat} {x : Stp} {l : Array Bool} {w w' : World} (h : PlJ S S' W base g mb r B x i j l w) (hd : Dst W.heap.size g mb r B) (hij : i ≠ j) (hi : i < l.size) (hs : IsS w' base g mb S') (hk : KeepS g mb w w') : PlJ S S' W base g mb r B x i j (l.setIfInBounds i true) w' := by
  refine ⟨?_, ?_, ?_, (hk.block B (blk_lt h.box) (by have := hd.rB; have := hd.gr; omega) (by have := hd.rB; have := hd.mr; omega)).trans h.box⟩
  · rw [getD_self hi]; exact hs
  · obtain ⟨vp, vb, hr⟩ := h.ris
    rw [getD_other hij.symm]; exact ⟨vp, vb, hr.keepS hk hd.gr hd.mr⟩
  · exact ⟨hk.os.trans h.low.os, hk.tape.trans h.low.tape, hk.output.trans h.low.output, Nat.le_trans h.low.size hk.size, fun q hq => (hk.block q (Nat.lt_of_lt_of_le hq h.low.size) (by have := hd.g0; omega) (by have := hd.m0; omega)).trans (h.low.block q hq)⟩
theorem PlJ.right {S S' : SS} {W : World} {base g mb r B i j : Nat} {x : Stp} {l : Array Bool} {w w' : World} (h : PlJ S S' W base g mb r B x i j l w) (hd : Dst W.heap.size g mb r B) (hij : i ≠ j) (hj : j < l.size) (hs : ∃ vp vb, RIsS w' r vp vb S') (hk : w.grownBy w' (some r)) : PlJ S S' W base g mb r B x i j (l.setIfInBounds j true) w' := by
  refine ⟨?_, ?_, ?_, (hk.block B (blk_lt h.box) (fun e => by have := hd.rB; cases e; omega)).trans h.box⟩
  · rw [getD_other hij]; exact h.is.off hk (by have := hd.gr; omega) (by have := hd.mr; omega)
  · rw [getD_self hj]; exact hs
  · exact ⟨hk.os.trans h.low.os, hk.tape.trans h.low.tape, hk.output.trans h.low.output, Nat.le_trans h.low.size hk.size, fun q hq => (hk.block q (Nat.lt_of_lt_of_le hq h.low.size) (fun e => by have := hd.g0; have := hd.gr; cases e; omega)).trans (h.low.block q hq)⟩
theorem PlJ.is0 {S S' : SS} {W : World} {base g mb r B i j : Nat} {x : Stp} {l : Array Bool} {w : World} (h : PlJ S S' W base g mb r B x i j l w) (hi : l.getD i false = false) : IsS w base g mb S := by
  have := h.is; rw [hi] at this; exact this
theorem PlJ.ris0 {S S' : SS} {W : World} {base g mb r B i j : Nat} {x : Stp} {l : Array Bool} {w : World} (h : PlJ S S' W base g mb r B x i j l w) (hj : l.getD j false = false) : ∃ vp vb, RIsS w r vp vb S := by
  have := h.ris; rw [hj] at this; exact this
/-- Where the law stands between two steps. -/
structure PlI (W : World) (base g mb r : Nat) (w : World) : Prop where
  st : ∃ S, IsS w base g mb S ∧ ∃ vp vb, RIsS w r vp vb S
  low : Below W.heap.size W w
theorem PlJ.end {S S' : SS} {W : World} {base g mb r B i j : Nat} {x : Stp} {l : Array Bool} {w : World} (h : PlJ S S' W base g mb r B x i j l w) (hi : l.getD i false = true) (hj : l.getD j false = true) : IsS w base g mb S' ∧ (∃ vp vb, RIsS w r vp vb S') ∧ Below W.heap.size W w := by
  have h1 := h.is
  have h2 := h.ris
  rw [hi] at h1
  rw [hj] at h2
  exact ⟨h1, h2, h.low⟩
theorem keysL_tv {w : World} {b : Nat} {v : Value} {L : List (List UInt8)} (h : w.ownsRow b 9 1 v L.length (L.map tv)) (b0 : Nat) : SlS w b0 v L := Sl.of_own h
section
set_option maxRecDepth 100000
/-- What each slot of the region holds. -/
def P1 (g r B : Nat) (x : Stp) (E : Int) : Nat → Array Bool → Value → World → Prop
  | 0, l, v, w => v = .pointer (some ⟨g, 0, none⟩)
  | 1, l, v, w => v = .pointer (some ⟨B, 1, none⟩)
  | 2, l, v, w => v = .string x.path
  | 3, l, v, w => v = .pointer (some ⟨B, 2, none⟩)
  | 4, l, v, w => v = .int .i64 x.num
  | 5, l, v, w => v = .int .i64 E
  | 6, l, v, w => v = .pointer (some ⟨r, 0, none⟩)
  | 7, l, v, w => v = .pointer (some ⟨B, 1, none⟩)
  | 8, l, v, w => v = .string x.path
  | 9, l, v, w => v = .pointer (some ⟨B, 2, none⟩)
  | 10, l, v, w => v = .int .i64 x.num
  | 11, l, v, w => v = .int .i64 E
  | 12, l, v, w => v = .bool false
  | _, _, _, _ => True
def P1_w : Nat → Bool
  | 5 => true
  | 11 => true
  | _ => false
theorem P1_st (g r B : Nat) (x : Stp) (E : Int) : ∀ j i l v w w', P1_w i = false → P1 g r B x E j l v w → Below w.heap.size w w' → P1 g r B x E j (l.setIfInBounds i true) v w'
  | 0, i, l, v, w, w', _, h, hb => h
  | 1, i, l, v, w, w', _, h, hb => h
  | 2, i, l, v, w, w', _, h, hb => h
  | 3, i, l, v, w, w', _, h, hb => h
  | 4, i, l, v, w, w', _, h, hb => h
  | 5, i, l, v, w, w', _, h, hb => h
  | 6, i, l, v, w, w', _, h, hb => h
  | 7, i, l, v, w, w', _, h, hb => h
  | 8, i, l, v, w, w', _, h, hb => h
  | 9, i, l, v, w, w', _, h, hb => h
  | 10, i, l, v, w, w', _, h, hb => h
  | 11, i, l, v, w, w', _, h, hb => h
  | 12, i, l, v, w, w', _, h, hb => h
  | _ + 13, _, _, _, _, _, _, _, _ => trivial
end
section
set_option maxRecDepth 100000
/-- What each slot of the region holds. -/
def P2 (g r B : Nat) (x : Stp) (E : Bool) : Nat → Array Bool → Value → World → Prop
  | 0, l, v, w => v = .pointer (some ⟨g, 0, none⟩)
  | 1, l, v, w => v = .pointer (some ⟨B, 1, none⟩)
  | 2, l, v, w => v = .string x.path
  | 3, l, v, w => v = .bool E
  | 4, l, v, w => v = .pointer (some ⟨r, 0, none⟩)
  | 5, l, v, w => v = .pointer (some ⟨B, 1, none⟩)
  | 6, l, v, w => v = .string x.path
  | 7, l, v, w => v = .bool E
  | 8, l, v, w => v = .bool false
  | _, _, _, _ => True
def P2_w : Nat → Bool
  | 3 => true
  | 7 => true
  | _ => false
theorem P2_st (g r B : Nat) (x : Stp) (E : Bool) : ∀ j i l v w w', P2_w i = false → P2 g r B x E j l v w → Below w.heap.size w w' → P2 g r B x E j (l.setIfInBounds i true) v w'
  | 0, i, l, v, w, w', _, h, hb => h
  | 1, i, l, v, w, w', _, h, hb => h
  | 2, i, l, v, w, w', _, h, hb => h
  | 3, i, l, v, w, w', _, h, hb => h
  | 4, i, l, v, w, w', _, h, hb => h
  | 5, i, l, v, w, w', _, h, hb => h
  | 6, i, l, v, w, w', _, h, hb => h
  | 7, i, l, v, w, w', _, h, hb => h
  | 8, i, l, v, w, w', _, h, hb => h
  | _ + 9, _, _, _, _, _, _, _, _ => trivial
end
section
set_option maxRecDepth 100000
/-- What each slot of the region holds. -/
def P3 (g r B : Nat) (x : Stp) (S : SS) : Nat → Array Bool → Value → World → Prop
  | 0, l, v, w => v = .pointer (some ⟨g, 0, none⟩)
  | 1, l, v, w => v = .pointer (some ⟨B, 2, none⟩)
  | 2, l, v, w => v = .int .i64 x.num
  | 3, l, v, w => w.ownsRow (r + 1) 36 2 v (visN S (nextQ S x.num)).length ((visN S (nextQ S x.num)).flatMap visC)
  | 4, l, v, w => v = .pointer (some ⟨r, 0, none⟩)
  | 5, l, v, w => v = .pointer (some ⟨B, 2, none⟩)
  | 6, l, v, w => v = .int .i64 x.num
  | 7, l, v, w => w.ownsRow (r + 1) 41 2 v (visN S (nextQ S x.num)).length ((visN S (nextQ S x.num)).flatMap visC)
  | 8, l, v, w => v = .bool true
  | 9, l, v, w => v = .bool false
  | _, _, _, _ => True
def P3_w : Nat → Bool
  | 3 => true
  | 7 => true
  | _ => false
theorem P3_st (g r B : Nat) (x : Stp) (S : SS) : ∀ j i l v w w', P3_w i = false → P3 g r B x S j l v w → Below w.heap.size w w' → P3 g r B x S j (l.setIfInBounds i true) v w'
  | 0, i, l, v, w, w', _, h, hb => h
  | 1, i, l, v, w, w', _, h, hb => h
  | 2, i, l, v, w, w', _, h, hb => h
  | 3, i, l, v, w, w', _, h, hb => own_below h hb
  | 4, i, l, v, w, w', _, h, hb => h
  | 5, i, l, v, w, w', _, h, hb => h
  | 6, i, l, v, w, w', _, h, hb => h
  | 7, i, l, v, w, w', _, h, hb => own_below h hb
  | 8, i, l, v, w, w', _, h, hb => h
  | 9, i, l, v, w, w', _, h, hb => h
  | _ + 10, _, _, _, _, _, _, _, _ => trivial
end
section
set_option maxRecDepth 100000
/-- What each slot of the region holds. -/
def P4 (g r : Nat) (S : SS) (Ap : Option Addr) (cp : Nat) : Nat → Value → World → Prop
  | 0, v, w => v = .pointer (some ⟨g, 0, none⟩)
  | 1, v, w => v = .int .i64 (totL S.l : Int)
  | 2, v, w => v = .pointer (some ⟨r, 0, none⟩)
  | 3, v, w => v = .int .i64 (totL S.l : Int)
  | 4, v, w => v = .bool false
  | 5, v, w => v = .bool false
  | 6, v, w => v = .pointer (some ⟨g, 0, none⟩)
  | 7, v, w => w.ownsRow 0 9 1 v (keysL S.l).length ((keysL S.l).map tv)
  | 8, v, w => v = .pointer (some ⟨r, 0, none⟩)
  | 9, v, w => v = .pointer (some ⟨r, 0, none⟩)
  | 10, v, w => v = .pointer (some ⟨r, 0, none⟩)
  | 11, v, w => v = .slice Ap S.l.length cp
  | 12, v, w => v = .bool true
  | 13, v, w => v = .bool false
  | 14, v, w => v = .bool false
  | _, _, _ => True
theorem P4_st (g r : Nat) (S : SS) (Ap : Option Addr) (cp : Nat) : ∀ i v w w', P4 g r S Ap cp i v w → Below w.heap.size w w' → P4 g r S Ap cp i v w'
  | 0, v, w, w', h, hb => h
  | 1, v, w, w', h, hb => h
  | 2, v, w, w', h, hb => h
  | 3, v, w, w', h, hb => h
  | 4, v, w, w', h, hb => h
  | 5, v, w, w', h, hb => h
  | 6, v, w, w', h, hb => h
  | 7, v, w, w', h, hb => own_below h hb
  | 8, v, w, w', h, hb => h
  | 9, v, w, w', h, hb => h
  | 10, v, w, w', h, hb => h
  | 11, v, w, w', h, hb => h
  | 12, v, w, w', h, hb => h
  | 13, v, w, w', h, hb => h
  | 14, v, w, w', h, hb => h
  | _ + 15, _, _, _, _, _ => trivial
end
set_option maxRecDepth 100000 in
set_option maxHeartbeats 8000000 in
theorem law_plays_calls {b0 : Nat} {v : Value} {L : List Stp} (t q : Int) (w : World) (hv : SlC stpC 45 w b0 v L) (hb0 : b0 ≤ w.heap.size) (hw : ∀ x ∈ L, StpW x) (ht : -9223372036854775808 ≤ t ∧ t ≤ 9223372036854775807) (hq : -9223372036854775808 ≤ q ∧ q ≤ 9223372036854775807) :
    Calls Tryd.prog 4 #[v, .int .i64 t, .int .i64 q] w fun e w' => e = .returned (.bool true) ∧ Below w.heap.size w w' := by
  have HV := Aside0.mk hv
  have HW := Aside0.mk hw
  have HSM := Aside0.mk (ssmall_calls w hv hw)
  have HR1 := Aside0.mk (fun W => sround_calls t q W ht hq)
  have HR2 := Aside0.mk (fun W => rround_calls t q W ht hq)
  obtain ⟨A, c, rfl, hc, hm, _⟩ := hv
  have hmx : L.length ≤ 9223372036854775807 := by simp only [maxLen] at hm; omega
  clear hw hb0
  go_enter Tryd.func4, Tryd.ntmps4
  go_wp2_with fail
  refine HSM.out.mono ?_
  rintro e w1 ⟨⟨b, rfl, hsm⟩, hb1⟩
  have HB1 := Aside0.mk hb1
  clear hb1
  cases b with
  | false =>
    clear hsm
    go_wp2_with fail
    refine (awake13_calls w1).mono ?_
    rintro e w2 ⟨rfl, hb2⟩
    have HB2 := Aside0.mk (below_step HB1.out hb2)
    clear hb2
    go_wp2_with fail
    go_ret
    exact ⟨rfl, HB2.out⟩
  | true =>
    have HSZ := Aside0.mk (hsm rfl)
    clear hsm
    go_wp2_with fail
    refine (snew_calls w1).mono ?_
    rintro e w2 ⟨g, mb, rfl, his, hb2⟩
    have HIS := Aside0.mk his
    have HB2 := Aside0.mk (below_step HB1.out hb2)
    have hgl := blk_lt his.box
    clear his hb2
    go_wp2_with fail
    have hgb : w1.heap.size ≤ g := HIS.out.hg
    have hmb : w1.heap.size ≤ mb := HIS.out.hm
    have hml := HIS.out.mlt
    have hw1 : w.heap.size ≤ w1.heap.size := HB1.out.size
    obtain ⟨base, hbase⟩ : ∃ base, base = w1.heap.size := ⟨_, rfl⟩
    rw [← hbase] at HIS hgb hmb hw1
    have HRI : Aside0 (RIsS (w2.alloc (.cells #[.slice none 0 0, .slice none 0 0, .string ⟨#[]⟩, .int .i64 0, .bool false] 43 (0, 0))) w2.heap.size (.slice none 0 0) (.slice none 0 0) ⟨[], [], 0, false⟩) := ⟨⟨heap_new rfl, World.ownsRow_nil _ _ _ _, World.ownsRow_nil _ _ _ _, ⟨List.Pairwise.nil, by simp, by simp⟩, by decide, by decide, by decide⟩⟩
    have HP0 : Aside0 (PlI w base g mb w2.heap.size (w2.alloc (.cells #[.slice none 0 0, .slice none 0 0, .string ⟨#[]⟩, .int .i64 0, .bool false] 43 (0, 0)))) := ⟨⟨⟨⟨[], [], 0, false⟩, HIS.out.below ((Below.refl _ _).alloc (Nat.le_refl _) _), _, _, HRI.out⟩, below_step HB2.out ((Below.refl _ _).alloc (Nat.le_refl _) _)⟩⟩
    obtain ⟨r, hr⟩ : ∃ r, r = w2.heap.size := ⟨_, rfl⟩
    rw [← hr] at HP0 ⊢
    rw [← hr] at hgl hml
    clear hr hbase HRI
    go_loopw [9] (fun iw wr => ∃ k : Nat, k ≤ L.length ∧ iw = .int .i64 k ∧ Aside0 (PlI w base g mb r wr)) (fun iw wr => L.length - (intOf iw).toNat)
    case atStart => exact ⟨0, Nat.zero_le _, rfl, HP0⟩
    case round =>
      obtain ⟨k, hk, rfl, hs⟩ := hrel
      by_cases hlt : k < L.length
      · obtain ⟨ad, c1, he, g0, g1, g2⟩ := stp_at (HV.out.below hs.out.low) k hlt
        cases he
        have hxw := HW.out _ (List.getElem_mem hlt)
        have hxs := HSZ.out _ (List.getElem_mem hlt)
        obtain ⟨x, hx⟩ : ∃ x, x = L[k]'hlt := ⟨_, rfl⟩
        rw [← hx] at g0 g1 g2 hxw hxs
        clear hx
        have HXP : Aside0 (x.path.size ≤ 1000000000) := ⟨by omega⟩
        have HXN := Aside0.mk hxw.2.2
        have hkI : (k : Int) < (L.length : Int) := by omega
        obtain ⟨S, his, vp0, vb0, hri⟩ := hs.out.st
        have hrl := blk_lt hri.box
        have HJ : Aside0 (IsS (wr.alloc (.cells #[.int .i64 x.kind, .string x.path, .int .i64 x.num] 45 (0, 0))) base g mb S ∧ (∃ vp vb, RIsS (wr.alloc (.cells #[.int .i64 x.kind, .string x.path, .int .i64 x.num] 45 (0, 0))) r vp vb S) ∧ Below w.heap.size w (wr.alloc (.cells #[.int .i64 x.kind, .string x.path, .int .i64 x.num] 45 (0, 0)))) :=
          ⟨his.below ((Below.refl _ _).alloc (Nat.le_refl _) _), ⟨_, _, hri.below ((Below.refl _ _).alloc (Nat.le_refl _) _)⟩, below_step hs.out.low ((Below.refl _ _).alloc (Nat.le_refl _) _)⟩
        have HBX : Aside0 ((wr.alloc (.cells #[.int .i64 x.kind, .string x.path, .int .i64 x.num] 45 (0, 0))).heap[wr.heap.size]? = some (.cells #[.int .i64 x.kind, .string x.path, .int .i64 x.num] 45 (0, 0))) := ⟨heap_new rfl⟩
        have HD : Aside0 (Dst w.heap.size g mb r wr.heap.size) := ⟨⟨by omega, by omega, by omega, by omega, hrl⟩⟩
        clear his hri hxw hxs hrl
        obtain ⟨b1, hb1⟩ : ∃ b1, (x.kind == 1) = b1 := ⟨_, rfl⟩
        obtain ⟨b2, hb2⟩ : ∃ b2, (x.kind == 2) = b2 := ⟨_, rfl⟩
        obtain ⟨b3, hb3⟩ : ∃ b3, (x.kind == 3) = b3 := ⟨_, rfl⟩
        cases b1 with
        | true =>
          go_wp2_with fail
          obtain ⟨w3, hw3⟩ : ∃ w3, w3 = wr.alloc (.cells #[.int .i64 x.kind, .string x.path, .int .i64 x.num] 45 (0, 0)) := ⟨_, rfl⟩
          obtain ⟨B, hB⟩ : ∃ B, B = wr.heap.size := ⟨_, rfl⟩
          rw [← hw3] at HJ HBX ⊢
          rw [← hB] at HBX HD ⊢
          clear hw3 hB
          refine wp_region_flowL (PlJ S (if setE S.l x.path.data.toList x.num = 0 then ⟨setL S.l x.path.data.toList x.num.toNat, S.lp, S.lb, S.told⟩ else S) w base g mb r B x 5 11) 13 P1_w (P1 g r B x (setE S.l x.path.data.toList x.num)) [34, 35, 36, 37, 38, 39, 40, 41, 42, 43, 44, 45, 46] (by kernel_rfl) (by kernel_rfl) (by kernel_rfl) ((PlJ.mk HJ.out.1 HJ.out.2.1 HJ.out.2.2 HBX.out : PlJ S (if setE S.l x.path.data.toList x.num = 0 then ⟨setL S.l x.path.data.toList x.num.toNat, S.lp, S.lb, S.told⟩ else S) w base g mb r B x 5 11 (Array.replicate 13 false) w3).below (Below.refl _ _).drew (q := 1000) (by decide) (by decide)) (fun q l w w' hS hI hb => hI.below hb (fun h => by cases h; cases hS) (fun h => by cases h; cases hS)) (P1_st _ _ _ _ _) ?_ ?_ (.inl (by kernel_rfl)) ?_
          · intro i o hi hS ho l aa w' F
            have hlow := F.low
            match i, ho with
            | 0, ho =>
              obtain rfl := Option.some.inj ho
              refine flow_plain rfl rfl ?_
              have f7 : aa.tmps.getD 7 undef = .pointer (some ⟨g, 0, none⟩) := F.out 7 (by kernel_rfl) _ rfl
              exact op_move (.tmp 7) rfl ⟨_, rfl, Below.refl _ _, f7⟩
            | 1, ho =>
              obtain rfl := Option.some.inj ho
              refine flow_plain rfl rfl ?_
              have f10 : aa.tmps.getD 10 undef = .pointer (some ⟨B, 0, none⟩) := F.out 10 (by kernel_rfl) _ rfl
              refine op_pure (.pointer (some ⟨B, 1, none⟩)) ?_ ⟨_, rfl, Below.refl _ _, rfl⟩
              simp [execOp, Act.eval, go_sem, f10]
            | 2, ho =>
              obtain rfl := Option.some.inj ho
              refine flow_plain rfl rfl ?_
              have f35 : (aa.tmps.getD 35 undef) = .pointer (some ⟨B, 1, none⟩) := F.of 1 (by kernel_rfl)
              have hc := (blk (hlow.box)).1
              refine op_pure (.string x.path) ?_ ⟨_, rfl, Below.refl _ _, rfl⟩
              simp [execOp, Act.eval, go_sem, f35, hc]
            | 3, ho =>
              obtain rfl := Option.some.inj ho
              refine flow_plain rfl rfl ?_
              have f10 : aa.tmps.getD 10 undef = .pointer (some ⟨B, 0, none⟩) := F.out 10 (by kernel_rfl) _ rfl
              refine op_pure (.pointer (some ⟨B, 2, none⟩)) ?_ ⟨_, rfl, Below.refl _ _, rfl⟩
              simp [execOp, Act.eval, go_sem, f10]
            | 4, ho =>
              obtain rfl := Option.some.inj ho
              refine flow_plain rfl rfl ?_
              have f37 : (aa.tmps.getD 37 undef) = .pointer (some ⟨B, 2, none⟩) := F.of 3 (by kernel_rfl)
              have hc := (blk (hlow.box)).1
              refine op_pure (.int .i64 x.num) ?_ ⟨_, rfl, Below.refl _ _, rfl⟩
              simp [execOp, Act.eval, go_sem, f37, hc]
            | 5, ho => exact Bool.noConfusion (hS.symm.trans (show _ = true by rfl))
            | 6, ho =>
              obtain rfl := Option.some.inj ho
              refine flow_plain rfl rfl ?_
              have f8 : aa.tmps.getD 8 undef = .pointer (some ⟨r, 0, none⟩) := F.out 8 (by kernel_rfl) _ rfl
              exact op_move (.tmp 8) rfl ⟨_, rfl, Below.refl _ _, f8⟩
            | 7, ho =>
              obtain rfl := Option.some.inj ho
              refine flow_plain rfl rfl ?_
              have f10 : aa.tmps.getD 10 undef = .pointer (some ⟨B, 0, none⟩) := F.out 10 (by kernel_rfl) _ rfl
              refine op_pure (.pointer (some ⟨B, 1, none⟩)) ?_ ⟨_, rfl, Below.refl _ _, rfl⟩
              simp [execOp, Act.eval, go_sem, f10]
            | 8, ho =>
              obtain rfl := Option.some.inj ho
              refine flow_plain rfl rfl ?_
              have f41 : (aa.tmps.getD 41 undef) = .pointer (some ⟨B, 1, none⟩) := F.of 7 (by kernel_rfl)
              have hc := (blk (hlow.box)).1
              refine op_pure (.string x.path) ?_ ⟨_, rfl, Below.refl _ _, rfl⟩
              simp [execOp, Act.eval, go_sem, f41, hc]
            | 9, ho =>
              obtain rfl := Option.some.inj ho
              refine flow_plain rfl rfl ?_
              have f10 : aa.tmps.getD 10 undef = .pointer (some ⟨B, 0, none⟩) := F.out 10 (by kernel_rfl) _ rfl
              refine op_pure (.pointer (some ⟨B, 2, none⟩)) ?_ ⟨_, rfl, Below.refl _ _, rfl⟩
              simp [execOp, Act.eval, go_sem, f10]
            | 10, ho =>
              obtain rfl := Option.some.inj ho
              refine flow_plain rfl rfl ?_
              have f43 : (aa.tmps.getD 43 undef) = .pointer (some ⟨B, 2, none⟩) := F.of 9 (by kernel_rfl)
              have hc := (blk (hlow.box)).1
              refine op_pure (.int .i64 x.num) ?_ ⟨_, rfl, Below.refl _ _, rfl⟩
              simp [execOp, Act.eval, go_sem, f43, hc]
            | 11, ho => exact Bool.noConfusion (hS.symm.trans (show _ = true by rfl))
            | 12, ho =>
              obtain rfl := Option.some.inj ho
              refine flow_plain rfl rfl ?_
              have f39 : (aa.tmps.getD 39 undef) = .int .i64 (setE S.l x.path.data.toList x.num) := F.of 5 (by kernel_rfl)
              have f45 : (aa.tmps.getD 45 undef) = .int .i64 (setE S.l x.path.data.toList x.num) := F.of 11 (by kernel_rfl)
              refine op_pure (.bool false) ?_ ⟨_, rfl, Below.refl _ _, rfl⟩
              simp [execOp, Act.eval, go_sem, f39, f45]
            | j + 13, ho => omega
          · intro i o hi hS ho l aa w' F
            have hlow := F.low
            match i, ho with
            | 0, ho => exact Bool.noConfusion (hS.symm.trans (show _ = false by rfl))
            | 1, ho => exact Bool.noConfusion (hS.symm.trans (show _ = false by rfl))
            | 2, ho => exact Bool.noConfusion (hS.symm.trans (show _ = false by rfl))
            | 3, ho => exact Bool.noConfusion (hS.symm.trans (show _ = false by rfl))
            | 4, ho => exact Bool.noConfusion (hS.symm.trans (show _ = false by rfl))
            | 5, ho =>
              obtain rfl := Option.some.inj ho
              refine flow_plain rfl rfl ?_
              have f34 : (aa.tmps.getD 34 undef) = .pointer (some ⟨g, 0, none⟩) := F.of 0 (by kernel_rfl)
              have f36 : (aa.tmps.getD 36 undef) = .string x.path := F.of 2 (by kernel_rfl)
              have f38 : (aa.tmps.getD 38 undef) = .int .i64 x.num := F.of 4 (by kernel_rfl)
              have hI := hlow
              refine op_call 10 #[.tmp 34, .tmp 36, .tmp 38] #[24, 9, 3] rfl _ rfl rfl rfl #[.pointer (some ⟨g, 0, none⟩), .string x.path, .int .i64 x.num] (by simp [Act.eval, f34, f36, f38]) ?_
              refine (sset_calls x.path x.num _ (hI.is0 F.due) HXP.out HXN.out).mono ?_
              rintro e w5 ⟨rfl, hq⟩
              refine ⟨_, rfl, _, rfl, hI.left HD.out (by decide) (by rw [F.sz]; decide) hq.1 hq.2, rfl, ?_⟩
              intro j hj hji hlj h
              match j, h with
              | 0, h => exact h
              | 1, h => exact h
              | 2, h => exact h
              | 3, h => exact h
              | 4, h => exact h
              | 5, h => exact absurd rfl hji
              | 6, h => exact h
              | 7, h => exact h
              | 8, h => exact h
              | 9, h => exact h
              | 10, h => exact h
              | 11, h => exact absurd (F.cl.reach 13 _ _ hlj (by kernel_rfl)) (by rw [F.due]; decide)
              | 12, h => exact h
              | j + 13, h => omega
            | 6, ho => exact Bool.noConfusion (hS.symm.trans (show _ = false by rfl))
            | 7, ho => exact Bool.noConfusion (hS.symm.trans (show _ = false by rfl))
            | 8, ho => exact Bool.noConfusion (hS.symm.trans (show _ = false by rfl))
            | 9, ho => exact Bool.noConfusion (hS.symm.trans (show _ = false by rfl))
            | 10, ho => exact Bool.noConfusion (hS.symm.trans (show _ = false by rfl))
            | 11, ho =>
              obtain rfl := Option.some.inj ho
              refine flow_plain rfl rfl ?_
              have f40 : (aa.tmps.getD 40 undef) = .pointer (some ⟨r, 0, none⟩) := F.of 6 (by kernel_rfl)
              have f42 : (aa.tmps.getD 42 undef) = .string x.path := F.of 8 (by kernel_rfl)
              have f44 : (aa.tmps.getD 44 undef) = .int .i64 x.num := F.of 10 (by kernel_rfl)
              have hI := hlow
              obtain ⟨vp, vb, hr⟩ := hI.ris0 F.due
              refine op_call 14 #[.tmp 40, .tmp 42, .tmp 44] #[40, 9, 3] rfl _ rfl rfl rfl #[.pointer (some ⟨r, 0, none⟩), .string x.path, .int .i64 x.num] (by simp [Act.eval, f40, f42, f44]) ?_
              refine (rset_calls x.path x.num _ hr HXP.out HXN.out).mono ?_
              rintro e w5 ⟨rfl, hq⟩
              refine ⟨_, rfl, _, rfl, hI.right HD.out (by decide) (by rw [F.sz]; decide) hq.1 hq.2, rfl, ?_⟩
              intro j hj hji hlj h
              match j, h with
              | 0, h => exact h
              | 1, h => exact h
              | 2, h => exact h
              | 3, h => exact h
              | 4, h => exact h
              | 5, h => exact h
              | 6, h => exact h
              | 7, h => exact h
              | 8, h => exact h
              | 9, h => exact h
              | 10, h => exact h
              | 11, h => exact absurd rfl hji
              | 12, h => exact h
              | j + 13, h => omega
            | 12, ho => exact Bool.noConfusion (hS.symm.trans (show _ = false by rfl))
            | j + 13, ho => omega
          intro vs l w' hall hlow hvs
          refine ⟨fun hx => ?_, fun h => absurd h (by decide)⟩
          clear hx
          have hlast : vs 12 = .bool false := hvs 12 (by decide)
          have HE := Aside0.mk (hlow.end (hall 5 (by decide)) (hall 11 (by decide)))
          simp only [putL, Act.put, List.setIfInBounds_toArray, List.set_cons_zero, List.set_cons_succ, Nat.reduceAdd]
          rw [hlast]
          clear hvs hall hlow hlast
          go_wp2_with fail
          obtain ⟨W4, rfl⟩ : ∃ W4, W4 = w' := ⟨_, rfl⟩
          obtain ⟨S2, hS2⟩ : ∃ S2, S2 = if setE S.l x.path.data.toList x.num = 0 then ⟨setL S.l x.path.data.toList x.num.toNat, S.lp, S.lb, S.told⟩ else S := ⟨_, rfl⟩
          rw [← hS2] at HE
          have HS4 := Aside0.mk HE.out.1
          obtain ⟨vp, vb, hr4⟩ := HE.out.2.1
          have HE3 := Aside0.mk HE.out.2.2
          obtain ⟨Ap, cp, Ab, cb, rfl, rfl, hcp, hcb⟩ := hr4.shape
          have HR4 := Aside0.mk hr4
          have HRB := Aside0.mk hr4.box
          clear HE hr4 hS2
          refine wp_region_flowMB (fun a b => Below a.heap.size a b) 15 (P4 g r S2 Ap cp) [70, 71, 72, 73, 74, 75, 76, 77, 78, 79, 80, 81, 82, 83, 84] (by kernel_rfl) (by kernel_rfl) (by kernel_rfl) ((Below.refl _ _).drew) (fun _ _ _ h k => below_step h k) (P4_st _ _ _ _ _) ?_ (.inl (by kernel_rfl)) ?_
          · intro i o hi ho aa w' F
            have hlow := F.low
            match i, ho with
            | 0, ho =>
              obtain rfl := Option.some.inj ho
              refine flow_plain rfl rfl ?_
              have f7 : aa.tmps.getD 7 undef = .pointer (some ⟨g, 0, none⟩) := F.out 7 (by kernel_rfl) _ rfl
              exact op_move (.tmp 7) rfl ⟨_, rfl, Below.refl _ _, f7⟩
            | 1, ho =>
              obtain rfl := Option.some.inj ho
              refine flow_plain rfl rfl ?_
              have f70 : (aa.tmps.getD 70 undef) = .pointer (some ⟨g, 0, none⟩) := F.of 0 (by kernel_rfl)
              refine op_call 19 #[.tmp 70] #[24] rfl _ rfl rfl rfl #[.pointer (some ⟨g, 0, none⟩)] (by simp [Act.eval, f70]) ?_
              refine (stotal_calls _ (HS4.out.below hlow)).mono ?_
              rintro e w5 ⟨rfl, hb5⟩
              exact ⟨_, rfl, _, rfl, hb5, rfl⟩
            | 2, ho =>
              obtain rfl := Option.some.inj ho
              refine flow_plain rfl rfl ?_
              have f8 : aa.tmps.getD 8 undef = .pointer (some ⟨r, 0, none⟩) := F.out 8 (by kernel_rfl) _ rfl
              exact op_move (.tmp 8) rfl ⟨_, rfl, Below.refl _ _, f8⟩
            | 3, ho =>
              obtain rfl := Option.some.inj ho
              refine flow_plain rfl rfl ?_
              have f72 : (aa.tmps.getD 72 undef) = .pointer (some ⟨r, 0, none⟩) := F.of 2 (by kernel_rfl)
              refine op_call 20 #[.tmp 72] #[40] rfl _ rfl rfl rfl #[.pointer (some ⟨r, 0, none⟩)] (by simp [Act.eval, f72]) ?_
              refine (rtotal_calls _ (HR4.out.below hlow)).mono ?_
              rintro e w5 ⟨rfl, rfl⟩
              exact ⟨_, rfl, _, rfl, Below.refl _ _, rfl⟩
            | 4, ho =>
              obtain rfl := Option.some.inj ho
              refine flow_plain rfl rfl ?_
              have f71 : (aa.tmps.getD 71 undef) = .int .i64 (totL S2.l : Int) := F.of 1 (by kernel_rfl)
              have f73 : (aa.tmps.getD 73 undef) = .int .i64 (totL S2.l : Int) := F.of 3 (by kernel_rfl)
              refine op_pure (.bool false) ?_ ⟨_, rfl, Below.refl _ _, rfl⟩
              simp [execOp, Act.eval, go_sem, f71, f73]
            | 5, ho =>
              obtain rfl := Option.some.inj ho
              refine flow_plain rfl rfl ?_
              have f74 : (aa.tmps.getD 74 undef) = .bool false := F.of 4 (by kernel_rfl)
              exact op_move (.tmp 74) rfl ⟨_, rfl, Below.refl _ _, f74⟩
            | 6, ho =>
              obtain rfl := Option.some.inj ho
              have hg : aa.tmps.getD 75 undef = .bool false := F.of 5 (by kernel_rfl)
              refine flow_yes rfl rfl 75 rfl hg ?_
              have f7 : aa.tmps.getD 7 undef = .pointer (some ⟨g, 0, none⟩) := F.out 7 (by kernel_rfl) _ rfl
              exact op_move (.tmp 7) rfl ⟨_, rfl, Below.refl _ _, f7⟩
            | 7, ho =>
              obtain rfl := Option.some.inj ho
              have hg : aa.tmps.getD 75 undef = .bool false := F.of 5 (by kernel_rfl)
              refine flow_yes rfl rfl 75 rfl hg ?_
              have f76 : (aa.tmps.getD 76 undef) = .pointer (some ⟨g, 0, none⟩) := F.of 6 (by kernel_rfl)
              refine op_call 22 #[.tmp 76] #[24] rfl _ rfl rfl rfl #[.pointer (some ⟨g, 0, none⟩)] (by simp [Act.eval, f76]) ?_
              refine (spaths_calls _ (HS4.out.below hlow)).mono ?_
              rintro e w5 ⟨v5, rfl, hown, _, hb5⟩
              exact ⟨_, rfl, _, rfl, hb5, own_mono hown (Nat.zero_le _)⟩
            | 8, ho =>
              obtain rfl := Option.some.inj ho
              have hg : aa.tmps.getD 75 undef = .bool false := F.of 5 (by kernel_rfl)
              refine flow_yes rfl rfl 75 rfl hg ?_
              have f8 : aa.tmps.getD 8 undef = .pointer (some ⟨r, 0, none⟩) := F.out 8 (by kernel_rfl) _ rfl
              exact op_move (.tmp 8) rfl ⟨_, rfl, Below.refl _ _, f8⟩
            | 9, ho =>
              obtain rfl := Option.some.inj ho
              have hg : aa.tmps.getD 75 undef = .bool false := F.of 5 (by kernel_rfl)
              refine flow_yes rfl rfl 75 rfl hg ?_
              have f78 : (aa.tmps.getD 78 undef) = .pointer (some ⟨r, 0, none⟩) := F.of 8 (by kernel_rfl)
              refine op_pure (.pointer (some ⟨r, 0, none⟩)) ?_ ⟨_, rfl, Below.refl _ _, rfl⟩
              simp [execOp, Act.eval, go_sem, f78]
            | 10, ho =>
              obtain rfl := Option.some.inj ho
              have hg : aa.tmps.getD 75 undef = .bool false := F.of 5 (by kernel_rfl)
              refine flow_yes rfl rfl 75 rfl hg ?_
              have f79 : (aa.tmps.getD 79 undef) = .pointer (some ⟨r, 0, none⟩) := F.of 9 (by kernel_rfl)
              refine op_pure (.pointer (some ⟨r, 0, none⟩)) ?_ ⟨_, rfl, Below.refl _ _, rfl⟩
              simp [execOp, Act.eval, go_sem, f79]
            | 11, ho =>
              obtain rfl := Option.some.inj ho
              have hg : aa.tmps.getD 75 undef = .bool false := F.of 5 (by kernel_rfl)
              refine flow_yes rfl rfl 75 rfl hg ?_
              have f80 : (aa.tmps.getD 80 undef) = .pointer (some ⟨r, 0, none⟩) := F.of 10 (by kernel_rfl)
              have hc := (blk (below_heap hlow HRB.out)).1 0
              simp only [List.getElem?_toArray, List.getElem?_cons_zero] at hc
              refine op_pure (.slice Ap S2.l.length cp) ?_ ⟨_, rfl, Below.refl _ _, rfl⟩
              simp [execOp, Act.eval, go_sem, f80, hc]
            | 12, ho =>
              obtain rfl := Option.some.inj ho
              have hg : aa.tmps.getD 75 undef = .bool false := F.of 5 (by kernel_rfl)
              refine flow_yes rfl rfl 75 rfl hg ?_
              have f77 : w'.ownsRow 0 9 1 (aa.tmps.getD 77 undef) (keysL S2.l).length ((keysL S2.l).map tv) := F.of 7 (by kernel_rfl)
              have f81 : (aa.tmps.getD 81 undef) = .slice Ap S2.l.length cp := F.of 11 (by kernel_rfl)
              refine op_call 21 #[.tmp 77, .tmp 81] #[26, 26] rfl _ rfl rfl rfl #[aa.tmps.getD 77 undef, .slice Ap S2.l.length cp] (by simp [Act.eval, f81]) ?_
              refine (texts_calls (b0 := 0) (b1 := 0) _ (keysL_tv f77 0) (keysL_tv (HR4.out.below hlow).paths 0)).mono ?_
              rintro e w5 ⟨rfl, hb5⟩
              exact ⟨_, rfl, _, rfl, hb5, by simp [P4]⟩
            | 13, ho =>
              obtain rfl := Option.some.inj ho
              have hg : aa.tmps.getD 75 undef = .bool false := F.of 5 (by kernel_rfl)
              refine flow_yes rfl rfl 75 rfl hg ?_
              have f82 : (aa.tmps.getD 82 undef) = .bool true := F.of 12 (by kernel_rfl)
              refine op_pure (.bool false) ?_ ⟨_, rfl, Below.refl _ _, rfl⟩
              simp [execOp, Act.eval, go_sem, f82]
            | 14, ho =>
              obtain rfl := Option.some.inj ho
              refine flow_plain rfl rfl ?_
              have f75 : (aa.tmps.getD 75 undef) = .bool false := F.of 5 (by kernel_rfl)
              have f83 : (aa.tmps.getD 83 undef) = .bool false := F.of 13 (by kernel_rfl)
              refine op_pure (.bool false) ?_ ⟨_, rfl, Below.refl _ _, rfl⟩
              simp [execOp, Act.eval, go_sem, f75, f83]
            | j + 15, ho => omega
          intro vs w5 hlow hvs
          refine ⟨fun hx => ?_, fun h => absurd h (by decide)⟩
          clear hx
          have h14 : vs 14 = .bool false := hvs 14 (by decide)
          have HW5 := Aside0.mk hlow
          simp only [putL, Act.put, List.setIfInBounds_toArray, List.set_cons_zero, List.set_cons_succ, Nat.reduceAdd]
          rw [h14]
          clear hvs hlow h14
          go_wp2_with fail
          go_roundw
          case rel => exact ⟨k + 1, by omega, by go_num, ⟨⟨⟨S2, HS4.out.below HW5.out, _, _, HR4.out.below HW5.out⟩, below_step HE3.out HW5.out⟩⟩⟩
          case measure => simp [intOf]; omega
        | false =>
          cases b2 with
          | true =>
            go_wp2_with fail
            obtain ⟨w3, hw3⟩ : ∃ w3, w3 = wr.alloc (.cells #[.int .i64 x.kind, .string x.path, .int .i64 x.num] 45 (0, 0)) := ⟨_, rfl⟩
            obtain ⟨B, hB⟩ : ∃ B, B = wr.heap.size := ⟨_, rfl⟩
            rw [← hw3] at HJ HBX ⊢
            rw [← hB] at HBX HD ⊢
            clear hw3 hB
            refine wp_region_flowL (PlJ S (⟨delL S.l x.path.data.toList, S.lp, S.lb, S.told⟩) w base g mb r B x 3 7) 9 P2_w (P2 g r B x (hasL S.l x.path.data.toList)) [49, 50, 51, 52, 53, 54, 55, 56, 57] (by kernel_rfl) (by kernel_rfl) (by kernel_rfl) ((PlJ.mk HJ.out.1 HJ.out.2.1 HJ.out.2.2 HBX.out : PlJ S (⟨delL S.l x.path.data.toList, S.lp, S.lb, S.told⟩) w base g mb r B x 3 7 (Array.replicate 9 false) w3).below (Below.refl _ _).drew (q := 1000) (by decide) (by decide)) (fun q l w w' hS hI hb => hI.below hb (fun h => by cases h; cases hS) (fun h => by cases h; cases hS)) (P2_st _ _ _ _ _) ?_ ?_ (.inl (by kernel_rfl)) ?_
            · intro i o hi hS ho l aa w' F
              have hlow := F.low
              match i, ho with
              | 0, ho =>
                obtain rfl := Option.some.inj ho
                refine flow_plain rfl rfl ?_
                have f7 : aa.tmps.getD 7 undef = .pointer (some ⟨g, 0, none⟩) := F.out 7 (by kernel_rfl) _ rfl
                exact op_move (.tmp 7) rfl ⟨_, rfl, Below.refl _ _, f7⟩
              | 1, ho =>
                obtain rfl := Option.some.inj ho
                refine flow_plain rfl rfl ?_
                have f10 : aa.tmps.getD 10 undef = .pointer (some ⟨B, 0, none⟩) := F.out 10 (by kernel_rfl) _ rfl
                refine op_pure (.pointer (some ⟨B, 1, none⟩)) ?_ ⟨_, rfl, Below.refl _ _, rfl⟩
                simp [execOp, Act.eval, go_sem, f10]
              | 2, ho =>
                obtain rfl := Option.some.inj ho
                refine flow_plain rfl rfl ?_
                have f50 : (aa.tmps.getD 50 undef) = .pointer (some ⟨B, 1, none⟩) := F.of 1 (by kernel_rfl)
                have hc := (blk (hlow.box)).1
                refine op_pure (.string x.path) ?_ ⟨_, rfl, Below.refl _ _, rfl⟩
                simp [execOp, Act.eval, go_sem, f50, hc]
              | 3, ho => exact Bool.noConfusion (hS.symm.trans (show _ = true by rfl))
              | 4, ho =>
                obtain rfl := Option.some.inj ho
                refine flow_plain rfl rfl ?_
                have f8 : aa.tmps.getD 8 undef = .pointer (some ⟨r, 0, none⟩) := F.out 8 (by kernel_rfl) _ rfl
                exact op_move (.tmp 8) rfl ⟨_, rfl, Below.refl _ _, f8⟩
              | 5, ho =>
                obtain rfl := Option.some.inj ho
                refine flow_plain rfl rfl ?_
                have f10 : aa.tmps.getD 10 undef = .pointer (some ⟨B, 0, none⟩) := F.out 10 (by kernel_rfl) _ rfl
                refine op_pure (.pointer (some ⟨B, 1, none⟩)) ?_ ⟨_, rfl, Below.refl _ _, rfl⟩
                simp [execOp, Act.eval, go_sem, f10]
              | 6, ho =>
                obtain rfl := Option.some.inj ho
                refine flow_plain rfl rfl ?_
                have f54 : (aa.tmps.getD 54 undef) = .pointer (some ⟨B, 1, none⟩) := F.of 5 (by kernel_rfl)
                have hc := (blk (hlow.box)).1
                refine op_pure (.string x.path) ?_ ⟨_, rfl, Below.refl _ _, rfl⟩
                simp [execOp, Act.eval, go_sem, f54, hc]
              | 7, ho => exact Bool.noConfusion (hS.symm.trans (show _ = true by rfl))
              | 8, ho =>
                obtain rfl := Option.some.inj ho
                refine flow_plain rfl rfl ?_
                have f52 : (aa.tmps.getD 52 undef) = .bool (hasL S.l x.path.data.toList) := F.of 3 (by kernel_rfl)
                have f56 : (aa.tmps.getD 56 undef) = .bool (hasL S.l x.path.data.toList) := F.of 7 (by kernel_rfl)
                refine op_pure (.bool false) ?_ ⟨_, rfl, Below.refl _ _, rfl⟩
                simp [execOp, Act.eval, go_sem, f52, f56]
              | j + 9, ho => omega
            · intro i o hi hS ho l aa w' F
              have hlow := F.low
              match i, ho with
              | 0, ho => exact Bool.noConfusion (hS.symm.trans (show _ = false by rfl))
              | 1, ho => exact Bool.noConfusion (hS.symm.trans (show _ = false by rfl))
              | 2, ho => exact Bool.noConfusion (hS.symm.trans (show _ = false by rfl))
              | 3, ho =>
                obtain rfl := Option.some.inj ho
                refine flow_plain rfl rfl ?_
                have f49 : (aa.tmps.getD 49 undef) = .pointer (some ⟨g, 0, none⟩) := F.of 0 (by kernel_rfl)
                have f51 : (aa.tmps.getD 51 undef) = .string x.path := F.of 2 (by kernel_rfl)
                have hI := hlow
                refine op_call 15 #[.tmp 49, .tmp 51] #[24, 9] rfl _ rfl rfl rfl #[.pointer (some ⟨g, 0, none⟩), .string x.path] (by simp [Act.eval, f49, f51]) ?_
                refine (sdrop_calls x.path _ (hI.is0 F.due) HXP.out).mono ?_
                rintro e w5 ⟨rfl, hq⟩
                refine ⟨_, rfl, _, rfl, hI.left HD.out (by decide) (by rw [F.sz]; decide) hq.1 hq.2, rfl, ?_⟩
                intro j hj hji hlj h
                match j, h with
                | 0, h => exact h
                | 1, h => exact h
                | 2, h => exact h
                | 3, h => exact absurd rfl hji
                | 4, h => exact h
                | 5, h => exact h
                | 6, h => exact h
                | 7, h => exact absurd (F.cl.reach 9 _ _ hlj (by kernel_rfl)) (by rw [F.due]; decide)
                | 8, h => exact h
                | j + 9, h => omega
              | 4, ho => exact Bool.noConfusion (hS.symm.trans (show _ = false by rfl))
              | 5, ho => exact Bool.noConfusion (hS.symm.trans (show _ = false by rfl))
              | 6, ho => exact Bool.noConfusion (hS.symm.trans (show _ = false by rfl))
              | 7, ho =>
                obtain rfl := Option.some.inj ho
                refine flow_plain rfl rfl ?_
                have f53 : (aa.tmps.getD 53 undef) = .pointer (some ⟨r, 0, none⟩) := F.of 4 (by kernel_rfl)
                have f55 : (aa.tmps.getD 55 undef) = .string x.path := F.of 6 (by kernel_rfl)
                have hI := hlow
                obtain ⟨vp, vb, hr⟩ := hI.ris0 F.due
                refine op_call 16 #[.tmp 53, .tmp 55] #[40, 9] rfl _ rfl rfl rfl #[.pointer (some ⟨r, 0, none⟩), .string x.path] (by simp [Act.eval, f53, f55]) ?_
                refine (rdrop_calls x.path _ hr HXP.out).mono ?_
                rintro e w5 ⟨rfl, hq⟩
                refine ⟨_, rfl, _, rfl, hI.right HD.out (by decide) (by rw [F.sz]; decide) hq.1 hq.2, rfl, ?_⟩
                intro j hj hji hlj h
                match j, h with
                | 0, h => exact h
                | 1, h => exact h
                | 2, h => exact h
                | 3, h => exact h
                | 4, h => exact h
                | 5, h => exact h
                | 6, h => exact h
                | 7, h => exact absurd rfl hji
                | 8, h => exact h
                | j + 9, h => omega
              | 8, ho => exact Bool.noConfusion (hS.symm.trans (show _ = false by rfl))
              | j + 9, ho => omega
            intro vs l w' hall hlow hvs
            refine ⟨fun hx => ?_, fun h => absurd h (by decide)⟩
            clear hx
            have hlast : vs 8 = .bool false := hvs 8 (by decide)
            have HE := Aside0.mk (hlow.end (hall 3 (by decide)) (hall 7 (by decide)))
            simp only [putL, Act.put, List.setIfInBounds_toArray, List.set_cons_zero, List.set_cons_succ, Nat.reduceAdd]
            rw [hlast]
            clear hvs hall hlow hlast
            go_wp2_with fail
            obtain ⟨W4, rfl⟩ : ∃ W4, W4 = w' := ⟨_, rfl⟩
            obtain ⟨S2, hS2⟩ : ∃ S2, S2 = (⟨delL S.l x.path.data.toList, S.lp, S.lb, S.told⟩ : SS) := ⟨_, rfl⟩
            rw [← hS2] at HE
            have HS4 := Aside0.mk HE.out.1
            obtain ⟨vp, vb, hr4⟩ := HE.out.2.1
            have HE3 := Aside0.mk HE.out.2.2
            obtain ⟨Ap, cp, Ab, cb, rfl, rfl, hcp, hcb⟩ := hr4.shape
            have HR4 := Aside0.mk hr4
            have HRB := Aside0.mk hr4.box
            clear HE hr4 hS2
            refine wp_region_flowMB (fun a b => Below a.heap.size a b) 15 (P4 g r S2 Ap cp) [70, 71, 72, 73, 74, 75, 76, 77, 78, 79, 80, 81, 82, 83, 84] (by kernel_rfl) (by kernel_rfl) (by kernel_rfl) ((Below.refl _ _).drew) (fun _ _ _ h k => below_step h k) (P4_st _ _ _ _ _) ?_ (.inl (by kernel_rfl)) ?_
            · intro i o hi ho aa w' F
              have hlow := F.low
              match i, ho with
              | 0, ho =>
                obtain rfl := Option.some.inj ho
                refine flow_plain rfl rfl ?_
                have f7 : aa.tmps.getD 7 undef = .pointer (some ⟨g, 0, none⟩) := F.out 7 (by kernel_rfl) _ rfl
                exact op_move (.tmp 7) rfl ⟨_, rfl, Below.refl _ _, f7⟩
              | 1, ho =>
                obtain rfl := Option.some.inj ho
                refine flow_plain rfl rfl ?_
                have f70 : (aa.tmps.getD 70 undef) = .pointer (some ⟨g, 0, none⟩) := F.of 0 (by kernel_rfl)
                refine op_call 19 #[.tmp 70] #[24] rfl _ rfl rfl rfl #[.pointer (some ⟨g, 0, none⟩)] (by simp [Act.eval, f70]) ?_
                refine (stotal_calls _ (HS4.out.below hlow)).mono ?_
                rintro e w5 ⟨rfl, hb5⟩
                exact ⟨_, rfl, _, rfl, hb5, rfl⟩
              | 2, ho =>
                obtain rfl := Option.some.inj ho
                refine flow_plain rfl rfl ?_
                have f8 : aa.tmps.getD 8 undef = .pointer (some ⟨r, 0, none⟩) := F.out 8 (by kernel_rfl) _ rfl
                exact op_move (.tmp 8) rfl ⟨_, rfl, Below.refl _ _, f8⟩
              | 3, ho =>
                obtain rfl := Option.some.inj ho
                refine flow_plain rfl rfl ?_
                have f72 : (aa.tmps.getD 72 undef) = .pointer (some ⟨r, 0, none⟩) := F.of 2 (by kernel_rfl)
                refine op_call 20 #[.tmp 72] #[40] rfl _ rfl rfl rfl #[.pointer (some ⟨r, 0, none⟩)] (by simp [Act.eval, f72]) ?_
                refine (rtotal_calls _ (HR4.out.below hlow)).mono ?_
                rintro e w5 ⟨rfl, rfl⟩
                exact ⟨_, rfl, _, rfl, Below.refl _ _, rfl⟩
              | 4, ho =>
                obtain rfl := Option.some.inj ho
                refine flow_plain rfl rfl ?_
                have f71 : (aa.tmps.getD 71 undef) = .int .i64 (totL S2.l : Int) := F.of 1 (by kernel_rfl)
                have f73 : (aa.tmps.getD 73 undef) = .int .i64 (totL S2.l : Int) := F.of 3 (by kernel_rfl)
                refine op_pure (.bool false) ?_ ⟨_, rfl, Below.refl _ _, rfl⟩
                simp [execOp, Act.eval, go_sem, f71, f73]
              | 5, ho =>
                obtain rfl := Option.some.inj ho
                refine flow_plain rfl rfl ?_
                have f74 : (aa.tmps.getD 74 undef) = .bool false := F.of 4 (by kernel_rfl)
                exact op_move (.tmp 74) rfl ⟨_, rfl, Below.refl _ _, f74⟩
              | 6, ho =>
                obtain rfl := Option.some.inj ho
                have hg : aa.tmps.getD 75 undef = .bool false := F.of 5 (by kernel_rfl)
                refine flow_yes rfl rfl 75 rfl hg ?_
                have f7 : aa.tmps.getD 7 undef = .pointer (some ⟨g, 0, none⟩) := F.out 7 (by kernel_rfl) _ rfl
                exact op_move (.tmp 7) rfl ⟨_, rfl, Below.refl _ _, f7⟩
              | 7, ho =>
                obtain rfl := Option.some.inj ho
                have hg : aa.tmps.getD 75 undef = .bool false := F.of 5 (by kernel_rfl)
                refine flow_yes rfl rfl 75 rfl hg ?_
                have f76 : (aa.tmps.getD 76 undef) = .pointer (some ⟨g, 0, none⟩) := F.of 6 (by kernel_rfl)
                refine op_call 22 #[.tmp 76] #[24] rfl _ rfl rfl rfl #[.pointer (some ⟨g, 0, none⟩)] (by simp [Act.eval, f76]) ?_
                refine (spaths_calls _ (HS4.out.below hlow)).mono ?_
                rintro e w5 ⟨v5, rfl, hown, _, hb5⟩
                exact ⟨_, rfl, _, rfl, hb5, own_mono hown (Nat.zero_le _)⟩
              | 8, ho =>
                obtain rfl := Option.some.inj ho
                have hg : aa.tmps.getD 75 undef = .bool false := F.of 5 (by kernel_rfl)
                refine flow_yes rfl rfl 75 rfl hg ?_
                have f8 : aa.tmps.getD 8 undef = .pointer (some ⟨r, 0, none⟩) := F.out 8 (by kernel_rfl) _ rfl
                exact op_move (.tmp 8) rfl ⟨_, rfl, Below.refl _ _, f8⟩
              | 9, ho =>
                obtain rfl := Option.some.inj ho
                have hg : aa.tmps.getD 75 undef = .bool false := F.of 5 (by kernel_rfl)
                refine flow_yes rfl rfl 75 rfl hg ?_
                have f78 : (aa.tmps.getD 78 undef) = .pointer (some ⟨r, 0, none⟩) := F.of 8 (by kernel_rfl)
                refine op_pure (.pointer (some ⟨r, 0, none⟩)) ?_ ⟨_, rfl, Below.refl _ _, rfl⟩
                simp [execOp, Act.eval, go_sem, f78]
              | 10, ho =>
                obtain rfl := Option.some.inj ho
                have hg : aa.tmps.getD 75 undef = .bool false := F.of 5 (by kernel_rfl)
                refine flow_yes rfl rfl 75 rfl hg ?_
                have f79 : (aa.tmps.getD 79 undef) = .pointer (some ⟨r, 0, none⟩) := F.of 9 (by kernel_rfl)
                refine op_pure (.pointer (some ⟨r, 0, none⟩)) ?_ ⟨_, rfl, Below.refl _ _, rfl⟩
                simp [execOp, Act.eval, go_sem, f79]
              | 11, ho =>
                obtain rfl := Option.some.inj ho
                have hg : aa.tmps.getD 75 undef = .bool false := F.of 5 (by kernel_rfl)
                refine flow_yes rfl rfl 75 rfl hg ?_
                have f80 : (aa.tmps.getD 80 undef) = .pointer (some ⟨r, 0, none⟩) := F.of 10 (by kernel_rfl)
                have hc := (blk (below_heap hlow HRB.out)).1 0
                simp only [List.getElem?_toArray, List.getElem?_cons_zero] at hc
                refine op_pure (.slice Ap S2.l.length cp) ?_ ⟨_, rfl, Below.refl _ _, rfl⟩
                simp [execOp, Act.eval, go_sem, f80, hc]
              | 12, ho =>
                obtain rfl := Option.some.inj ho
                have hg : aa.tmps.getD 75 undef = .bool false := F.of 5 (by kernel_rfl)
                refine flow_yes rfl rfl 75 rfl hg ?_
                have f77 : w'.ownsRow 0 9 1 (aa.tmps.getD 77 undef) (keysL S2.l).length ((keysL S2.l).map tv) := F.of 7 (by kernel_rfl)
                have f81 : (aa.tmps.getD 81 undef) = .slice Ap S2.l.length cp := F.of 11 (by kernel_rfl)
                refine op_call 21 #[.tmp 77, .tmp 81] #[26, 26] rfl _ rfl rfl rfl #[aa.tmps.getD 77 undef, .slice Ap S2.l.length cp] (by simp [Act.eval, f81]) ?_
                refine (texts_calls (b0 := 0) (b1 := 0) _ (keysL_tv f77 0) (keysL_tv (HR4.out.below hlow).paths 0)).mono ?_
                rintro e w5 ⟨rfl, hb5⟩
                exact ⟨_, rfl, _, rfl, hb5, by simp [P4]⟩
              | 13, ho =>
                obtain rfl := Option.some.inj ho
                have hg : aa.tmps.getD 75 undef = .bool false := F.of 5 (by kernel_rfl)
                refine flow_yes rfl rfl 75 rfl hg ?_
                have f82 : (aa.tmps.getD 82 undef) = .bool true := F.of 12 (by kernel_rfl)
                refine op_pure (.bool false) ?_ ⟨_, rfl, Below.refl _ _, rfl⟩
                simp [execOp, Act.eval, go_sem, f82]
              | 14, ho =>
                obtain rfl := Option.some.inj ho
                refine flow_plain rfl rfl ?_
                have f75 : (aa.tmps.getD 75 undef) = .bool false := F.of 5 (by kernel_rfl)
                have f83 : (aa.tmps.getD 83 undef) = .bool false := F.of 13 (by kernel_rfl)
                refine op_pure (.bool false) ?_ ⟨_, rfl, Below.refl _ _, rfl⟩
                simp [execOp, Act.eval, go_sem, f75, f83]
              | j + 15, ho => omega
            intro vs w5 hlow hvs
            refine ⟨fun hx => ?_, fun h => absurd h (by decide)⟩
            clear hx
            have h14 : vs 14 = .bool false := hvs 14 (by decide)
            have HW5 := Aside0.mk hlow
            simp only [putL, Act.put, List.setIfInBounds_toArray, List.set_cons_zero, List.set_cons_succ, Nat.reduceAdd]
            rw [h14]
            clear hvs hlow h14
            go_wp2_with fail
            go_roundw
            case rel => exact ⟨k + 1, by omega, by go_num, ⟨⟨⟨S2, HS4.out.below HW5.out, _, _, HR4.out.below HW5.out⟩, below_step HE3.out HW5.out⟩⟩⟩
            case measure => simp [intOf]; omega
          | false =>
            cases b3 with
            | true =>
              go_wp2_with fail
              obtain ⟨w3, hw3⟩ : ∃ w3, w3 = wr.alloc (.cells #[.int .i64 x.kind, .string x.path, .int .i64 x.num] 45 (0, 0)) := ⟨_, rfl⟩
              obtain ⟨B, hB⟩ : ∃ B, B = wr.heap.size := ⟨_, rfl⟩
              rw [← hw3] at HJ HBX ⊢
              rw [← hB] at HBX HD ⊢
              clear hw3 hB
              refine wp_region_flowL (PlJ S (afterN S (nextQ S x.num)) w base g mb r B x 3 7) 10 P3_w (P3 g r B x S) [60, 61, 62, 63, 64, 65, 66, 67, 68, 69] (by kernel_rfl) (by kernel_rfl) (by kernel_rfl) ((PlJ.mk HJ.out.1 HJ.out.2.1 HJ.out.2.2 HBX.out : PlJ S (afterN S (nextQ S x.num)) w base g mb r B x 3 7 (Array.replicate 10 false) w3).below (Below.refl _ _).drew (q := 1000) (by decide) (by decide)) (fun q l w w' hS hI hb => hI.below hb (fun h => by cases h; cases hS) (fun h => by cases h; cases hS)) (P3_st _ _ _ _ _) ?_ ?_ (.inl (by kernel_rfl)) ?_
              · intro i o hi hS ho l aa w' F
                have hlow := F.low
                match i, ho with
                | 0, ho =>
                  obtain rfl := Option.some.inj ho
                  refine flow_plain rfl rfl ?_
                  have f7 : aa.tmps.getD 7 undef = .pointer (some ⟨g, 0, none⟩) := F.out 7 (by kernel_rfl) _ rfl
                  exact op_move (.tmp 7) rfl ⟨_, rfl, Below.refl _ _, f7⟩
                | 1, ho =>
                  obtain rfl := Option.some.inj ho
                  refine flow_plain rfl rfl ?_
                  have f10 : aa.tmps.getD 10 undef = .pointer (some ⟨B, 0, none⟩) := F.out 10 (by kernel_rfl) _ rfl
                  refine op_pure (.pointer (some ⟨B, 2, none⟩)) ?_ ⟨_, rfl, Below.refl _ _, rfl⟩
                  simp [execOp, Act.eval, go_sem, f10]
                | 2, ho =>
                  obtain rfl := Option.some.inj ho
                  refine flow_plain rfl rfl ?_
                  have f61 : (aa.tmps.getD 61 undef) = .pointer (some ⟨B, 2, none⟩) := F.of 1 (by kernel_rfl)
                  have hc := (blk (hlow.box)).1
                  refine op_pure (.int .i64 x.num) ?_ ⟨_, rfl, Below.refl _ _, rfl⟩
                  simp [execOp, Act.eval, go_sem, f61, hc]
                | 3, ho => exact Bool.noConfusion (hS.symm.trans (show _ = true by rfl))
                | 4, ho =>
                  obtain rfl := Option.some.inj ho
                  refine flow_plain rfl rfl ?_
                  have f8 : aa.tmps.getD 8 undef = .pointer (some ⟨r, 0, none⟩) := F.out 8 (by kernel_rfl) _ rfl
                  exact op_move (.tmp 8) rfl ⟨_, rfl, Below.refl _ _, f8⟩
                | 5, ho =>
                  obtain rfl := Option.some.inj ho
                  refine flow_plain rfl rfl ?_
                  have f10 : aa.tmps.getD 10 undef = .pointer (some ⟨B, 0, none⟩) := F.out 10 (by kernel_rfl) _ rfl
                  refine op_pure (.pointer (some ⟨B, 2, none⟩)) ?_ ⟨_, rfl, Below.refl _ _, rfl⟩
                  simp [execOp, Act.eval, go_sem, f10]
                | 6, ho =>
                  obtain rfl := Option.some.inj ho
                  refine flow_plain rfl rfl ?_
                  have f65 : (aa.tmps.getD 65 undef) = .pointer (some ⟨B, 2, none⟩) := F.of 5 (by kernel_rfl)
                  have hc := (blk (hlow.box)).1
                  refine op_pure (.int .i64 x.num) ?_ ⟨_, rfl, Below.refl _ _, rfl⟩
                  simp [execOp, Act.eval, go_sem, f65, hc]
                | 7, ho => exact Bool.noConfusion (hS.symm.trans (show _ = true by rfl))
                | 8, ho =>
                  obtain rfl := Option.some.inj ho
                  refine flow_plain rfl rfl ?_
                  have f63 : w'.ownsRow (r + 1) 36 2 (aa.tmps.getD 63 undef) (visN S (nextQ S x.num)).length ((visN S (nextQ S x.num)).flatMap visC) := F.of 3 (by kernel_rfl)
                  have f67 : w'.ownsRow (r + 1) 41 2 (aa.tmps.getD 67 undef) (visN S (nextQ S x.num)).length ((visN S (nextQ S x.num)).flatMap visC) := F.of 7 (by kernel_rfl)
                  refine op_call 17 #[.tmp 63, .tmp 67] #[31, 49] rfl _ rfl rfl rfl #[aa.tmps.getD 63 undef, aa.tmps.getD 67 undef] (by simp [Act.eval]) ?_
                  refine (vsame_calls (b := 0) (b' := 0) _ (SlC.of_own f63 0) (SlC.of_own f67 0)).mono ?_
                  rintro e w5 ⟨rfl, hb5⟩
                  exact ⟨_, rfl, _, rfl, hb5, rfl⟩
                | 9, ho =>
                  obtain rfl := Option.some.inj ho
                  refine flow_plain rfl rfl ?_
                  have f68 : (aa.tmps.getD 68 undef) = .bool true := F.of 8 (by kernel_rfl)
                  refine op_pure (.bool false) ?_ ⟨_, rfl, Below.refl _ _, rfl⟩
                  simp [execOp, Act.eval, go_sem, f68]
                | j + 10, ho => omega
              · intro i o hi hS ho l aa w' F
                have hlow := F.low
                match i, ho with
                | 0, ho => exact Bool.noConfusion (hS.symm.trans (show _ = false by rfl))
                | 1, ho => exact Bool.noConfusion (hS.symm.trans (show _ = false by rfl))
                | 2, ho => exact Bool.noConfusion (hS.symm.trans (show _ = false by rfl))
                | 3, ho =>
                  obtain rfl := Option.some.inj ho
                  refine flow_plain rfl rfl ?_
                  have f60 : (aa.tmps.getD 60 undef) = .pointer (some ⟨g, 0, none⟩) := F.of 0 (by kernel_rfl)
                  have f62 : (aa.tmps.getD 62 undef) = .int .i64 x.num := F.of 2 (by kernel_rfl)
                  have hI := hlow
                  have hBlt := blk_lt hI.box
                  refine op_call 11 #[.tmp 60, .tmp 62] #[24, 3] rfl _ rfl rfl rfl #[.pointer (some ⟨g, 0, none⟩), .int .i64 x.num] (by simp [Act.eval, f60, f62]) ?_
                  refine (snext_calls x.num _ (hI.is0 F.due) HXN.out).mono ?_
                  rintro e w5 ⟨v5, rfl, hown, _, hq1, hq2⟩
                  refine ⟨_, rfl, _, rfl, hI.left HD.out (by decide) (by rw [F.sz]; decide) hq1 hq2, own_mono hown (by have := HD.out.rB; omega), ?_⟩
                  intro j hj hji hlj h
                  match j, h with
                  | 0, h => exact h
                  | 1, h => exact h
                  | 2, h => exact h
                  | 3, h => exact absurd rfl hji
                  | 4, h => exact h
                  | 5, h => exact h
                  | 6, h => exact h
                  | 7, h => exact own_keepS h hq2 (by have := HD.out.gr; omega) (by have := HD.out.mr; omega)
                  | 8, h => exact h
                  | 9, h => exact h
                  | j + 10, h => omega
                | 4, ho => exact Bool.noConfusion (hS.symm.trans (show _ = false by rfl))
                | 5, ho => exact Bool.noConfusion (hS.symm.trans (show _ = false by rfl))
                | 6, ho => exact Bool.noConfusion (hS.symm.trans (show _ = false by rfl))
                | 7, ho =>
                  obtain rfl := Option.some.inj ho
                  refine flow_plain rfl rfl ?_
                  have f64 : (aa.tmps.getD 64 undef) = .pointer (some ⟨r, 0, none⟩) := F.of 4 (by kernel_rfl)
                  have f66 : (aa.tmps.getD 66 undef) = .int .i64 x.num := F.of 6 (by kernel_rfl)
                  have hI := hlow
                  have hBlt := blk_lt hI.box
                  obtain ⟨vp, vb, hr⟩ := hI.ris0 F.due
                  refine op_call 18 #[.tmp 64, .tmp 66] #[40, 3] rfl _ rfl rfl rfl #[.pointer (some ⟨r, 0, none⟩), .int .i64 x.num] (by simp [Act.eval, f64, f66]) ?_
                  refine (rnext_calls x.num _ hr HXN.out).mono ?_
                  rintro e w5 ⟨v5, rfl, hown, _, hq1, hq2⟩
                  refine ⟨_, rfl, _, rfl, hI.right HD.out (by decide) (by rw [F.sz]; decide) ⟨_, _, hq1⟩ hq2, own_mono hown (by have := HD.out.rB; omega), ?_⟩
                  intro j hj hji hlj h
                  match j, h with
                  | 0, h => exact h
                  | 1, h => exact h
                  | 2, h => exact h
                  | 3, h => exact own_box h hq2
                  | 4, h => exact h
                  | 5, h => exact h
                  | 6, h => exact h
                  | 7, h => exact absurd rfl hji
                  | 8, h => exact h
                  | 9, h => exact h
                  | j + 10, h => omega
                | 8, ho => exact Bool.noConfusion (hS.symm.trans (show _ = false by rfl))
                | 9, ho => exact Bool.noConfusion (hS.symm.trans (show _ = false by rfl))
                | j + 10, ho => omega
              intro vs l w' hall hlow hvs
              refine ⟨fun hx => ?_, fun h => absurd h (by decide)⟩
              clear hx
              have hlast : vs 9 = .bool false := hvs 9 (by decide)
              have HE := Aside0.mk (hlow.end (hall 3 (by decide)) (hall 7 (by decide)))
              simp only [putL, Act.put, List.setIfInBounds_toArray, List.set_cons_zero, List.set_cons_succ, Nat.reduceAdd]
              rw [hlast]
              clear hvs hall hlow hlast
              go_wp2_with fail
              obtain ⟨W4, rfl⟩ : ∃ W4, W4 = w' := ⟨_, rfl⟩
              obtain ⟨S2, hS2⟩ : ∃ S2, S2 = afterN S (nextQ S x.num) := ⟨_, rfl⟩
              rw [← hS2] at HE
              have HS4 := Aside0.mk HE.out.1
              obtain ⟨vp, vb, hr4⟩ := HE.out.2.1
              have HE3 := Aside0.mk HE.out.2.2
              obtain ⟨Ap, cp, Ab, cb, rfl, rfl, hcp, hcb⟩ := hr4.shape
              have HR4 := Aside0.mk hr4
              have HRB := Aside0.mk hr4.box
              clear HE hr4 hS2
              refine wp_region_flowMB (fun a b => Below a.heap.size a b) 15 (P4 g r S2 Ap cp) [70, 71, 72, 73, 74, 75, 76, 77, 78, 79, 80, 81, 82, 83, 84] (by kernel_rfl) (by kernel_rfl) (by kernel_rfl) ((Below.refl _ _).drew) (fun _ _ _ h k => below_step h k) (P4_st _ _ _ _ _) ?_ (.inl (by kernel_rfl)) ?_
              · intro i o hi ho aa w' F
                have hlow := F.low
                match i, ho with
                | 0, ho =>
                  obtain rfl := Option.some.inj ho
                  refine flow_plain rfl rfl ?_
                  have f7 : aa.tmps.getD 7 undef = .pointer (some ⟨g, 0, none⟩) := F.out 7 (by kernel_rfl) _ rfl
                  exact op_move (.tmp 7) rfl ⟨_, rfl, Below.refl _ _, f7⟩
                | 1, ho =>
                  obtain rfl := Option.some.inj ho
                  refine flow_plain rfl rfl ?_
                  have f70 : (aa.tmps.getD 70 undef) = .pointer (some ⟨g, 0, none⟩) := F.of 0 (by kernel_rfl)
                  refine op_call 19 #[.tmp 70] #[24] rfl _ rfl rfl rfl #[.pointer (some ⟨g, 0, none⟩)] (by simp [Act.eval, f70]) ?_
                  refine (stotal_calls _ (HS4.out.below hlow)).mono ?_
                  rintro e w5 ⟨rfl, hb5⟩
                  exact ⟨_, rfl, _, rfl, hb5, rfl⟩
                | 2, ho =>
                  obtain rfl := Option.some.inj ho
                  refine flow_plain rfl rfl ?_
                  have f8 : aa.tmps.getD 8 undef = .pointer (some ⟨r, 0, none⟩) := F.out 8 (by kernel_rfl) _ rfl
                  exact op_move (.tmp 8) rfl ⟨_, rfl, Below.refl _ _, f8⟩
                | 3, ho =>
                  obtain rfl := Option.some.inj ho
                  refine flow_plain rfl rfl ?_
                  have f72 : (aa.tmps.getD 72 undef) = .pointer (some ⟨r, 0, none⟩) := F.of 2 (by kernel_rfl)
                  refine op_call 20 #[.tmp 72] #[40] rfl _ rfl rfl rfl #[.pointer (some ⟨r, 0, none⟩)] (by simp [Act.eval, f72]) ?_
                  refine (rtotal_calls _ (HR4.out.below hlow)).mono ?_
                  rintro e w5 ⟨rfl, rfl⟩
                  exact ⟨_, rfl, _, rfl, Below.refl _ _, rfl⟩
                | 4, ho =>
                  obtain rfl := Option.some.inj ho
                  refine flow_plain rfl rfl ?_
                  have f71 : (aa.tmps.getD 71 undef) = .int .i64 (totL S2.l : Int) := F.of 1 (by kernel_rfl)
                  have f73 : (aa.tmps.getD 73 undef) = .int .i64 (totL S2.l : Int) := F.of 3 (by kernel_rfl)
                  refine op_pure (.bool false) ?_ ⟨_, rfl, Below.refl _ _, rfl⟩
                  simp [execOp, Act.eval, go_sem, f71, f73]
                | 5, ho =>
                  obtain rfl := Option.some.inj ho
                  refine flow_plain rfl rfl ?_
                  have f74 : (aa.tmps.getD 74 undef) = .bool false := F.of 4 (by kernel_rfl)
                  exact op_move (.tmp 74) rfl ⟨_, rfl, Below.refl _ _, f74⟩
                | 6, ho =>
                  obtain rfl := Option.some.inj ho
                  have hg : aa.tmps.getD 75 undef = .bool false := F.of 5 (by kernel_rfl)
                  refine flow_yes rfl rfl 75 rfl hg ?_
                  have f7 : aa.tmps.getD 7 undef = .pointer (some ⟨g, 0, none⟩) := F.out 7 (by kernel_rfl) _ rfl
                  exact op_move (.tmp 7) rfl ⟨_, rfl, Below.refl _ _, f7⟩
                | 7, ho =>
                  obtain rfl := Option.some.inj ho
                  have hg : aa.tmps.getD 75 undef = .bool false := F.of 5 (by kernel_rfl)
                  refine flow_yes rfl rfl 75 rfl hg ?_
                  have f76 : (aa.tmps.getD 76 undef) = .pointer (some ⟨g, 0, none⟩) := F.of 6 (by kernel_rfl)
                  refine op_call 22 #[.tmp 76] #[24] rfl _ rfl rfl rfl #[.pointer (some ⟨g, 0, none⟩)] (by simp [Act.eval, f76]) ?_
                  refine (spaths_calls _ (HS4.out.below hlow)).mono ?_
                  rintro e w5 ⟨v5, rfl, hown, _, hb5⟩
                  exact ⟨_, rfl, _, rfl, hb5, own_mono hown (Nat.zero_le _)⟩
                | 8, ho =>
                  obtain rfl := Option.some.inj ho
                  have hg : aa.tmps.getD 75 undef = .bool false := F.of 5 (by kernel_rfl)
                  refine flow_yes rfl rfl 75 rfl hg ?_
                  have f8 : aa.tmps.getD 8 undef = .pointer (some ⟨r, 0, none⟩) := F.out 8 (by kernel_rfl) _ rfl
                  exact op_move (.tmp 8) rfl ⟨_, rfl, Below.refl _ _, f8⟩
                | 9, ho =>
                  obtain rfl := Option.some.inj ho
                  have hg : aa.tmps.getD 75 undef = .bool false := F.of 5 (by kernel_rfl)
                  refine flow_yes rfl rfl 75 rfl hg ?_
                  have f78 : (aa.tmps.getD 78 undef) = .pointer (some ⟨r, 0, none⟩) := F.of 8 (by kernel_rfl)
                  refine op_pure (.pointer (some ⟨r, 0, none⟩)) ?_ ⟨_, rfl, Below.refl _ _, rfl⟩
                  simp [execOp, Act.eval, go_sem, f78]
                | 10, ho =>
                  obtain rfl := Option.some.inj ho
                  have hg : aa.tmps.getD 75 undef = .bool false := F.of 5 (by kernel_rfl)
                  refine flow_yes rfl rfl 75 rfl hg ?_
                  have f79 : (aa.tmps.getD 79 undef) = .pointer (some ⟨r, 0, none⟩) := F.of 9 (by kernel_rfl)
                  refine op_pure (.pointer (some ⟨r, 0, none⟩)) ?_ ⟨_, rfl, Below.refl _ _, rfl⟩
                  simp [execOp, Act.eval, go_sem, f79]
                | 11, ho =>
                  obtain rfl := Option.some.inj ho
                  have hg : aa.tmps.getD 75 undef = .bool false := F.of 5 (by kernel_rfl)
                  refine flow_yes rfl rfl 75 rfl hg ?_
                  have f80 : (aa.tmps.getD 80 undef) = .pointer (some ⟨r, 0, none⟩) := F.of 10 (by kernel_rfl)
                  have hc := (blk (below_heap hlow HRB.out)).1 0
                  simp only [List.getElem?_toArray, List.getElem?_cons_zero] at hc
                  refine op_pure (.slice Ap S2.l.length cp) ?_ ⟨_, rfl, Below.refl _ _, rfl⟩
                  simp [execOp, Act.eval, go_sem, f80, hc]
                | 12, ho =>
                  obtain rfl := Option.some.inj ho
                  have hg : aa.tmps.getD 75 undef = .bool false := F.of 5 (by kernel_rfl)
                  refine flow_yes rfl rfl 75 rfl hg ?_
                  have f77 : w'.ownsRow 0 9 1 (aa.tmps.getD 77 undef) (keysL S2.l).length ((keysL S2.l).map tv) := F.of 7 (by kernel_rfl)
                  have f81 : (aa.tmps.getD 81 undef) = .slice Ap S2.l.length cp := F.of 11 (by kernel_rfl)
                  refine op_call 21 #[.tmp 77, .tmp 81] #[26, 26] rfl _ rfl rfl rfl #[aa.tmps.getD 77 undef, .slice Ap S2.l.length cp] (by simp [Act.eval, f81]) ?_
                  refine (texts_calls (b0 := 0) (b1 := 0) _ (keysL_tv f77 0) (keysL_tv (HR4.out.below hlow).paths 0)).mono ?_
                  rintro e w5 ⟨rfl, hb5⟩
                  exact ⟨_, rfl, _, rfl, hb5, by simp [P4]⟩
                | 13, ho =>
                  obtain rfl := Option.some.inj ho
                  have hg : aa.tmps.getD 75 undef = .bool false := F.of 5 (by kernel_rfl)
                  refine flow_yes rfl rfl 75 rfl hg ?_
                  have f82 : (aa.tmps.getD 82 undef) = .bool true := F.of 12 (by kernel_rfl)
                  refine op_pure (.bool false) ?_ ⟨_, rfl, Below.refl _ _, rfl⟩
                  simp [execOp, Act.eval, go_sem, f82]
                | 14, ho =>
                  obtain rfl := Option.some.inj ho
                  refine flow_plain rfl rfl ?_
                  have f75 : (aa.tmps.getD 75 undef) = .bool false := F.of 5 (by kernel_rfl)
                  have f83 : (aa.tmps.getD 83 undef) = .bool false := F.of 13 (by kernel_rfl)
                  refine op_pure (.bool false) ?_ ⟨_, rfl, Below.refl _ _, rfl⟩
                  simp [execOp, Act.eval, go_sem, f75, f83]
                | j + 15, ho => omega
              intro vs w5 hlow hvs
              refine ⟨fun hx => ?_, fun h => absurd h (by decide)⟩
              clear hx
              have h14 : vs 14 = .bool false := hvs 14 (by decide)
              have HW5 := Aside0.mk hlow
              simp only [putL, Act.put, List.setIfInBounds_toArray, List.set_cons_zero, List.set_cons_succ, Nat.reduceAdd]
              rw [h14]
              clear hvs hlow h14
              go_wp2_with fail
              go_roundw
              case rel => exact ⟨k + 1, by omega, by go_num, ⟨⟨⟨S2, HS4.out.below HW5.out, _, _, HR4.out.below HW5.out⟩, below_step HE3.out HW5.out⟩⟩⟩
              case measure => simp [intOf]; omega
            | false =>
              go_wp2_with fail
              obtain ⟨w3, hw3⟩ : ∃ w3, w3 = wr.alloc (.cells #[.int .i64 x.kind, .string x.path, .int .i64 x.num] 45 (0, 0)) := ⟨_, rfl⟩
              obtain ⟨B, hB⟩ : ∃ B, B = wr.heap.size := ⟨_, rfl⟩
              rw [← hw3] at HJ HBX ⊢
              rw [← hB] at HBX HD ⊢
              clear hw3 hB
              have HE := HJ
              go_wp2_with fail
              obtain ⟨W4, hW4⟩ : ∃ W4, W4 = w3 := ⟨_, rfl⟩
              rw [← hW4] at HE ⊢
              clear hW4
              obtain ⟨S2, hS2⟩ : ∃ S2, S2 = S := ⟨_, rfl⟩
              rw [← hS2] at HE
              have HS4 := Aside0.mk HE.out.1
              obtain ⟨vp, vb, hr4⟩ := HE.out.2.1
              have HE3 := Aside0.mk HE.out.2.2
              obtain ⟨Ap, cp, Ab, cb, rfl, rfl, hcp, hcb⟩ := hr4.shape
              have HR4 := Aside0.mk hr4
              have HRB := Aside0.mk hr4.box
              clear HE hr4 hS2
              refine wp_region_flowMB (fun a b => Below a.heap.size a b) 15 (P4 g r S2 Ap cp) [70, 71, 72, 73, 74, 75, 76, 77, 78, 79, 80, 81, 82, 83, 84] (by kernel_rfl) (by kernel_rfl) (by kernel_rfl) ((Below.refl _ _).drew) (fun _ _ _ h k => below_step h k) (P4_st _ _ _ _ _) ?_ (.inl (by kernel_rfl)) ?_
              · intro i o hi ho aa w' F
                have hlow := F.low
                match i, ho with
                | 0, ho =>
                  obtain rfl := Option.some.inj ho
                  refine flow_plain rfl rfl ?_
                  have f7 : aa.tmps.getD 7 undef = .pointer (some ⟨g, 0, none⟩) := F.out 7 (by kernel_rfl) _ rfl
                  exact op_move (.tmp 7) rfl ⟨_, rfl, Below.refl _ _, f7⟩
                | 1, ho =>
                  obtain rfl := Option.some.inj ho
                  refine flow_plain rfl rfl ?_
                  have f70 : (aa.tmps.getD 70 undef) = .pointer (some ⟨g, 0, none⟩) := F.of 0 (by kernel_rfl)
                  refine op_call 19 #[.tmp 70] #[24] rfl _ rfl rfl rfl #[.pointer (some ⟨g, 0, none⟩)] (by simp [Act.eval, f70]) ?_
                  refine (stotal_calls _ (HS4.out.below hlow)).mono ?_
                  rintro e w5 ⟨rfl, hb5⟩
                  exact ⟨_, rfl, _, rfl, hb5, rfl⟩
                | 2, ho =>
                  obtain rfl := Option.some.inj ho
                  refine flow_plain rfl rfl ?_
                  have f8 : aa.tmps.getD 8 undef = .pointer (some ⟨r, 0, none⟩) := F.out 8 (by kernel_rfl) _ rfl
                  exact op_move (.tmp 8) rfl ⟨_, rfl, Below.refl _ _, f8⟩
                | 3, ho =>
                  obtain rfl := Option.some.inj ho
                  refine flow_plain rfl rfl ?_
                  have f72 : (aa.tmps.getD 72 undef) = .pointer (some ⟨r, 0, none⟩) := F.of 2 (by kernel_rfl)
                  refine op_call 20 #[.tmp 72] #[40] rfl _ rfl rfl rfl #[.pointer (some ⟨r, 0, none⟩)] (by simp [Act.eval, f72]) ?_
                  refine (rtotal_calls _ (HR4.out.below hlow)).mono ?_
                  rintro e w5 ⟨rfl, rfl⟩
                  exact ⟨_, rfl, _, rfl, Below.refl _ _, rfl⟩
                | 4, ho =>
                  obtain rfl := Option.some.inj ho
                  refine flow_plain rfl rfl ?_
                  have f71 : (aa.tmps.getD 71 undef) = .int .i64 (totL S2.l : Int) := F.of 1 (by kernel_rfl)
                  have f73 : (aa.tmps.getD 73 undef) = .int .i64 (totL S2.l : Int) := F.of 3 (by kernel_rfl)
                  refine op_pure (.bool false) ?_ ⟨_, rfl, Below.refl _ _, rfl⟩
                  simp [execOp, Act.eval, go_sem, f71, f73]
                | 5, ho =>
                  obtain rfl := Option.some.inj ho
                  refine flow_plain rfl rfl ?_
                  have f74 : (aa.tmps.getD 74 undef) = .bool false := F.of 4 (by kernel_rfl)
                  exact op_move (.tmp 74) rfl ⟨_, rfl, Below.refl _ _, f74⟩
                | 6, ho =>
                  obtain rfl := Option.some.inj ho
                  have hg : aa.tmps.getD 75 undef = .bool false := F.of 5 (by kernel_rfl)
                  refine flow_yes rfl rfl 75 rfl hg ?_
                  have f7 : aa.tmps.getD 7 undef = .pointer (some ⟨g, 0, none⟩) := F.out 7 (by kernel_rfl) _ rfl
                  exact op_move (.tmp 7) rfl ⟨_, rfl, Below.refl _ _, f7⟩
                | 7, ho =>
                  obtain rfl := Option.some.inj ho
                  have hg : aa.tmps.getD 75 undef = .bool false := F.of 5 (by kernel_rfl)
                  refine flow_yes rfl rfl 75 rfl hg ?_
                  have f76 : (aa.tmps.getD 76 undef) = .pointer (some ⟨g, 0, none⟩) := F.of 6 (by kernel_rfl)
                  refine op_call 22 #[.tmp 76] #[24] rfl _ rfl rfl rfl #[.pointer (some ⟨g, 0, none⟩)] (by simp [Act.eval, f76]) ?_
                  refine (spaths_calls _ (HS4.out.below hlow)).mono ?_
                  rintro e w5 ⟨v5, rfl, hown, _, hb5⟩
                  exact ⟨_, rfl, _, rfl, hb5, own_mono hown (Nat.zero_le _)⟩
                | 8, ho =>
                  obtain rfl := Option.some.inj ho
                  have hg : aa.tmps.getD 75 undef = .bool false := F.of 5 (by kernel_rfl)
                  refine flow_yes rfl rfl 75 rfl hg ?_
                  have f8 : aa.tmps.getD 8 undef = .pointer (some ⟨r, 0, none⟩) := F.out 8 (by kernel_rfl) _ rfl
                  exact op_move (.tmp 8) rfl ⟨_, rfl, Below.refl _ _, f8⟩
                | 9, ho =>
                  obtain rfl := Option.some.inj ho
                  have hg : aa.tmps.getD 75 undef = .bool false := F.of 5 (by kernel_rfl)
                  refine flow_yes rfl rfl 75 rfl hg ?_
                  have f78 : (aa.tmps.getD 78 undef) = .pointer (some ⟨r, 0, none⟩) := F.of 8 (by kernel_rfl)
                  refine op_pure (.pointer (some ⟨r, 0, none⟩)) ?_ ⟨_, rfl, Below.refl _ _, rfl⟩
                  simp [execOp, Act.eval, go_sem, f78]
                | 10, ho =>
                  obtain rfl := Option.some.inj ho
                  have hg : aa.tmps.getD 75 undef = .bool false := F.of 5 (by kernel_rfl)
                  refine flow_yes rfl rfl 75 rfl hg ?_
                  have f79 : (aa.tmps.getD 79 undef) = .pointer (some ⟨r, 0, none⟩) := F.of 9 (by kernel_rfl)
                  refine op_pure (.pointer (some ⟨r, 0, none⟩)) ?_ ⟨_, rfl, Below.refl _ _, rfl⟩
                  simp [execOp, Act.eval, go_sem, f79]
                | 11, ho =>
                  obtain rfl := Option.some.inj ho
                  have hg : aa.tmps.getD 75 undef = .bool false := F.of 5 (by kernel_rfl)
                  refine flow_yes rfl rfl 75 rfl hg ?_
                  have f80 : (aa.tmps.getD 80 undef) = .pointer (some ⟨r, 0, none⟩) := F.of 10 (by kernel_rfl)
                  have hc := (blk (below_heap hlow HRB.out)).1 0
                  simp only [List.getElem?_toArray, List.getElem?_cons_zero] at hc
                  refine op_pure (.slice Ap S2.l.length cp) ?_ ⟨_, rfl, Below.refl _ _, rfl⟩
                  simp [execOp, Act.eval, go_sem, f80, hc]
                | 12, ho =>
                  obtain rfl := Option.some.inj ho
                  have hg : aa.tmps.getD 75 undef = .bool false := F.of 5 (by kernel_rfl)
                  refine flow_yes rfl rfl 75 rfl hg ?_
                  have f77 : w'.ownsRow 0 9 1 (aa.tmps.getD 77 undef) (keysL S2.l).length ((keysL S2.l).map tv) := F.of 7 (by kernel_rfl)
                  have f81 : (aa.tmps.getD 81 undef) = .slice Ap S2.l.length cp := F.of 11 (by kernel_rfl)
                  refine op_call 21 #[.tmp 77, .tmp 81] #[26, 26] rfl _ rfl rfl rfl #[aa.tmps.getD 77 undef, .slice Ap S2.l.length cp] (by simp [Act.eval, f81]) ?_
                  refine (texts_calls (b0 := 0) (b1 := 0) _ (keysL_tv f77 0) (keysL_tv (HR4.out.below hlow).paths 0)).mono ?_
                  rintro e w5 ⟨rfl, hb5⟩
                  exact ⟨_, rfl, _, rfl, hb5, by simp [P4]⟩
                | 13, ho =>
                  obtain rfl := Option.some.inj ho
                  have hg : aa.tmps.getD 75 undef = .bool false := F.of 5 (by kernel_rfl)
                  refine flow_yes rfl rfl 75 rfl hg ?_
                  have f82 : (aa.tmps.getD 82 undef) = .bool true := F.of 12 (by kernel_rfl)
                  refine op_pure (.bool false) ?_ ⟨_, rfl, Below.refl _ _, rfl⟩
                  simp [execOp, Act.eval, go_sem, f82]
                | 14, ho =>
                  obtain rfl := Option.some.inj ho
                  refine flow_plain rfl rfl ?_
                  have f75 : (aa.tmps.getD 75 undef) = .bool false := F.of 5 (by kernel_rfl)
                  have f83 : (aa.tmps.getD 83 undef) = .bool false := F.of 13 (by kernel_rfl)
                  refine op_pure (.bool false) ?_ ⟨_, rfl, Below.refl _ _, rfl⟩
                  simp [execOp, Act.eval, go_sem, f75, f83]
                | j + 15, ho => omega
              intro vs w5 hlow hvs
              refine ⟨fun hx => ?_, fun h => absurd h (by decide)⟩
              clear hx
              have h14 : vs 14 = .bool false := hvs 14 (by decide)
              have HW5 := Aside0.mk hlow
              simp only [putL, Act.put, List.setIfInBounds_toArray, List.set_cons_zero, List.set_cons_succ, Nat.reduceAdd]
              rw [h14]
              clear hvs hlow h14
              go_wp2_with fail
              go_roundw
              case rel => exact ⟨k + 1, by omega, by go_num, ⟨⟨⟨S2, HS4.out.below HW5.out, _, _, HR4.out.below HW5.out⟩, below_step HE3.out HW5.out⟩⟩⟩
              case measure => simp [intOf]; omega
      · have e1 : decide ((k : Int) < L.length) = false := decide_eq_false (by omega)
        go_wp2_with fail
        refine (HR1.out _).mono ?_
        rintro e w3 ⟨rfl, rfl⟩
        go_wp2_with fail
        refine (HR2.out _).mono ?_
        rintro e w3 ⟨rfl, rfl⟩
        go_wp2_with fail
        refine (awake13_calls _).mono ?_
        rintro e w4 ⟨rfl, hb4⟩
        have HB4 := Aside0.mk (below_step hs.out.low hb4)
        clear hb4
        go_wp2_with fail
        go_ret
        exact ⟨rfl, HB4.out⟩
end Go.Proofs.YtoigmepkhiknbaaDoor
