/-
  The reference's Set and Drop. No condition but lengths.
-/
import Derived.Test.YtoigmepkhiknbaaDoorSchRef
import Derived.Test.YtoigmepkhiknbaaDoorSchFns
import Derived.Test.YtoigmepkhiknbaaDoorRefValid4
namespace Go.Proofs.YtoigmepkhiknbaaDoor
open Go.RowKit Go.Maps Go.Joins
set_option linter.unusedVariables false
set_option linter.unusedSimpArgs false

theorem own_zero {α : Type} {enc : α → Value} {w : World} {base e g : Nat} (h : w.heap[g]? = some (.cells #[] e (0, 0))) (hg : base ≤ g) : w.ownsRow base e 1 (.slice (some ⟨g, 0, none⟩) 0 0) ([] : List α).length (([] : List α).map enc) :=
  ⟨rfl, .inr ⟨g, 0, #[], rfl, hg, h, Nat.le_refl _, by decide, rfl, rfl⟩⟩
theorem own_put {w : World} {r base e size n : Nat} {v : Value} {cs : List Value} (hr : r < base) (h : w.ownsRow base e size v n cs) (i : Nat) (u : Value) : (w.setCell ⟨r, i, none⟩ u).ownsRow base e size v n cs :=
  h.kept (grw_set w r i u) (.inr fun he => by have := (own_row h r he).1; omega)
theorem own_some {w : World} {base e n : Nat} {v : Value} {cs : List Value} (h : w.ownsRow base e 1 v n cs) (hn : 0 < n) : ∃ g c, v = .slice (some ⟨g, 0, none⟩) n c ∧ base ≤ g ∧ n ≤ c := by
  rcases h.2 with ⟨_, h0⟩ | ⟨g, cap, cur, rfl, hb, _, h1, _⟩
  · omega
  · exact ⟨g, cap, rfl, hb, h1⟩
theorem own_cell {w : World} {base e g n c : Nat} {cs : List Value} (h : w.ownsRow base e 1 (.slice (some ⟨g, 0, none⟩) n c) n cs) (k : Nat) (hk : k < cs.length) : w.cell? ⟨g, k, none⟩ = some (cs[k]'hk) ∧ w.frozen? ⟨g, k, none⟩ = false := by
  constructor
  · have hc := World.ownsRow.cells h (g := g) rfl k (cs[k]'hk) (by simp [List.getElem?_eq_getElem hk])
    have ha : (⟨g, 0, none⟩ : Addr).add k = ⟨g, k, none⟩ := by unfold Addr.add; split <;> simp_all
    rwa [ha] at hc
  · rcases h.2 with ⟨h', _⟩ | ⟨g', cap', cur, h', _, hh, _⟩
    · cases h'
    · cases h'; simp [World.frozen?, hh]
theorem grw_new {w1 w3 : World} {r g2 : Nat} (h : w1.grownBy w3 (some r)) (hg : w1.heap.size ≤ g2) (i : Nat) (v : Value) : w1.grownBy (w3.setCell ⟨g2, i, none⟩ v) (some r) :=
  ⟨h.os, h.tape, h.output, by simpa using h.size, fun k hk hne => by
    rw [Below.heap_setCell w3 ⟨g2, i, none⟩ v k (by show k ≠ g2; omega)]; exact h.block k hk hne⟩
theorem info_intR : (Tryd.prog.info? 3).map (fun i => (i.zero, i.size, i.bytes)) = some (some (.int .i64 0), 1, 8) := by kernel_rfl
theorem getD_vs (v : Value) : v = v := rfl

/-- What Set leaves. -/
def RSetQ (r : Nat) (S : SS) (p : List UInt8) (n : Int) (w w' : World) : Prop :=
  (∃ vp vb, RIsS w' r vp vb (if setE S.l p n = 0 then ⟨setL S.l p n.toNat, S.lp, S.lb, S.told⟩ else S)) ∧ w.grownBy w' (some r)
theorem map_fst_set (l : List Ent) (k : Nat) (p : List UInt8) (n : Nat) (hk : k < l.length) (he : (l[k]'hk).1 = p) : keysL (l.set k (p, n)) = keysL l := by
  unfold keysL
  rw [List.map_set]
  refine List.ext_getElem? fun i => ?_
  rw [List.getElem?_set]
  split
  · rename_i h; subst h
    rw [if_pos (by rw [List.length_map]; exact hk), List.getElem?_map, List.getElem?_eq_getElem hk]
    simp [he]
  · rfl

section
set_option maxRecDepth 100000
/-- What each slot of the region holds. -/
def RsP (W : World) (r : Nat) (Ap : Option Addr) (n cp k : Nat) (xs : List (List UInt8)) (p : ByteArray) : Nat → Array Bool → Value → World → Prop
  | 0, l, v, w => v = .pointer (some ⟨r, 0, none⟩)
  | 1, l, v, w => l.getD 8 false = true ∨ (∃ g, v = .slice (some ⟨g, 0, none⟩) 0 0 ∧ w.heap[g]? = some (.cells #[] 9 (0, 0)) ∧ W.heap.size ≤ g)
  | 2, l, v, w => v = .pointer (some ⟨r, 0, none⟩)
  | 3, l, v, w => v = .pointer (some ⟨r, 0, none⟩)
  | 4, l, v, w => v = .pointer (some ⟨r, 0, none⟩)
  | 5, l, v, w => v = .slice Ap n cp
  | 6, l, v, w => v = .int .i64 (k : Int)
  | 7, l, v, w => v = .slice Ap k cp
  | 8, l, v, w => l.getD 11 false = true ∨ (w.ownsRow W.heap.size 9 1 v (xs.take k).length ((xs.take k).map tv))
  | 9, l, v, w => v = .string p
  | 10, l, v, w => l.getD 11 false = true ∨ (∃ g, v = .slice (some ⟨g, 0, none⟩) 1 1 ∧ w.heap[g]? = some (.cells #[.string p] 9 (0, 0)))
  | 11, l, v, w => l.getD 18 false = true ∨ (w.ownsRow W.heap.size 9 1 v (xs.take k ++ [p.data.toList]).length ((xs.take k ++ [p.data.toList]).map tv))
  | 12, l, v, w => v = .pointer (some ⟨r, 0, none⟩)
  | 13, l, v, w => v = .pointer (some ⟨r, 0, none⟩)
  | 14, l, v, w => v = .pointer (some ⟨r, 0, none⟩)
  | 15, l, v, w => v = .slice Ap n cp
  | 16, l, v, w => v = .int .i64 (k : Int)
  | 17, l, v, w => v = .slice (if cp = k then Ap else Ap.map fun x => x.add k) (n - k) (cp - k)
  | 18, l, v, w => w.ownsRow W.heap.size 9 1 v (xs.take k ++ [p.data.toList] ++ xs.drop k).length ((xs.take k ++ [p.data.toList] ++ xs.drop k).map tv)
  | 19, l, v, w => v = .pointer (some ⟨r, 0, none⟩)
  | 20, l, v, w => v = .pointer (some ⟨r, 0, none⟩)
  | _, _, _, _ => True
def RsP_w : Nat → Bool
  | 8 => true
  | 11 => true
  | 18 => true
  | _ => false
theorem RsP_st (W : World) (r : Nat) (Ap : Option Addr) (n cp k : Nat) (xs : List (List UInt8)) (p : ByteArray) : ∀ j i l v w w', RsP_w i = false → RsP W r Ap n cp k xs p j l v w → Below w.heap.size w w' → RsP W r Ap n cp k xs p j (l.setIfInBounds i true) v w'
  | 0, i, l, v, w, w', _, h, hb => h
  | 1, i, l, v, w, w', _, h, hb => h.elim (fun h => .inl (getD_mono h)) fun h => .inr (h.elim fun g h => ⟨g, h.1, below_heap hb h.2.1, h.2.2⟩)
  | 2, i, l, v, w, w', _, h, hb => h
  | 3, i, l, v, w, w', _, h, hb => h
  | 4, i, l, v, w, w', _, h, hb => h
  | 5, i, l, v, w, w', _, h, hb => h
  | 6, i, l, v, w, w', _, h, hb => h
  | 7, i, l, v, w, w', _, h, hb => h
  | 8, i, l, v, w, w', _, h, hb => h.elim (fun h => .inl (getD_mono h)) fun h => .inr (own_below h hb)
  | 9, i, l, v, w, w', _, h, hb => h
  | 10, i, l, v, w, w', _, h, hb => h.elim (fun h => .inl (getD_mono h)) fun h => .inr (h.elim fun g h => ⟨g, h.1, below_heap hb h.2⟩)
  | 11, i, l, v, w, w', _, h, hb => h.elim (fun h => .inl (getD_mono h)) fun h => .inr (own_below h hb)
  | 12, i, l, v, w, w', _, h, hb => h
  | 13, i, l, v, w, w', _, h, hb => h
  | 14, i, l, v, w, w', _, h, hb => h
  | 15, i, l, v, w, w', _, h, hb => h
  | 16, i, l, v, w, w', _, h, hb => h
  | 17, i, l, v, w, w', _, h, hb => h
  | 18, i, l, v, w, w', _, h, hb => own_below h hb
  | 19, i, l, v, w, w', _, h, hb => h
  | 20, i, l, v, w, w', _, h, hb => h
  | _ + 21, _, _, _, _, _, _, _, _ => trivial
end

section
set_option maxRecDepth 100000
/-- What each slot of the region holds. -/
def RsB (W : World) (r : Nat) (Ap : Option Addr) (n cp k : Nat) (xs : List (Nat)) (N : Nat) : Nat → Array Bool → Value → World → Prop
  | 0, l, v, w => v = .pointer (some ⟨r, 0, none⟩)
  | 1, l, v, w => l.getD 8 false = true ∨ (∃ g, v = .slice (some ⟨g, 0, none⟩) 0 0 ∧ w.heap[g]? = some (.cells #[] 3 (0, 0)) ∧ W.heap.size ≤ g)
  | 2, l, v, w => v = .pointer (some ⟨r, 0, none⟩)
  | 3, l, v, w => v = .pointer (some ⟨r, 0, none⟩)
  | 4, l, v, w => v = .pointer (some ⟨r, 1, none⟩)
  | 5, l, v, w => v = .slice Ap n cp
  | 6, l, v, w => v = .int .i64 (k : Int)
  | 7, l, v, w => v = .slice Ap k cp
  | 8, l, v, w => l.getD 11 false = true ∨ (w.ownsRow W.heap.size 3 1 v (xs.take k).length ((xs.take k).map nb))
  | 9, l, v, w => v = .int .i64 (N : Int)
  | 10, l, v, w => l.getD 11 false = true ∨ (∃ g, v = .slice (some ⟨g, 0, none⟩) 1 1 ∧ w.heap[g]? = some (.cells #[.int .i64 (N : Int)] 3 (0, 0)))
  | 11, l, v, w => l.getD 18 false = true ∨ (w.ownsRow W.heap.size 3 1 v (xs.take k ++ [N]).length ((xs.take k ++ [N]).map nb))
  | 12, l, v, w => v = .pointer (some ⟨r, 0, none⟩)
  | 13, l, v, w => v = .pointer (some ⟨r, 0, none⟩)
  | 14, l, v, w => v = .pointer (some ⟨r, 1, none⟩)
  | 15, l, v, w => v = .slice Ap n cp
  | 16, l, v, w => v = .int .i64 (k : Int)
  | 17, l, v, w => v = .slice (if cp = k then Ap else Ap.map fun x => x.add k) (n - k) (cp - k)
  | 18, l, v, w => w.ownsRow W.heap.size 3 1 v (xs.take k ++ [N] ++ xs.drop k).length ((xs.take k ++ [N] ++ xs.drop k).map nb)
  | 19, l, v, w => v = .pointer (some ⟨r, 0, none⟩)
  | 20, l, v, w => v = .pointer (some ⟨r, 1, none⟩)
  | _, _, _, _ => True
def RsB_w : Nat → Bool
  | 8 => true
  | 11 => true
  | 18 => true
  | _ => false
theorem RsB_st (W : World) (r : Nat) (Ap : Option Addr) (n cp k : Nat) (xs : List (Nat)) (N : Nat) : ∀ j i l v w w', RsB_w i = false → RsB W r Ap n cp k xs N j l v w → Below w.heap.size w w' → RsB W r Ap n cp k xs N j (l.setIfInBounds i true) v w'
  | 0, i, l, v, w, w', _, h, hb => h
  | 1, i, l, v, w, w', _, h, hb => h.elim (fun h => .inl (getD_mono h)) fun h => .inr (h.elim fun g h => ⟨g, h.1, below_heap hb h.2.1, h.2.2⟩)
  | 2, i, l, v, w, w', _, h, hb => h
  | 3, i, l, v, w, w', _, h, hb => h
  | 4, i, l, v, w, w', _, h, hb => h
  | 5, i, l, v, w, w', _, h, hb => h
  | 6, i, l, v, w, w', _, h, hb => h
  | 7, i, l, v, w, w', _, h, hb => h
  | 8, i, l, v, w, w', _, h, hb => h.elim (fun h => .inl (getD_mono h)) fun h => .inr (own_below h hb)
  | 9, i, l, v, w, w', _, h, hb => h
  | 10, i, l, v, w, w', _, h, hb => h.elim (fun h => .inl (getD_mono h)) fun h => .inr (h.elim fun g h => ⟨g, h.1, below_heap hb h.2⟩)
  | 11, i, l, v, w, w', _, h, hb => h.elim (fun h => .inl (getD_mono h)) fun h => .inr (own_below h hb)
  | 12, i, l, v, w, w', _, h, hb => h
  | 13, i, l, v, w, w', _, h, hb => h
  | 14, i, l, v, w, w', _, h, hb => h
  | 15, i, l, v, w, w', _, h, hb => h
  | 16, i, l, v, w, w', _, h, hb => h
  | 17, i, l, v, w, w', _, h, hb => h
  | 18, i, l, v, w, w', _, h, hb => own_below h hb
  | 19, i, l, v, w, w', _, h, hb => h
  | 20, i, l, v, w, w', _, h, hb => h
  | _ + 21, _, _, _, _, _, _, _, _ => trivial
end

section
set_option maxRecDepth 100000
/-- What each slot of the region holds. -/
def RdP (W : World) (r : Nat) (Ap : Option Addr) (n cp k m : Nat) (xs : List (List UInt8)) : Nat → Array Bool → Value → World → Prop
  | 0, l, v, w => v = .pointer (some ⟨r, 0, none⟩)
  | 1, l, v, w => l.getD 8 false = true ∨ (∃ g, v = .slice (some ⟨g, 0, none⟩) 0 0 ∧ w.heap[g]? = some (.cells #[] 9 (0, 0)) ∧ W.heap.size ≤ g)
  | 2, l, v, w => v = .pointer (some ⟨r, 0, none⟩)
  | 3, l, v, w => v = .pointer (some ⟨r, 0, none⟩)
  | 4, l, v, w => v = .pointer (some ⟨r, 0, none⟩)
  | 5, l, v, w => v = .slice Ap n cp
  | 6, l, v, w => v = .int .i64 (k : Int)
  | 7, l, v, w => v = .slice Ap k cp
  | 8, l, v, w => l.getD 16 false = true ∨ (w.ownsRow W.heap.size 9 1 v (xs.take k).length ((xs.take k).map tv))
  | 9, l, v, w => v = .pointer (some ⟨r, 0, none⟩)
  | 10, l, v, w => v = .pointer (some ⟨r, 0, none⟩)
  | 11, l, v, w => v = .pointer (some ⟨r, 0, none⟩)
  | 12, l, v, w => v = .slice Ap n cp
  | 13, l, v, w => v = .int .i64 (k : Int)
  | 14, l, v, w => v = .int .i64 (m : Int)
  | 15, l, v, w => v = .slice (if cp = m then Ap else Ap.map fun x => x.add m) (n - m) (cp - m)
  | 16, l, v, w => w.ownsRow W.heap.size 9 1 v (xs.take k ++ xs.drop m).length ((xs.take k ++ xs.drop m).map tv)
  | 17, l, v, w => v = .pointer (some ⟨r, 0, none⟩)
  | 18, l, v, w => v = .pointer (some ⟨r, 0, none⟩)
  | _, _, _, _ => True
def RdP_w : Nat → Bool
  | 8 => true
  | 16 => true
  | _ => false
theorem RdP_st (W : World) (r : Nat) (Ap : Option Addr) (n cp k m : Nat) (xs : List (List UInt8)) : ∀ j i l v w w', RdP_w i = false → RdP W r Ap n cp k m xs j l v w → Below w.heap.size w w' → RdP W r Ap n cp k m xs j (l.setIfInBounds i true) v w'
  | 0, i, l, v, w, w', _, h, hb => h
  | 1, i, l, v, w, w', _, h, hb => h.elim (fun h => .inl (getD_mono h)) fun h => .inr (h.elim fun g h => ⟨g, h.1, below_heap hb h.2.1, h.2.2⟩)
  | 2, i, l, v, w, w', _, h, hb => h
  | 3, i, l, v, w, w', _, h, hb => h
  | 4, i, l, v, w, w', _, h, hb => h
  | 5, i, l, v, w, w', _, h, hb => h
  | 6, i, l, v, w, w', _, h, hb => h
  | 7, i, l, v, w, w', _, h, hb => h
  | 8, i, l, v, w, w', _, h, hb => h.elim (fun h => .inl (getD_mono h)) fun h => .inr (own_below h hb)
  | 9, i, l, v, w, w', _, h, hb => h
  | 10, i, l, v, w, w', _, h, hb => h
  | 11, i, l, v, w, w', _, h, hb => h
  | 12, i, l, v, w, w', _, h, hb => h
  | 13, i, l, v, w, w', _, h, hb => h
  | 14, i, l, v, w, w', _, h, hb => h
  | 15, i, l, v, w, w', _, h, hb => h
  | 16, i, l, v, w, w', _, h, hb => own_below h hb
  | 17, i, l, v, w, w', _, h, hb => h
  | 18, i, l, v, w, w', _, h, hb => h
  | _ + 19, _, _, _, _, _, _, _, _ => trivial
end

section
set_option maxRecDepth 100000
/-- What each slot of the region holds. -/
def RdB (W : World) (r : Nat) (Ap : Option Addr) (n cp k m : Nat) (xs : List (Nat)) : Nat → Array Bool → Value → World → Prop
  | 0, l, v, w => v = .pointer (some ⟨r, 0, none⟩)
  | 1, l, v, w => l.getD 8 false = true ∨ (∃ g, v = .slice (some ⟨g, 0, none⟩) 0 0 ∧ w.heap[g]? = some (.cells #[] 3 (0, 0)) ∧ W.heap.size ≤ g)
  | 2, l, v, w => v = .pointer (some ⟨r, 0, none⟩)
  | 3, l, v, w => v = .pointer (some ⟨r, 0, none⟩)
  | 4, l, v, w => v = .pointer (some ⟨r, 1, none⟩)
  | 5, l, v, w => v = .slice Ap n cp
  | 6, l, v, w => v = .int .i64 (k : Int)
  | 7, l, v, w => v = .slice Ap k cp
  | 8, l, v, w => l.getD 16 false = true ∨ (w.ownsRow W.heap.size 3 1 v (xs.take k).length ((xs.take k).map nb))
  | 9, l, v, w => v = .pointer (some ⟨r, 0, none⟩)
  | 10, l, v, w => v = .pointer (some ⟨r, 0, none⟩)
  | 11, l, v, w => v = .pointer (some ⟨r, 1, none⟩)
  | 12, l, v, w => v = .slice Ap n cp
  | 13, l, v, w => v = .int .i64 (k : Int)
  | 14, l, v, w => v = .int .i64 (m : Int)
  | 15, l, v, w => v = .slice (if cp = m then Ap else Ap.map fun x => x.add m) (n - m) (cp - m)
  | 16, l, v, w => w.ownsRow W.heap.size 3 1 v (xs.take k ++ xs.drop m).length ((xs.take k ++ xs.drop m).map nb)
  | 17, l, v, w => v = .pointer (some ⟨r, 0, none⟩)
  | 18, l, v, w => v = .pointer (some ⟨r, 1, none⟩)
  | _, _, _, _ => True
def RdB_w : Nat → Bool
  | 8 => true
  | 16 => true
  | _ => false
theorem RdB_st (W : World) (r : Nat) (Ap : Option Addr) (n cp k m : Nat) (xs : List (Nat)) : ∀ j i l v w w', RdB_w i = false → RdB W r Ap n cp k m xs j l v w → Below w.heap.size w w' → RdB W r Ap n cp k m xs j (l.setIfInBounds i true) v w'
  | 0, i, l, v, w, w', _, h, hb => h
  | 1, i, l, v, w, w', _, h, hb => h.elim (fun h => .inl (getD_mono h)) fun h => .inr (h.elim fun g h => ⟨g, h.1, below_heap hb h.2.1, h.2.2⟩)
  | 2, i, l, v, w, w', _, h, hb => h
  | 3, i, l, v, w, w', _, h, hb => h
  | 4, i, l, v, w, w', _, h, hb => h
  | 5, i, l, v, w, w', _, h, hb => h
  | 6, i, l, v, w, w', _, h, hb => h
  | 7, i, l, v, w, w', _, h, hb => h
  | 8, i, l, v, w, w', _, h, hb => h.elim (fun h => .inl (getD_mono h)) fun h => .inr (own_below h hb)
  | 9, i, l, v, w, w', _, h, hb => h
  | 10, i, l, v, w, w', _, h, hb => h
  | 11, i, l, v, w, w', _, h, hb => h
  | 12, i, l, v, w, w', _, h, hb => h
  | 13, i, l, v, w, w', _, h, hb => h
  | 14, i, l, v, w, w', _, h, hb => h
  | 15, i, l, v, w, w', _, h, hb => h
  | 16, i, l, v, w, w', _, h, hb => own_below h hb
  | 17, i, l, v, w, w', _, h, hb => h
  | 18, i, l, v, w, w', _, h, hb => h
  | _ + 19, _, _, _, _, _, _, _, _ => trivial
end

set_option maxRecDepth 100000 in
set_option maxHeartbeats 8000000 in
theorem rset_new {r : Nat} {vp vb : Value} {S : SS} (p : ByteArray) (N : Nat) (w : World) (h : RIsS w r vp vb S) (hp : p.size ≤ 1000000000) (hN : N ≤ 4096) (hv : validB p.data.toList = true) (ho : hasL S.l p.data.toList = false) (hl : S.l.length < 100) :
    Calls Tryd.prog 14 #[.pointer (some ⟨r, 0, none⟩), .string p, .int .i64 (N : Int)] w fun e w' => e = .returned (.int .i64 0) ∧ (∃ vp vb, RIsS w' r vp vb ⟨setL S.l p.data.toList N, S.lp, S.lb, S.told⟩) ∧ w.grownBy w' (some r) := by
  have HV := Aside0.mk (rvalid_calls p w hp)
  rw [hv] at HV
  have HF := Aside0.mk (fun (W : World) (hW : RIsS W r vp vb S) => rfind_calls p W hW hp)
  rw [ho] at HF
  obtain ⟨k, hk0⟩ : ∃ k, k = posL S.l p.data.toList := ⟨_, rfl⟩
  have hk : k ≤ S.l.length := by rw [hk0]; exact posL_le _ _
  rw [← hk0] at HF
  have HSET : Aside0 (setL S.l p.data.toList N = S.l.take k ++ (p.data.toList, N) :: S.l.drop k) := ⟨by
    rw [hk0]
    refine setL_new fun hi he => ?_
    have := posL_at h.good.sorted hi
    rw [ho, he, beq_self_eq_true] at this
    cases this⟩
  have HGS := Aside0.mk (good_set h.good hv hN)
  have HLS := Aside0.mk (setL_length h.good p.data.toList N)
  rw [ho] at HLS
  obtain ⟨Ap, cp, Ab, cb, rfl, rfl, hcp, hcb⟩ := h.shape
  have H := Aside0.mk h
  obtain ⟨n, hn⟩ : ∃ n, n = S.l.length := ⟨_, rfl⟩
  have d1 : decide ((N : Int) < 0) = false := decide_eq_false (by omega)
  have d2 : decide (4096 < (N : Int)) = false := decide_eq_false (by omega)
  have d3 : decide (100 ≤ (n : Int)) = false := decide_eq_false (by omega)
  have hrl := blk_lt h.box
  obtain ⟨xs, hxs⟩ : ∃ xs, xs = keysL S.l := ⟨_, rfl⟩
  obtain ⟨ys, hys⟩ : ∃ ys, ys = S.l.map (·.2) := ⟨_, rfl⟩
  have hxl : xs.length = n := by rw [hxs, hn]; unfold keysL; rw [List.length_map]
  have hyl : ys.length = n := by rw [hys, hn, List.length_map]
  rw [← hn] at HF H hcp hcb hk hl
  have HKX : Aside0 (xs.take k ++ [p.data.toList] ++ xs.drop k = keysL (setL S.l p.data.toList N)) := ⟨by
    rw [HSET.out, hxs]; unfold keysL; rw [List.map_append, List.map_cons, List.map_take, List.map_drop]; simp⟩
  have HKY : Aside0 (ys.take k ++ [N] ++ ys.drop k = (setL S.l p.data.toList N).map (·.2)) := ⟨by
    rw [HSET.out, hys, List.map_append, List.map_cons, List.map_take, List.map_drop]; simp⟩
  have hpstr : str p.data.toList = p := rfl
  have hkn1 : k ≤ cp := by omega
  have hkn2 : k ≤ cb := by omega
  have HXL := Aside0.mk hxl
  have HYL := Aside0.mk hyl
  have HNL := Aside0.mk hn
  have HXS := Aside0.mk hxs
  have HYS := Aside0.mk hys
  have hfit : xs.length ≤ 200 := by omega
  have hfity : ys.length ≤ 200 := by omega
  have hkx : k ≤ xs.length := by omega
  have hky : k ≤ ys.length := by omega
  have hr1 : n < 100 := hl
  clear h hk0 hv ho hxs hys hxl hyl hn
  go_enter Tryd.func14, Tryd.ntmps14
  go_wp2_with fail
  refine HV.out.mono ?_
  rintro e w0 ⟨rfl, hb0⟩
  have HB0 := Aside0.mk hb0
  clear hb0
  go_wp2_with fail
  refine (HF.out w0 (H.out.below HB0.out)).mono ?_
  rintro e w1 ⟨rfl, hb1⟩
  have HB1 := Aside0.mk (below_step HB0.out hb1)
  have h1 := H.out.below HB1.out
  have HBOX := Aside0.mk h1.box
  have hrW : r < w1.heap.size := blk_lt h1.box
  have cc := (blk h1.box).1
  have c0 := cc 0
  simp only [List.getElem?_toArray, List.getElem?_cons_zero] at c0
  have HSL : Aside0 (Sl tv 9 w1 0 (.slice Ap n cp) xs) := ⟨by rw [HXS.out]; exact Sl.of_own h1.paths⟩
  have H1 := Aside0.mk h1
  clear hb1 h1 cc
  go_wp2_with fail
  refine wp_region_flowL (fun _ w => Below w1.heap.size w1 w) 21 RsP_w (RsP w1 r Ap n cp k xs p) [49, 50, 51, 52, 53, 54, 55, 56, 57, 58, 59, 60, 61, 62, 63, 64, 65, 66, 67, 68, 69] (by kernel_rfl) (by kernel_rfl) (by kernel_rfl) ((Below.refl _ _).drew) (fun _ _ _ _ _ h hb => below_step h hb) (RsP_st _ _ _ _ _ _ _ _) ?_ ?_ (.inr (by kernel_rfl)) ?_
  · intro i o hi hS ho l aa w' F
    have hlow := F.low
    match i, ho with
    | 0, ho =>
      obtain rfl := Option.some.inj ho
      refine flow_plain rfl rfl ?_
      have f0 : aa.tmps.getD 0 undef = .pointer (some ⟨r, 0, none⟩) := F.out 0 (by kernel_rfl) _ rfl
      exact op_move (.tmp 0) rfl ⟨_, rfl, Below.refl _ _, f0⟩
    | 1, ho =>
      obtain rfl := Option.some.inj ho
      refine flow_plain rfl rfl ?_
      exact op_val (.slice (some ⟨w'.heap.size, 0, none⟩) 0 0) (w'.alloc (.cells #[] 9)) (by simp [execOp, Act.eval, go_sem]) ⟨_, rfl, (Below.refl _ _).alloc (Nat.le_refl _) _, .inr ⟨_, rfl, heap_new rfl, hlow.size⟩⟩
    | 2, ho =>
      obtain rfl := Option.some.inj ho
      refine flow_plain rfl rfl ?_
      have f0 : aa.tmps.getD 0 undef = .pointer (some ⟨r, 0, none⟩) := F.out 0 (by kernel_rfl) _ rfl
      exact op_move (.tmp 0) rfl ⟨_, rfl, Below.refl _ _, f0⟩
    | 3, ho =>
      obtain rfl := Option.some.inj ho
      refine flow_plain rfl rfl ?_
      have f51 : (aa.tmps.getD 51 undef) = .pointer (some ⟨r, 0, none⟩) := F.of 2 (by kernel_rfl)
      refine op_pure (.pointer (some ⟨r, 0, none⟩)) ?_ ⟨_, rfl, Below.refl _ _, rfl⟩
      simp [execOp, Act.eval, go_sem, f51]
    | 4, ho =>
      obtain rfl := Option.some.inj ho
      refine flow_plain rfl rfl ?_
      have f52 : (aa.tmps.getD 52 undef) = .pointer (some ⟨r, 0, none⟩) := F.of 3 (by kernel_rfl)
      refine op_pure (.pointer (some ⟨r, 0, none⟩)) ?_ ⟨_, rfl, Below.refl _ _, rfl⟩
      simp [execOp, Act.eval, go_sem, f52]
    | 5, ho =>
      obtain rfl := Option.some.inj ho
      refine flow_plain rfl rfl ?_
      have f53 : (aa.tmps.getD 53 undef) = .pointer (some ⟨r, 0, none⟩) := F.of 4 (by kernel_rfl)
      have hc := (blk (below_heap hlow HBOX.out)).1
      refine op_pure (.slice Ap n cp) ?_ ⟨_, rfl, Below.refl _ _, rfl⟩
      simp [execOp, Act.eval, go_sem, f53, hc]
    | 6, ho =>
      obtain rfl := Option.some.inj ho
      refine flow_plain rfl rfl ?_
      have f7 : aa.tmps.getD 7 undef = .int .i64 (k : Int) := F.out 7 (by kernel_rfl) _ rfl
      exact op_move (.tmp 7) rfl ⟨_, rfl, Below.refl _ _, f7⟩
    | 7, ho =>
      obtain rfl := Option.some.inj ho
      refine flow_plain rfl rfl ?_
      have f54 : (aa.tmps.getD 54 undef) = .slice Ap n cp := F.of 5 (by kernel_rfl)
      have f55 : (aa.tmps.getD 55 undef) = .int .i64 (k : Int) := F.of 6 (by kernel_rfl)
      refine op_pure (.slice Ap k cp) ?_ ⟨_, rfl, Below.refl _ _, rfl⟩
      simp [execOp, Act.eval, go_sem, f54, f55, hkn1, hk]
    | 8, ho => exact Bool.noConfusion (hS.symm.trans (show _ = true by rfl))
    | 9, ho =>
      obtain rfl := Option.some.inj ho
      refine flow_plain rfl rfl ?_
      have f1 : aa.tmps.getD 1 undef = .string p := F.out 1 (by kernel_rfl) _ rfl
      exact op_move (.tmp 1) rfl ⟨_, rfl, Below.refl _ _, f1⟩
    | 10, ho =>
      obtain rfl := Option.some.inj ho
      refine flow_plain rfl rfl ?_
      have f58 : (aa.tmps.getD 58 undef) = .string p := F.of 9 (by kernel_rfl)
      have f58' := f58
      rw [Array.getD_eq_getD_getElem?] at f58'
      exact op_val (.slice (some ⟨w'.heap.size, 0, none⟩) 1 1) (w'.alloc (.cells #[.string p] 9)) (by simp [execOp, Act.eval, go_sem, f58, f58']) ⟨_, rfl, (Below.refl _ _).alloc (Nat.le_refl _) _, .inr ⟨_, rfl, heap_new rfl⟩⟩
    | 11, ho => exact Bool.noConfusion (hS.symm.trans (show _ = true by rfl))
    | 12, ho =>
      obtain rfl := Option.some.inj ho
      refine flow_plain rfl rfl ?_
      have f0 : aa.tmps.getD 0 undef = .pointer (some ⟨r, 0, none⟩) := F.out 0 (by kernel_rfl) _ rfl
      exact op_move (.tmp 0) rfl ⟨_, rfl, Below.refl _ _, f0⟩
    | 13, ho =>
      obtain rfl := Option.some.inj ho
      refine flow_plain rfl rfl ?_
      have f61 : (aa.tmps.getD 61 undef) = .pointer (some ⟨r, 0, none⟩) := F.of 12 (by kernel_rfl)
      refine op_pure (.pointer (some ⟨r, 0, none⟩)) ?_ ⟨_, rfl, Below.refl _ _, rfl⟩
      simp [execOp, Act.eval, go_sem, f61]
    | 14, ho =>
      obtain rfl := Option.some.inj ho
      refine flow_plain rfl rfl ?_
      have f62 : (aa.tmps.getD 62 undef) = .pointer (some ⟨r, 0, none⟩) := F.of 13 (by kernel_rfl)
      refine op_pure (.pointer (some ⟨r, 0, none⟩)) ?_ ⟨_, rfl, Below.refl _ _, rfl⟩
      simp [execOp, Act.eval, go_sem, f62]
    | 15, ho =>
      obtain rfl := Option.some.inj ho
      refine flow_plain rfl rfl ?_
      have f63 : (aa.tmps.getD 63 undef) = .pointer (some ⟨r, 0, none⟩) := F.of 14 (by kernel_rfl)
      have hc := (blk (below_heap hlow HBOX.out)).1
      refine op_pure (.slice Ap n cp) ?_ ⟨_, rfl, Below.refl _ _, rfl⟩
      simp [execOp, Act.eval, go_sem, f63, hc]
    | 16, ho =>
      obtain rfl := Option.some.inj ho
      refine flow_plain rfl rfl ?_
      have f7 : aa.tmps.getD 7 undef = .int .i64 (k : Int) := F.out 7 (by kernel_rfl) _ rfl
      exact op_move (.tmp 7) rfl ⟨_, rfl, Below.refl _ _, f7⟩
    | 17, ho =>
      obtain rfl := Option.some.inj ho
      refine flow_plain rfl rfl ?_
      have f64 : (aa.tmps.getD 64 undef) = .slice Ap n cp := F.of 15 (by kernel_rfl)
      have f65 : (aa.tmps.getD 65 undef) = .int .i64 (k : Int) := F.of 16 (by kernel_rfl)
      refine op_pure (.slice (if cp = k then Ap else Ap.map fun x => x.add k) (n - k) (cp - k)) ?_ ⟨_, rfl, Below.refl _ _, rfl⟩
      simp [execOp, Act.eval, go_sem, f64, f65, hkn1, hk]
    | 18, ho => exact Bool.noConfusion (hS.symm.trans (show _ = true by rfl))
    | 19, ho =>
      obtain rfl := Option.some.inj ho
      refine flow_plain rfl rfl ?_
      have f49 : (aa.tmps.getD 49 undef) = .pointer (some ⟨r, 0, none⟩) := F.of 0 (by kernel_rfl)
      refine op_pure (.pointer (some ⟨r, 0, none⟩)) ?_ ⟨_, rfl, Below.refl _ _, rfl⟩
      simp [execOp, Act.eval, go_sem, f49]
    | 20, ho =>
      obtain rfl := Option.some.inj ho
      refine flow_plain rfl rfl ?_
      have f68 : (aa.tmps.getD 68 undef) = .pointer (some ⟨r, 0, none⟩) := F.of 19 (by kernel_rfl)
      refine op_pure (.pointer (some ⟨r, 0, none⟩)) ?_ ⟨_, rfl, Below.refl _ _, rfl⟩
      simp [execOp, Act.eval, go_sem, f68]
    | j + 21, ho => omega
  · intro i o hi hS ho l aa w' F
    have hlow := F.low
    match i, ho with
    | 0, ho => exact Bool.noConfusion (hS.symm.trans (show _ = false by rfl))
    | 1, ho => exact Bool.noConfusion (hS.symm.trans (show _ = false by rfl))
    | 2, ho => exact Bool.noConfusion (hS.symm.trans (show _ = false by rfl))
    | 3, ho => exact Bool.noConfusion (hS.symm.trans (show _ = false by rfl))
    | 4, ho => exact Bool.noConfusion (hS.symm.trans (show _ = false by rfl))
    | 5, ho => exact Bool.noConfusion (hS.symm.trans (show _ = false by rfl))
    | 6, ho => exact Bool.noConfusion (hS.symm.trans (show _ = false by rfl))
    | 7, ho => exact Bool.noConfusion (hS.symm.trans (show _ = false by rfl))
    | 8, ho =>
      obtain rfl := Option.some.inj ho
      refine flow_plain rfl rfl ?_
      have f50 : ∃ g, (aa.tmps.getD 50 undef) = .slice (some ⟨g, 0, none⟩) 0 0 ∧ w'.heap[g]? = some (.cells #[] 9 (0, 0)) ∧ w1.heap.size ≤ g := due_not (F.of 1 (by kernel_rfl)) F.due
      have f56 : (aa.tmps.getD 56 undef) = .slice Ap k cp := F.of 7 (by kernel_rfl)
      obtain ⟨g, e50, h50, hg50⟩ := f50
      refine op_append_row tv (fun _ => rfl) (.tmp 50) (.tmp 56) 26 rfl w1.heap.size 9 9 0 (.string ⟨#[]⟩) 16 Tryd.underlying26 info_str rfl (by decide) _ [] (xs.take k) _ e50 f56 (own_zero h50 hg50) ((HSL.out.upto k hkx).below hlow) (by have := hfit; simp; omega) (Nat.le_trans (by simp) hlow.size) ?_
      intro v' w2 ho2 hg2
      refine ⟨_, rfl, below_grown hlow hlow.size hg2 (fun q hq => by cases hq; exact hg50), .inr ho2, ?_⟩
      intro j hj hji hlj h
      match j, h with
      | 0, h => exact h
      | 1, h => exact .inl (getD_self (by rw [F.sz]; decide))
      | 2, h => exact h
      | 3, h => exact h
      | 4, h => exact h
      | 5, h => exact h
      | 6, h => exact h
      | 7, h => exact h
      | 8, h => exact absurd rfl hji
      | 9, h => exact h
      | 10, h => exact h.elim (fun h => .inl (getD_mono h)) fun ⟨g', e1, h1⟩ => .inr ⟨g', e1, lit_keep h1 h50 hg2⟩
      | 11, h => exact absurd (F.cl.reach 22 _ _ hlj (by kernel_rfl)) (by rw [F.due]; decide)
      | 12, h => exact h
      | 13, h => exact h
      | 14, h => exact h
      | 15, h => exact h
      | 16, h => exact h
      | 17, h => exact h
      | 18, h => exact absurd (F.cl.reach 22 _ _ hlj (by kernel_rfl)) (by rw [F.due]; decide)
      | 19, h => exact h
      | 20, h => exact h
      | j + 21, h => omega
    | 9, ho => exact Bool.noConfusion (hS.symm.trans (show _ = false by rfl))
    | 10, ho => exact Bool.noConfusion (hS.symm.trans (show _ = false by rfl))
    | 11, ho =>
      obtain rfl := Option.some.inj ho
      refine flow_plain rfl rfl ?_
      have f57 : w'.ownsRow w1.heap.size 9 1 (aa.tmps.getD 57 undef) (xs.take k).length ((xs.take k).map tv) := due_not (F.of 8 (by kernel_rfl)) F.due
      have f59 : ∃ g, (aa.tmps.getD 59 undef) = .slice (some ⟨g, 0, none⟩) 1 1 ∧ w'.heap[g]? = some (.cells #[.string p] 9 (0, 0)) := due_not (F.of 10 (by kernel_rfl)) F.due
      obtain ⟨g, e59, h59⟩ := f59
      refine op_append_row tv (fun _ => rfl) (.tmp 57) (.tmp 59) 26 rfl w1.heap.size 9 9 0 (.string ⟨#[]⟩) 16 Tryd.underlying26 info_str rfl (by decide) _ (xs.take k) [p.data.toList] _ rfl e59 f57 (Sl.at h59 (by simp [tv, hpstr]) rfl (by decide) (by decide)) (by have := hfit; simp; omega) hlow.size ?_
      intro v' w2 ho2 hg2
      refine ⟨_, rfl, below_grown hlow hlow.size hg2 (fun q hq => (own_row f57 q hq).1), .inr ho2, ?_⟩
      intro j hj hji hlj h
      match j, h with
      | 0, h => exact h
      | 1, h => exact h.elim (fun h => .inl (getD_mono h)) fun h => .inl (getD_mono (F.did 8 (by kernel_rfl)))
      | 2, h => exact h
      | 3, h => exact h
      | 4, h => exact h
      | 5, h => exact h
      | 6, h => exact h
      | 7, h => exact h
      | 8, h => exact .inl (getD_self (by rw [F.sz]; decide))
      | 9, h => exact h
      | 10, h => exact .inl (getD_self (by rw [F.sz]; decide))
      | 11, h => exact absurd rfl hji
      | 12, h => exact h
      | 13, h => exact h
      | 14, h => exact h
      | 15, h => exact h
      | 16, h => exact h
      | 17, h => exact h
      | 18, h => exact absurd (F.cl.reach 22 _ _ hlj (by kernel_rfl)) (by rw [F.due]; decide)
      | 19, h => exact h
      | 20, h => exact h
      | j + 21, h => omega
    | 12, ho => exact Bool.noConfusion (hS.symm.trans (show _ = false by rfl))
    | 13, ho => exact Bool.noConfusion (hS.symm.trans (show _ = false by rfl))
    | 14, ho => exact Bool.noConfusion (hS.symm.trans (show _ = false by rfl))
    | 15, ho => exact Bool.noConfusion (hS.symm.trans (show _ = false by rfl))
    | 16, ho => exact Bool.noConfusion (hS.symm.trans (show _ = false by rfl))
    | 17, ho => exact Bool.noConfusion (hS.symm.trans (show _ = false by rfl))
    | 18, ho =>
      obtain rfl := Option.some.inj ho
      refine flow_plain rfl rfl ?_
      have f60 : w'.ownsRow w1.heap.size 9 1 (aa.tmps.getD 60 undef) (xs.take k ++ [p.data.toList]).length ((xs.take k ++ [p.data.toList]).map tv) := due_not (F.of 11 (by kernel_rfl)) F.due
      have f66 : (aa.tmps.getD 66 undef) = .slice (if cp = k then Ap else Ap.map fun x => x.add k) (n - k) (cp - k) := F.of 17 (by kernel_rfl)
      refine op_append_row tv (fun _ => rfl) (.tmp 60) (.tmp 66) 26 rfl w1.heap.size 9 9 0 (.string ⟨#[]⟩) 16 Tryd.underlying26 info_str rfl (by decide) _ (xs.take k ++ [p.data.toList]) (xs.drop k) _ rfl f66 f60 ((HSL.out.low k hkx).below hlow) (by have := hfit; simp; omega) hlow.size ?_
      intro v' w2 ho2 hg2
      refine ⟨_, rfl, below_grown hlow hlow.size hg2 (fun q hq => (own_row f60 q hq).1), ho2, ?_⟩
      intro j hj hji hlj h
      match j, h with
      | 0, h => exact h
      | 1, h => exact h.elim (fun h => .inl (getD_mono h)) fun h => .inl (getD_mono (F.did 8 (by kernel_rfl)))
      | 2, h => exact h
      | 3, h => exact h
      | 4, h => exact h
      | 5, h => exact h
      | 6, h => exact h
      | 7, h => exact h
      | 8, h => exact h.elim (fun h => .inl (getD_mono h)) fun h => .inl (getD_mono (F.did 11 (by kernel_rfl)))
      | 9, h => exact h
      | 10, h => exact h.elim (fun h => .inl (getD_mono h)) fun h => .inl (getD_mono (F.did 11 (by kernel_rfl)))
      | 11, h => exact .inl (getD_self (by rw [F.sz]; decide))
      | 12, h => exact h
      | 13, h => exact h
      | 14, h => exact h
      | 15, h => exact h
      | 16, h => exact h
      | 17, h => exact h
      | 18, h => exact absurd rfl hji
      | 19, h => exact h
      | 20, h => exact h
      | j + 21, h => omega
    | 19, ho => exact Bool.noConfusion (hS.symm.trans (show _ = false by rfl))
    | 20, ho => exact Bool.noConfusion (hS.symm.trans (show _ = false by rfl))
    | j + 21, ho => omega
  intro vs l w' hall hlow hvs
  refine ⟨fun hx => absurd hx (by decide), fun hx => ?_⟩
  clear hx
  have ha : vs 20 = .pointer (some ⟨r, 0, none⟩) := hvs 20 (by decide)
  have ho : w'.ownsRow w1.heap.size 9 1 (vs 18) (xs.take k ++ [p.data.toList] ++ xs.drop k).length ((xs.take k ++ [p.data.toList] ++ xs.drop k).map tv) := hvs 18 (by decide)
  obtain ⟨AN, cN, hv, _, _⟩ := own_sh2 ho
  rw [hv] at ho
  have hbx := below_heap hlow HBOX.out
  obtain ⟨hc, hf⟩ := blk hbx
  refine flow_plain rfl rfl ?_
  simp only [putL, Act.put, List.setIfInBounds_toArray, List.set_cons_zero, List.set_cons_succ, Nat.reduceAdd]
  rw [hv, ha]
  refine op_skip0 (w'.setCell ⟨r, 0, none⟩ (.slice AN (xs.take k ++ [p.data.toList] ++ xs.drop k).length cN)) (by simp [execOp, Act.eval, go_sem, hc, hf]) rfl ?_
  have HN := Aside0.mk (And.intro (own_put hrW ho 0 (.slice AN (xs.take k ++ [p.data.toList] ++ xs.drop k).length cN)) (And.intro (box_put hbx 0 (.slice AN (xs.take k ++ [p.data.toList] ++ xs.drop k).length cN)) (grw_then (grown_of_below (some r) hlow) (grw_set w' r 0 (.slice AN (xs.take k ++ [p.data.toList] ++ xs.drop k).length cN)))))
  clear hvs hall hlow ha hv hbx hc hf ho
  obtain ⟨w2, hwN⟩ : ∃ w2, w2 = w'.setCell ⟨r, 0, none⟩ (.slice AN (xs.take k ++ [p.data.toList] ++ xs.drop k).length cN) := ⟨_, rfl⟩
  rw [← hwN] at HN ⊢
  obtain ⟨v2, hvN⟩ : ∃ v2, v2 = Value.slice AN (xs.take k ++ [p.data.toList] ++ xs.drop k).length cN := ⟨_, rfl⟩
  rw [← hvN] at HN ⊢
  clear hwN hvN
  have HBOX2 : Aside0 (w2.heap[r]? = some (.cells #[v2, .slice Ab n cb, .string (str S.lp), .int .i64 (S.lb : Int), .bool S.told] 43 (0, 0))) := ⟨HN.out.2.1⟩
  have hrW2 : r < w2.heap.size := blk_lt HBOX2.out
  have c1 := (blk HBOX2.out).1 1
  simp only [List.getElem?_toArray, List.getElem?_cons_zero, List.getElem?_cons_succ] at c1
  have HOB2 := Aside0.mk (own_box H1.out.blocks HN.out.2.2)
  have HSL2 : Aside0 (Sl nb 3 w2 0 (.slice Ab n cb) ys) := ⟨by rw [HYS.out]; exact Sl.of_own HOB2.out⟩
  go_wp2_with fail
  refine wp_region_flowL (fun _ w => Below w2.heap.size w2 w) 21 RsB_w (RsB w2 r Ab n cb k ys N) [70, 71, 72, 73, 74, 75, 76, 77, 78, 79, 80, 81, 82, 83, 84, 85, 86, 87, 88, 89, 90] (by kernel_rfl) (by kernel_rfl) (by kernel_rfl) ((Below.refl _ _).drew) (fun _ _ _ _ _ h hb => below_step h hb) (RsB_st _ _ _ _ _ _ _ _) ?_ ?_ (.inr (by kernel_rfl)) ?_
  · intro i o hi hS ho l aa w' F
    have hlow := F.low
    match i, ho with
    | 0, ho =>
      obtain rfl := Option.some.inj ho
      refine flow_plain rfl rfl ?_
      have f0 : aa.tmps.getD 0 undef = .pointer (some ⟨r, 0, none⟩) := F.out 0 (by kernel_rfl) _ rfl
      exact op_move (.tmp 0) rfl ⟨_, rfl, Below.refl _ _, f0⟩
    | 1, ho =>
      obtain rfl := Option.some.inj ho
      refine flow_plain rfl rfl ?_
      exact op_val (.slice (some ⟨w'.heap.size, 0, none⟩) 0 0) (w'.alloc (.cells #[] 3)) (by simp [execOp, Act.eval, go_sem]) ⟨_, rfl, (Below.refl _ _).alloc (Nat.le_refl _) _, .inr ⟨_, rfl, heap_new rfl, hlow.size⟩⟩
    | 2, ho =>
      obtain rfl := Option.some.inj ho
      refine flow_plain rfl rfl ?_
      have f0 : aa.tmps.getD 0 undef = .pointer (some ⟨r, 0, none⟩) := F.out 0 (by kernel_rfl) _ rfl
      exact op_move (.tmp 0) rfl ⟨_, rfl, Below.refl _ _, f0⟩
    | 3, ho =>
      obtain rfl := Option.some.inj ho
      refine flow_plain rfl rfl ?_
      have f72 : (aa.tmps.getD 72 undef) = .pointer (some ⟨r, 0, none⟩) := F.of 2 (by kernel_rfl)
      refine op_pure (.pointer (some ⟨r, 0, none⟩)) ?_ ⟨_, rfl, Below.refl _ _, rfl⟩
      simp [execOp, Act.eval, go_sem, f72]
    | 4, ho =>
      obtain rfl := Option.some.inj ho
      refine flow_plain rfl rfl ?_
      have f73 : (aa.tmps.getD 73 undef) = .pointer (some ⟨r, 0, none⟩) := F.of 3 (by kernel_rfl)
      refine op_pure (.pointer (some ⟨r, 1, none⟩)) ?_ ⟨_, rfl, Below.refl _ _, rfl⟩
      simp [execOp, Act.eval, go_sem, f73]
    | 5, ho =>
      obtain rfl := Option.some.inj ho
      refine flow_plain rfl rfl ?_
      have f74 : (aa.tmps.getD 74 undef) = .pointer (some ⟨r, 1, none⟩) := F.of 4 (by kernel_rfl)
      have hc := (blk (below_heap hlow HBOX2.out)).1
      refine op_pure (.slice Ab n cb) ?_ ⟨_, rfl, Below.refl _ _, rfl⟩
      simp [execOp, Act.eval, go_sem, f74, hc]
    | 6, ho =>
      obtain rfl := Option.some.inj ho
      refine flow_plain rfl rfl ?_
      have f7 : aa.tmps.getD 7 undef = .int .i64 (k : Int) := F.out 7 (by kernel_rfl) _ rfl
      exact op_move (.tmp 7) rfl ⟨_, rfl, Below.refl _ _, f7⟩
    | 7, ho =>
      obtain rfl := Option.some.inj ho
      refine flow_plain rfl rfl ?_
      have f75 : (aa.tmps.getD 75 undef) = .slice Ab n cb := F.of 5 (by kernel_rfl)
      have f76 : (aa.tmps.getD 76 undef) = .int .i64 (k : Int) := F.of 6 (by kernel_rfl)
      refine op_pure (.slice Ab k cb) ?_ ⟨_, rfl, Below.refl _ _, rfl⟩
      simp [execOp, Act.eval, go_sem, f75, f76, hkn2, hk]
    | 8, ho => exact Bool.noConfusion (hS.symm.trans (show _ = true by rfl))
    | 9, ho =>
      obtain rfl := Option.some.inj ho
      refine flow_plain rfl rfl ?_
      have f2 : aa.tmps.getD 2 undef = .int .i64 (N : Int) := F.out 2 (by kernel_rfl) _ rfl
      exact op_move (.tmp 2) rfl ⟨_, rfl, Below.refl _ _, f2⟩
    | 10, ho =>
      obtain rfl := Option.some.inj ho
      refine flow_plain rfl rfl ?_
      have f79 : (aa.tmps.getD 79 undef) = .int .i64 (N : Int) := F.of 9 (by kernel_rfl)
      have f79' := f79
      rw [Array.getD_eq_getD_getElem?] at f79'
      exact op_val (.slice (some ⟨w'.heap.size, 0, none⟩) 1 1) (w'.alloc (.cells #[.int .i64 (N : Int)] 3)) (by simp [execOp, Act.eval, go_sem, f79, f79']) ⟨_, rfl, (Below.refl _ _).alloc (Nat.le_refl _) _, .inr ⟨_, rfl, heap_new rfl⟩⟩
    | 11, ho => exact Bool.noConfusion (hS.symm.trans (show _ = true by rfl))
    | 12, ho =>
      obtain rfl := Option.some.inj ho
      refine flow_plain rfl rfl ?_
      have f0 : aa.tmps.getD 0 undef = .pointer (some ⟨r, 0, none⟩) := F.out 0 (by kernel_rfl) _ rfl
      exact op_move (.tmp 0) rfl ⟨_, rfl, Below.refl _ _, f0⟩
    | 13, ho =>
      obtain rfl := Option.some.inj ho
      refine flow_plain rfl rfl ?_
      have f82 : (aa.tmps.getD 82 undef) = .pointer (some ⟨r, 0, none⟩) := F.of 12 (by kernel_rfl)
      refine op_pure (.pointer (some ⟨r, 0, none⟩)) ?_ ⟨_, rfl, Below.refl _ _, rfl⟩
      simp [execOp, Act.eval, go_sem, f82]
    | 14, ho =>
      obtain rfl := Option.some.inj ho
      refine flow_plain rfl rfl ?_
      have f83 : (aa.tmps.getD 83 undef) = .pointer (some ⟨r, 0, none⟩) := F.of 13 (by kernel_rfl)
      refine op_pure (.pointer (some ⟨r, 1, none⟩)) ?_ ⟨_, rfl, Below.refl _ _, rfl⟩
      simp [execOp, Act.eval, go_sem, f83]
    | 15, ho =>
      obtain rfl := Option.some.inj ho
      refine flow_plain rfl rfl ?_
      have f84 : (aa.tmps.getD 84 undef) = .pointer (some ⟨r, 1, none⟩) := F.of 14 (by kernel_rfl)
      have hc := (blk (below_heap hlow HBOX2.out)).1
      refine op_pure (.slice Ab n cb) ?_ ⟨_, rfl, Below.refl _ _, rfl⟩
      simp [execOp, Act.eval, go_sem, f84, hc]
    | 16, ho =>
      obtain rfl := Option.some.inj ho
      refine flow_plain rfl rfl ?_
      have f7 : aa.tmps.getD 7 undef = .int .i64 (k : Int) := F.out 7 (by kernel_rfl) _ rfl
      exact op_move (.tmp 7) rfl ⟨_, rfl, Below.refl _ _, f7⟩
    | 17, ho =>
      obtain rfl := Option.some.inj ho
      refine flow_plain rfl rfl ?_
      have f85 : (aa.tmps.getD 85 undef) = .slice Ab n cb := F.of 15 (by kernel_rfl)
      have f86 : (aa.tmps.getD 86 undef) = .int .i64 (k : Int) := F.of 16 (by kernel_rfl)
      refine op_pure (.slice (if cb = k then Ab else Ab.map fun x => x.add k) (n - k) (cb - k)) ?_ ⟨_, rfl, Below.refl _ _, rfl⟩
      simp [execOp, Act.eval, go_sem, f85, f86, hkn2, hk]
    | 18, ho => exact Bool.noConfusion (hS.symm.trans (show _ = true by rfl))
    | 19, ho =>
      obtain rfl := Option.some.inj ho
      refine flow_plain rfl rfl ?_
      have f70 : (aa.tmps.getD 70 undef) = .pointer (some ⟨r, 0, none⟩) := F.of 0 (by kernel_rfl)
      refine op_pure (.pointer (some ⟨r, 0, none⟩)) ?_ ⟨_, rfl, Below.refl _ _, rfl⟩
      simp [execOp, Act.eval, go_sem, f70]
    | 20, ho =>
      obtain rfl := Option.some.inj ho
      refine flow_plain rfl rfl ?_
      have f89 : (aa.tmps.getD 89 undef) = .pointer (some ⟨r, 0, none⟩) := F.of 19 (by kernel_rfl)
      refine op_pure (.pointer (some ⟨r, 1, none⟩)) ?_ ⟨_, rfl, Below.refl _ _, rfl⟩
      simp [execOp, Act.eval, go_sem, f89]
    | j + 21, ho => omega
  · intro i o hi hS ho l aa w' F
    have hlow := F.low
    match i, ho with
    | 0, ho => exact Bool.noConfusion (hS.symm.trans (show _ = false by rfl))
    | 1, ho => exact Bool.noConfusion (hS.symm.trans (show _ = false by rfl))
    | 2, ho => exact Bool.noConfusion (hS.symm.trans (show _ = false by rfl))
    | 3, ho => exact Bool.noConfusion (hS.symm.trans (show _ = false by rfl))
    | 4, ho => exact Bool.noConfusion (hS.symm.trans (show _ = false by rfl))
    | 5, ho => exact Bool.noConfusion (hS.symm.trans (show _ = false by rfl))
    | 6, ho => exact Bool.noConfusion (hS.symm.trans (show _ = false by rfl))
    | 7, ho => exact Bool.noConfusion (hS.symm.trans (show _ = false by rfl))
    | 8, ho =>
      obtain rfl := Option.some.inj ho
      refine flow_plain rfl rfl ?_
      have f71 : ∃ g, (aa.tmps.getD 71 undef) = .slice (some ⟨g, 0, none⟩) 0 0 ∧ w'.heap[g]? = some (.cells #[] 3 (0, 0)) ∧ w2.heap.size ≤ g := due_not (F.of 1 (by kernel_rfl)) F.due
      have f77 : (aa.tmps.getD 77 undef) = .slice Ab k cb := F.of 7 (by kernel_rfl)
      obtain ⟨g, e50, h50, hg50⟩ := f71
      refine op_append_row nb (fun _ => rfl) (.tmp 71) (.tmp 77) 22 rfl w2.heap.size 3 3 0 (.int .i64 0) 8 Tryd.underlying22 info_intR rfl (by decide) _ [] (ys.take k) _ e50 f77 (own_zero h50 hg50) ((HSL2.out.upto k hky).below hlow) (by have := hfity; simp; omega) (Nat.le_trans (by simp) hlow.size) ?_
      intro v' w2 ho2 hg2
      refine ⟨_, rfl, below_grown hlow hlow.size hg2 (fun q hq => by cases hq; exact hg50), .inr ho2, ?_⟩
      intro j hj hji hlj h
      match j, h with
      | 0, h => exact h
      | 1, h => exact .inl (getD_self (by rw [F.sz]; decide))
      | 2, h => exact h
      | 3, h => exact h
      | 4, h => exact h
      | 5, h => exact h
      | 6, h => exact h
      | 7, h => exact h
      | 8, h => exact absurd rfl hji
      | 9, h => exact h
      | 10, h => exact h.elim (fun h => .inl (getD_mono h)) fun ⟨g', e1, h1⟩ => .inr ⟨g', e1, lit_keep h1 h50 hg2⟩
      | 11, h => exact absurd (F.cl.reach 22 _ _ hlj (by kernel_rfl)) (by rw [F.due]; decide)
      | 12, h => exact h
      | 13, h => exact h
      | 14, h => exact h
      | 15, h => exact h
      | 16, h => exact h
      | 17, h => exact h
      | 18, h => exact absurd (F.cl.reach 22 _ _ hlj (by kernel_rfl)) (by rw [F.due]; decide)
      | 19, h => exact h
      | 20, h => exact h
      | j + 21, h => omega
    | 9, ho => exact Bool.noConfusion (hS.symm.trans (show _ = false by rfl))
    | 10, ho => exact Bool.noConfusion (hS.symm.trans (show _ = false by rfl))
    | 11, ho =>
      obtain rfl := Option.some.inj ho
      refine flow_plain rfl rfl ?_
      have f78 : w'.ownsRow w2.heap.size 3 1 (aa.tmps.getD 78 undef) (ys.take k).length ((ys.take k).map nb) := due_not (F.of 8 (by kernel_rfl)) F.due
      have f80 : ∃ g, (aa.tmps.getD 80 undef) = .slice (some ⟨g, 0, none⟩) 1 1 ∧ w'.heap[g]? = some (.cells #[.int .i64 (N : Int)] 3 (0, 0)) := due_not (F.of 10 (by kernel_rfl)) F.due
      obtain ⟨g, e59, h59⟩ := f80
      refine op_append_row nb (fun _ => rfl) (.tmp 78) (.tmp 80) 22 rfl w2.heap.size 3 3 0 (.int .i64 0) 8 Tryd.underlying22 info_intR rfl (by decide) _ (ys.take k) [N] _ rfl e59 f78 (Sl.at h59 rfl rfl (by decide) (by decide)) (by have := hfity; simp; omega) hlow.size ?_
      intro v' w2 ho2 hg2
      refine ⟨_, rfl, below_grown hlow hlow.size hg2 (fun q hq => (own_row f78 q hq).1), .inr ho2, ?_⟩
      intro j hj hji hlj h
      match j, h with
      | 0, h => exact h
      | 1, h => exact h.elim (fun h => .inl (getD_mono h)) fun h => .inl (getD_mono (F.did 8 (by kernel_rfl)))
      | 2, h => exact h
      | 3, h => exact h
      | 4, h => exact h
      | 5, h => exact h
      | 6, h => exact h
      | 7, h => exact h
      | 8, h => exact .inl (getD_self (by rw [F.sz]; decide))
      | 9, h => exact h
      | 10, h => exact .inl (getD_self (by rw [F.sz]; decide))
      | 11, h => exact absurd rfl hji
      | 12, h => exact h
      | 13, h => exact h
      | 14, h => exact h
      | 15, h => exact h
      | 16, h => exact h
      | 17, h => exact h
      | 18, h => exact absurd (F.cl.reach 22 _ _ hlj (by kernel_rfl)) (by rw [F.due]; decide)
      | 19, h => exact h
      | 20, h => exact h
      | j + 21, h => omega
    | 12, ho => exact Bool.noConfusion (hS.symm.trans (show _ = false by rfl))
    | 13, ho => exact Bool.noConfusion (hS.symm.trans (show _ = false by rfl))
    | 14, ho => exact Bool.noConfusion (hS.symm.trans (show _ = false by rfl))
    | 15, ho => exact Bool.noConfusion (hS.symm.trans (show _ = false by rfl))
    | 16, ho => exact Bool.noConfusion (hS.symm.trans (show _ = false by rfl))
    | 17, ho => exact Bool.noConfusion (hS.symm.trans (show _ = false by rfl))
    | 18, ho =>
      obtain rfl := Option.some.inj ho
      refine flow_plain rfl rfl ?_
      have f81 : w'.ownsRow w2.heap.size 3 1 (aa.tmps.getD 81 undef) (ys.take k ++ [N]).length ((ys.take k ++ [N]).map nb) := due_not (F.of 11 (by kernel_rfl)) F.due
      have f87 : (aa.tmps.getD 87 undef) = .slice (if cb = k then Ab else Ab.map fun x => x.add k) (n - k) (cb - k) := F.of 17 (by kernel_rfl)
      refine op_append_row nb (fun _ => rfl) (.tmp 81) (.tmp 87) 22 rfl w2.heap.size 3 3 0 (.int .i64 0) 8 Tryd.underlying22 info_intR rfl (by decide) _ (ys.take k ++ [N]) (ys.drop k) _ rfl f87 f81 ((HSL2.out.low k hky).below hlow) (by have := hfity; simp; omega) hlow.size ?_
      intro v' w2 ho2 hg2
      refine ⟨_, rfl, below_grown hlow hlow.size hg2 (fun q hq => (own_row f81 q hq).1), ho2, ?_⟩
      intro j hj hji hlj h
      match j, h with
      | 0, h => exact h
      | 1, h => exact h.elim (fun h => .inl (getD_mono h)) fun h => .inl (getD_mono (F.did 8 (by kernel_rfl)))
      | 2, h => exact h
      | 3, h => exact h
      | 4, h => exact h
      | 5, h => exact h
      | 6, h => exact h
      | 7, h => exact h
      | 8, h => exact h.elim (fun h => .inl (getD_mono h)) fun h => .inl (getD_mono (F.did 11 (by kernel_rfl)))
      | 9, h => exact h
      | 10, h => exact h.elim (fun h => .inl (getD_mono h)) fun h => .inl (getD_mono (F.did 11 (by kernel_rfl)))
      | 11, h => exact .inl (getD_self (by rw [F.sz]; decide))
      | 12, h => exact h
      | 13, h => exact h
      | 14, h => exact h
      | 15, h => exact h
      | 16, h => exact h
      | 17, h => exact h
      | 18, h => exact absurd rfl hji
      | 19, h => exact h
      | 20, h => exact h
      | j + 21, h => omega
    | 19, ho => exact Bool.noConfusion (hS.symm.trans (show _ = false by rfl))
    | 20, ho => exact Bool.noConfusion (hS.symm.trans (show _ = false by rfl))
    | j + 21, ho => omega
  intro vs l w' hall hlow hvs
  refine ⟨fun hx => absurd hx (by decide), fun hx => ?_⟩
  clear hx
  have ha : vs 20 = .pointer (some ⟨r, 1, none⟩) := hvs 20 (by decide)
  have ho : w'.ownsRow w2.heap.size 3 1 (vs 18) (ys.take k ++ [N] ++ ys.drop k).length ((ys.take k ++ [N] ++ ys.drop k).map nb) := hvs 18 (by decide)
  obtain ⟨AN, cN, hv, _, _⟩ := own_sh2 ho
  rw [hv] at ho
  have hbx := below_heap hlow HBOX2.out
  obtain ⟨hc, hf⟩ := blk hbx
  refine flow_plain rfl rfl ?_
  simp only [putL, Act.put, List.setIfInBounds_toArray, List.set_cons_zero, List.set_cons_succ, Nat.reduceAdd]
  rw [hv, ha]
  refine op_skip0 (w'.setCell ⟨r, 1, none⟩ (.slice AN (ys.take k ++ [N] ++ ys.drop k).length cN)) (by simp [execOp, Act.eval, go_sem, hc, hf]) rfl ?_
  have HN3 := Aside0.mk (And.intro (own_put hrW2 ho 1 (.slice AN (ys.take k ++ [N] ++ ys.drop k).length cN)) (And.intro (box_put hbx 1 (.slice AN (ys.take k ++ [N] ++ ys.drop k).length cN)) (grw_then (grown_of_below (some r) hlow) (grw_set w' r 1 (.slice AN (ys.take k ++ [N] ++ ys.drop k).length cN)))))
  clear hvs hall hlow ha hv hbx hc hf ho
  obtain ⟨w3, hwN⟩ : ∃ w3, w3 = w'.setCell ⟨r, 1, none⟩ (.slice AN (ys.take k ++ [N] ++ ys.drop k).length cN) := ⟨_, rfl⟩
  rw [← hwN] at HN3 ⊢
  obtain ⟨v3, hvN⟩ : ∃ v3, v3 = Value.slice AN (ys.take k ++ [N] ++ ys.drop k).length cN := ⟨_, rfl⟩
  rw [← hvN] at HN3 ⊢
  clear hwN hvN
  go_wp2_with fail
  go_ret
  refine ⟨rfl, ⟨v2, v3, HN3.out.2.1, ?_, ?_, HGS.out, by have := HLS.out; simp at this; rw [this]; have := HNL.out; omega, H1.out.lpv, H1.out.lbv⟩, grw_then (grown_of_below (some r) HB1.out) (grw_then HN.out.2.2 HN3.out.2.2)⟩
  · rw [← HKX.out]
    exact own_box (own_mono HN.out.1 (by omega)) HN3.out.2.2
  · rw [← HKY.out]
    exact own_mono HN3.out.1 (by omega)

set_option maxRecDepth 100000 in
set_option maxHeartbeats 8000000 in
theorem rset_found {r : Nat} {vp vb : Value} {S : SS} (p : ByteArray) (N : Nat) (w : World) (h : RIsS w r vp vb S) (hp : p.size ≤ 1000000000) (hN : N ≤ 4096) (hv : validB p.data.toList = true) (ho : hasL S.l p.data.toList = true) :
    Calls Tryd.prog 14 #[.pointer (some ⟨r, 0, none⟩), .string p, .int .i64 (N : Int)] w fun e w' => e = .returned (.int .i64 0) ∧ (∃ vp vb, RIsS w' r vp vb ⟨setL S.l p.data.toList N, S.lp, S.lb, S.told⟩) ∧ w.grownBy w' (some r) := by
  have HV := Aside0.mk (rvalid_calls p w hp)
  rw [hv] at HV
  have HF := Aside0.mk (fun (W : World) (hW : RIsS W r vp vb S) => rfind_calls p W hW hp)
  rw [ho] at HF
  obtain ⟨k, hk0⟩ : ∃ k, k = posL S.l p.data.toList := ⟨_, rfl⟩
  have hkl : k < S.l.length := by
    have h1 : k ≤ S.l.length := by rw [hk0]; exact posL_le _ _
    rcases Nat.lt_or_ge k S.l.length with h2 | h2
    · exact h2
    · have := posL_none (l := S.l) (p := p.data.toList) (by omega)
      rw [ho] at this; cases this
  rw [← hk0] at HF
  have hke : (S.l[k]'hkl).1 = p.data.toList := by
    have := posL_at h.good.sorted (p := p.data.toList) (by rw [← hk0]; exact hkl)
    rw [ho] at this
    simp only [← hk0] at this
    exact beq_iff_eq.1 this
  have HSET : Aside0 (setL S.l p.data.toList N = S.l.set k (p.data.toList, N)) := ⟨by
    have := setL_found (n := N) (l := S.l) (p := p.data.toList) (by rw [← hk0]; exact hkl) (by simp only [← hk0]; exact hke)
    rw [this, hk0]⟩
  have HGS := Aside0.mk (good_set h.good hv hN)
  obtain ⟨Ap, cp, Ab, cb, rfl, rfl, hcp, hcb⟩ := h.shape
  have H := Aside0.mk h
  obtain ⟨n, hn⟩ : ∃ n, n = S.l.length := ⟨_, rfl⟩
  have d1 : decide ((N : Int) < 0) = false := decide_eq_false (by omega)
  have d2 : decide (4096 < (N : Int)) = false := decide_eq_false (by omega)
  obtain ⟨ys, hys⟩ : ∃ ys, ys = S.l.map (·.2) := ⟨_, rfl⟩
  have hyl : ys.length = n := by rw [hys, hn, List.length_map]
  have HKX : Aside0 (keysL (setL S.l p.data.toList N) = keysL S.l) := ⟨by rw [HSET.out]; exact map_fst_set _ _ _ _ hkl hke⟩
  have HKY : Aside0 (ys.set k N = (setL S.l p.data.toList N).map (·.2)) := ⟨by
    rw [HSET.out, hys, List.map_set]⟩
  have HKL : Aside0 ((setL S.l p.data.toList N).length = S.l.length) := ⟨by rw [HSET.out, List.length_set]⟩
  rw [← hn] at HF H hcp hcb hkl
  have hkn : (k : Int) < (n : Int) := by omega
  have HYL := Aside0.mk hyl
  have HYS := Aside0.mk hys
  have HNL := Aside0.mk hn
  have hfew := H.out.few
  have hfity : ys.length ≤ 200 := by omega
  have hky : k < ys.length := by omega
  clear h hk0 hv ho hys hyl hn hke hfew
  go_enter Tryd.func14, Tryd.ntmps14
  go_wp2_with fail
  refine HV.out.mono ?_
  rintro e w0 ⟨rfl, hb0⟩
  have HB0 := Aside0.mk hb0
  clear hb0
  go_wp2_with fail
  refine (HF.out w0 (H.out.below HB0.out)).mono ?_
  rintro e w1 ⟨rfl, hb1⟩
  have HB1 := Aside0.mk (below_step HB0.out hb1)
  have h1 := H.out.below HB1.out
  have HBOX := Aside0.mk h1.box
  have hrW : r < w1.heap.size := blk_lt h1.box
  have HBA : Aside0 (∀ o, Below w1.heap.size w1 (w1.alloc o)) := ⟨fun o => (Below.refl _ _).alloc (Nat.le_refl _) _⟩
  have c1 := (blk (heap_old (o := .cells #[] 3 (0, 0)) h1.box)).1 1
  simp only [List.getElem?_toArray, List.getElem?_cons_zero, List.getElem?_cons_succ] at c1
  have HSL : Aside0 (Sl nb 3 w1 0 (.slice Ab n cb) ys) := ⟨by rw [HYS.out]; exact Sl.of_own h1.blocks⟩
  have H1 := Aside0.mk h1
  clear hb1 h1
  have HP : Aside0 (∀ w2 : World, (w1.alloc (.cells #[] 3 (0, 0))).grownBy w2 (some w1.heap.size) → w2.heap[r]? = some (.cells #[.slice Ap n cp, .slice Ab n cb, .string (str S.lp), .int .i64 (S.lb : Int), .bool S.told] 43 (0, 0)) ∧ Below w1.heap.size w1 w2) := ⟨fun w2 hg =>
    ⟨(hg.block r (by simp; omega) (fun e => by have := Option.some.inj e; omega)).trans (heap_old HBOX.out), below_grown (HBA.out (.cells #[] 3 (0, 0))) (by simp) hg (fun q hq => by cases hq; exact Nat.le_refl _)⟩⟩
  go_wp2_with (at_builtin; go_must (refine append_row nb (fun _ => rfl) rfl (.tmp 28) (.tmp 32) 22 rfl w1.heap.size 3 3 0 _ _ Tryd.underlying22 info_intR rfl (by decide) _ [] ys _ rfl rfl (own_zero (heap_new rfl) (Nat.le_refl _)) (HSL.out.below (HBA.out _)) (by simp; omega) (by simp) ?_); intro v2 w2 hown hg _; have h2 := HP.out w2 hg; rw [List.nil_append] at hown; obtain ⟨g2, cp2, rfl, hg2, _⟩ := own_some hown (Nat.lt_of_le_of_lt (Nat.zero_le _) hky); obtain ⟨f1, f2⟩ := blk h2.1; have ho3 := own_put (r := r) (base := w1.heap.size) hrW hown 1 (.slice (some ⟨g2, 0, none⟩) ys.length cp2); obtain ⟨f3, f4⟩ := own_cell ho3 k (by rw [List.length_map]; exact hky); have f5 := (blk (box_put h2.1 1 (.slice (some ⟨g2, 0, none⟩) ys.length cp2))).1 1; have HX2 := Aside0.mk (And.intro h2.1 (And.intro h2.2 ho3)); have HG2 := Aside0.mk hg2; clear hown hg h2 ho3 hg2)
  go_ret
  have hgr := grw_new (grw_then (grown_of_below (some r) HX2.out.2.1) (grw_set w2 r 1 (.slice (some ⟨g2, 0, none⟩) ys.length cp2))) HG2.out k (.int .i64 (N : Int))
  refine ⟨rfl, ⟨_, _, heap_set (by have := HG2.out; show r ≠ g2; omega) (box_put HX2.out.1 1 _), ?_, ?_, HGS.out, by have := HKL.out; have := H1.out.few; show (setL _ _ _).length ≤ 100; omega, H1.out.lpv, H1.out.lbv⟩, grw_then (grown_of_below (some r) HB1.out) hgr⟩
  · rw [HKX.out]
    exact own_box H1.out.paths hgr
  · have hs := (World.ownsRow.stored HX2.out.2.2 k (.int .i64 (N : Int))).1
    have he : (ys.map nb).set k (.int .i64 (N : Int)) = (ys.set k N).map nb := by rw [List.map_set]; rfl
    rw [he, HKY.out] at hs
    have hl : ys.length = ((setL S.l p.data.toList N).map (·.2)).length := by rw [← HKY.out, List.length_set]
    have hs' := own_mono (base' := r + 1) hs (by omega)
    show World.ownsRow _ (r + 1) _ _ _ ((setL S.l p.data.toList N).map (·.2)).length (((setL S.l p.data.toList N).map (·.2)).map nb)
    rw [← hl]
    exact hs'

set_option maxRecDepth 100000 in
set_option maxHeartbeats 8000000 in
theorem rset_calls {r : Nat} {vp vb : Value} {S : SS} (p : ByteArray) (n : Int) (w : World) (h : RIsS w r vp vb S) (hp : p.size ≤ 1000000000) (hn : -9223372036854775808 ≤ n ∧ n ≤ 9223372036854775807) :
    Calls Tryd.prog 14 #[.pointer (some ⟨r, 0, none⟩), .string p, .int .i64 n] w fun e w' => e = .returned (.int .i64 (setE S.l p.data.toList n)) ∧ RSetQ r S p.data.toList n w w' := by
  have HBA : Aside0 (∀ w', Below w.heap.size w w' → setE S.l p.data.toList n ≠ 0 → RSetQ r S p.data.toList n w w') := ⟨fun w' hb hne => by unfold RSetQ; rw [if_neg hne]; exact ⟨⟨_, _, h.below hb⟩, grown_of_below _ hb⟩⟩
  have HV := Aside0.mk (rvalid_calls p w hp)
  obtain ⟨b, hb⟩ : ∃ b, validB p.data.toList = b := ⟨_, rfl⟩
  rw [hb] at HV
  by_cases hok : b = true ∧ 0 ≤ n ∧ n ≤ 4096
  · obtain ⟨rfl, h0, h4⟩ := hok
    obtain ⟨N, rfl⟩ : ∃ N : Nat, n = (N : Int) := ⟨n.toNat, by omega⟩
    obtain ⟨o, ho⟩ : ∃ o, hasL S.l p.data.toList = o := ⟨_, rfl⟩
    have HSE : setE S.l p.data.toList (N : Int) = if (!o && decide (100 ≤ S.l.length)) = true then 4 else 0 := by
      unfold setE; rw [hb, ho, decide_eq_true h0, decide_eq_true h4]; rfl
    have hdone : setE S.l p.data.toList (N : Int) = 0 → ∀ w', ((∃ vp vb, RIsS w' r vp vb ⟨setL S.l p.data.toList N, S.lp, S.lb, S.told⟩) ∧ w.grownBy w' (some r)) → RSetQ r S p.data.toList (N : Int) w w' := fun he w' hq => by
      unfold RSetQ; rw [if_pos he]; exact hq
    cases o with
    | true =>
      have he : setE S.l p.data.toList (N : Int) = 0 := by rw [HSE]; rfl
      refine (rset_found p N w h hp (by omega) hb ho).mono ?_
      rintro e w' ⟨rfl, hq⟩
      exact ⟨by rw [he], hdone he w' hq⟩
    | false =>
      by_cases hl : S.l.length < 100
      · have he : setE S.l p.data.toList (N : Int) = 0 := by rw [HSE, decide_eq_false (by omega)]; rfl
        refine (rset_new p N w h hp (by omega) hb ho hl).mono ?_
        rintro e w' ⟨rfl, hq⟩
        exact ⟨by rw [he], hdone he w' hq⟩
      · have HE : Aside0 (setE S.l p.data.toList (N : Int) = 4) := ⟨by rw [HSE, decide_eq_true (by omega)]; rfl⟩
        have HF := Aside0.mk (fun (W : World) (hW : RIsS W r vp vb S) => rfind_calls p W hW hp)
        rw [ho] at HF
        obtain ⟨Ap, cp, Ab, cb, rfl, rfl, hcp, hcb⟩ := h.shape
        have d1 : decide ((N : Int) < 0) = false := decide_eq_false (by omega)
        have d2 : decide (4096 < (N : Int)) = false := decide_eq_false (by omega)
        have d3 : decide (100 ≤ (S.l.length : Int)) = true := decide_eq_true (by omega)
        have H := Aside0.mk h
        clear h hdone HSE ho hb hcp hcb
        go_enter Tryd.func14, Tryd.ntmps14
        go_wp2_with fail
        refine HV.out.mono ?_
        rintro e w0 ⟨rfl, hb0⟩
        have HB0 := Aside0.mk hb0
        clear hb0
        go_wp2_with fail
        refine (HF.out w0 (H.out.below HB0.out)).mono ?_
        rintro e w1 ⟨rfl, hb1⟩
        have HB1 := Aside0.mk (below_step HB0.out hb1)
        have c0 := (blk (H.out.below HB1.out).box).1 0
        simp only [List.getElem?_toArray, List.getElem?_cons_zero, List.getElem?_cons_succ] at c0
        clear hb1
        go_wp2_with fail
        go_ret
        exact ⟨by rw [HE.out]; rfl, HBA.out _ HB1.out (by rw [HE.out]; decide)⟩
  · have HE : Aside0 (setE S.l p.data.toList n = 1) := ⟨by
      unfold setE
      rw [if_neg]
      rw [hb]
      simp only [Bool.and_eq_true, decide_eq_true_eq]
      exact hok⟩
    have hfin : ∀ (e : Ending) w', (e = .returned (.int .i64 1) ∧ Below w.heap.size w w') → e = .returned (.int .i64 (setE S.l p.data.toList n)) ∧ RSetQ r S p.data.toList n w w' := by
      rintro e w' ⟨rfl, hb⟩
      exact ⟨by rw [HE.out], HBA.out _ hb (by rw [HE.out]; decide)⟩
    refine Calls.mono ?_ hfin
    clear hfin HE HBA hb h
    cases b with
    | false =>
      go_enter Tryd.func14, Tryd.ntmps14
      go_wp2_with fail
      refine HV.out.mono ?_
      rintro e w0 ⟨rfl, hb0⟩
      go_wp2_with fail
      go_ret
      exact ⟨rfl, hb0⟩
    | true =>
      by_cases h0 : n < 0
      · have d1 : decide (n < 0) = true := decide_eq_true h0
        clear hok
        go_enter Tryd.func14, Tryd.ntmps14
        go_wp2_with fail
        refine HV.out.mono ?_
        rintro e w0 ⟨rfl, hb0⟩
        go_wp2_with fail
        go_ret
        exact ⟨rfl, hb0⟩
      · have d1 : decide (n < 0) = false := decide_eq_false h0
        have d2 : decide (4096 < n) = true := decide_eq_true (by simp at hok; omega)
        clear hok
        go_enter Tryd.func14, Tryd.ntmps14
        go_wp2_with fail
        refine HV.out.mono ?_
        rintro e w0 ⟨rfl, hb0⟩
        go_wp2_with fail
        go_ret
        exact ⟨rfl, hb0⟩

set_option maxRecDepth 100000 in
set_option maxHeartbeats 8000000 in
theorem rdrop_calls {r : Nat} {vp vb : Value} {S : SS} (p : ByteArray) (w : World) (h : RIsS w r vp vb S) (hp : p.size ≤ 1000000000) :
    Calls Tryd.prog 16 #[.pointer (some ⟨r, 0, none⟩), .string p] w fun e w' => e = .returned (.bool (hasL S.l p.data.toList)) ∧ (∃ vp vb, RIsS w' r vp vb ⟨delL S.l p.data.toList, S.lp, S.lb, S.told⟩) ∧ w.grownBy w' (some r) := by
  have HF := Aside0.mk (rfind_calls p w h hp)
  obtain ⟨o, ho⟩ : ∃ o, hasL S.l p.data.toList = o := ⟨_, rfl⟩
  cases o with
  | false =>
    have HD : Aside0 (delL S.l p.data.toList = S.l) := ⟨delL_none ho⟩
    have H := Aside0.mk h
    rw [ho] at HF ⊢
    clear h ho
    go_enter Tryd.func16, Tryd.ntmps16
    go_wp2_with fail
    refine HF.out.mono ?_
    rintro e w1 ⟨rfl, hb1⟩
    have HB1 := Aside0.mk hb1
    clear hb1
    go_wp2_with fail
    go_ret
    exact ⟨rfl, ⟨vp, vb, by rw [HD.out]; exact H.out.below HB1.out⟩, grown_of_below _ HB1.out⟩
  | true =>
    rw [ho] at HF ⊢
    obtain ⟨k, hk0⟩ : ∃ k, k = posL S.l p.data.toList := ⟨_, rfl⟩
    have hkl : k < S.l.length := by
      have h1 : k ≤ S.l.length := by rw [hk0]; exact posL_le _ _
      rcases Nat.lt_or_ge k S.l.length with h2 | h2
      · exact h2
      · have := posL_none (l := S.l) (p := p.data.toList) (by omega)
        rw [ho] at this; cases this
    rw [← hk0] at HF
    have hke : (S.l[k]'hkl).1 = p.data.toList := by
      have := posL_at h.good.sorted (p := p.data.toList) (by rw [← hk0]; exact hkl)
      rw [ho] at this
      simp only [← hk0] at this
      exact beq_iff_eq.1 this
    have HDEL : Aside0 (delL S.l p.data.toList = S.l.take k ++ S.l.drop (k + 1)) := ⟨by
      have := delL_found h.good.sorted (p := p.data.toList) (by rw [← hk0]; exact hkl) (by simp only [← hk0]; exact hke)
      rw [this, hk0]⟩
    have HGS := Aside0.mk (good_del h.good p.data.toList)
    have HLS : Aside0 ((delL S.l p.data.toList).length ≤ 100) := ⟨by
      have h1 := List.length_filter_le (fun x : Ent => !(x.1 == p.data.toList)) S.l
      have := h.few
      show (List.filter _ _).length ≤ 100
      omega⟩
    obtain ⟨Ap, cp, Ab, cb, rfl, rfl, hcp, hcb⟩ := h.shape
    have H := Aside0.mk h
    obtain ⟨n, hn⟩ : ∃ n, n = S.l.length := ⟨_, rfl⟩
    have hfew := h.few
    obtain ⟨xs, hxs⟩ : ∃ xs, xs = keysL S.l := ⟨_, rfl⟩
    obtain ⟨ys, hys⟩ : ∃ ys, ys = S.l.map (·.2) := ⟨_, rfl⟩
    have hxl : xs.length = n := by rw [hxs, hn]; unfold keysL; rw [List.length_map]
    have hyl : ys.length = n := by rw [hys, hn, List.length_map]
    rw [← hn] at H hcp hcb hkl hfew
    obtain ⟨m, hm⟩ : ∃ m, m = k + 1 := ⟨_, rfl⟩
    rw [← hm] at HDEL
    have HKX : Aside0 (xs.take k ++ xs.drop m = keysL (delL S.l p.data.toList)) := ⟨by
      rw [HDEL.out, hxs]; unfold keysL; rw [List.map_append, List.map_take, List.map_drop]⟩
    have HKY : Aside0 (ys.take k ++ ys.drop m = (delL S.l p.data.toList).map (·.2)) := ⟨by
      rw [HDEL.out, hys, List.map_append, List.map_take, List.map_drop]⟩
    have hk : k ≤ n := Nat.le_of_lt hkl
    have hkn1 : k ≤ cp := by omega
    have hkn2 : k ≤ cb := by omega
    have hkn3 : m ≤ n := by omega
    have hkn4 : m ≤ cp := by omega
    have hkn5 : m ≤ cb := by omega
    have hkw : IntKind.i64.wrap ((k : Int) + 1) = (m : Int) := by rw [IntWalk.i64_in _ (by omega)]; omega
    have hfit : xs.length ≤ 200 := by omega
    have hfity : ys.length ≤ 200 := by omega
    have hkx : k ≤ xs.length := by omega
    have hky : k ≤ ys.length := by omega
    have hkkx : m ≤ xs.length := by omega
    have hkky : m ≤ ys.length := by omega
    have HXS := Aside0.mk hxs
    have HYS := Aside0.mk hys
    clear h hm hk0 ho hxs hys hxl hyl hn hke hfew
    go_enter Tryd.func16, Tryd.ntmps16
    go_wp2_with fail
    refine HF.out.mono ?_
    rintro e w1 ⟨rfl, hb1⟩
    have HB1 := Aside0.mk hb1
    have h1 := H.out.below HB1.out
    have HBOX := Aside0.mk h1.box
    have hrW : r < w1.heap.size := blk_lt h1.box
    have cc := (blk h1.box).1
    have c0 := cc 0
    simp only [List.getElem?_toArray, List.getElem?_cons_zero] at c0
    have HSL : Aside0 (Sl tv 9 w1 0 (.slice Ap n cp) xs) := ⟨by rw [HXS.out]; exact Sl.of_own h1.paths⟩
    have H1 := Aside0.mk h1
    clear hb1 h1 cc
    go_wp2_with fail
    refine wp_region_flowL (fun _ w => Below w1.heap.size w1 w) 19 RdP_w (RdP w1 r Ap n cp k m xs) [14, 15, 16, 17, 18, 19, 20, 21, 22, 23, 24, 25, 26, 27, 28, 29, 30, 31, 32] (by kernel_rfl) (by kernel_rfl) (by kernel_rfl) ((Below.refl _ _).drew) (fun _ _ _ _ _ h hb => below_step h hb) (RdP_st _ _ _ _ _ _ _ _) ?_ ?_ (.inr (by kernel_rfl)) ?_
    · intro i o hi hS ho l aa w' F
      have hlow := F.low
      match i, ho with
      | 0, ho =>
        obtain rfl := Option.some.inj ho
        refine flow_plain rfl rfl ?_
        have f0 : aa.tmps.getD 0 undef = .pointer (some ⟨r, 0, none⟩) := F.out 0 (by kernel_rfl) _ rfl
        exact op_move (.tmp 0) rfl ⟨_, rfl, Below.refl _ _, f0⟩
      | 1, ho =>
        obtain rfl := Option.some.inj ho
        refine flow_plain rfl rfl ?_
        exact op_val (.slice (some ⟨w'.heap.size, 0, none⟩) 0 0) (w'.alloc (.cells #[] 9)) (by simp [execOp, Act.eval, go_sem]) ⟨_, rfl, (Below.refl _ _).alloc (Nat.le_refl _) _, .inr ⟨_, rfl, heap_new rfl, hlow.size⟩⟩
      | 2, ho =>
        obtain rfl := Option.some.inj ho
        refine flow_plain rfl rfl ?_
        have f0 : aa.tmps.getD 0 undef = .pointer (some ⟨r, 0, none⟩) := F.out 0 (by kernel_rfl) _ rfl
        exact op_move (.tmp 0) rfl ⟨_, rfl, Below.refl _ _, f0⟩
      | 3, ho =>
        obtain rfl := Option.some.inj ho
        refine flow_plain rfl rfl ?_
        have f16 : (aa.tmps.getD 16 undef) = .pointer (some ⟨r, 0, none⟩) := F.of 2 (by kernel_rfl)
        refine op_pure (.pointer (some ⟨r, 0, none⟩)) ?_ ⟨_, rfl, Below.refl _ _, rfl⟩
        simp [execOp, Act.eval, go_sem, f16]
      | 4, ho =>
        obtain rfl := Option.some.inj ho
        refine flow_plain rfl rfl ?_
        have f17 : (aa.tmps.getD 17 undef) = .pointer (some ⟨r, 0, none⟩) := F.of 3 (by kernel_rfl)
        refine op_pure (.pointer (some ⟨r, 0, none⟩)) ?_ ⟨_, rfl, Below.refl _ _, rfl⟩
        simp [execOp, Act.eval, go_sem, f17]
      | 5, ho =>
        obtain rfl := Option.some.inj ho
        refine flow_plain rfl rfl ?_
        have f18 : (aa.tmps.getD 18 undef) = .pointer (some ⟨r, 0, none⟩) := F.of 4 (by kernel_rfl)
        have hc := (blk (below_heap hlow HBOX.out)).1
        refine op_pure (.slice Ap n cp) ?_ ⟨_, rfl, Below.refl _ _, rfl⟩
        simp [execOp, Act.eval, go_sem, f18, hc]
      | 6, ho =>
        obtain rfl := Option.some.inj ho
        refine flow_plain rfl rfl ?_
        have f5 : aa.tmps.getD 5 undef = .int .i64 (k : Int) := F.out 5 (by kernel_rfl) _ rfl
        exact op_move (.tmp 5) rfl ⟨_, rfl, Below.refl _ _, f5⟩
      | 7, ho =>
        obtain rfl := Option.some.inj ho
        refine flow_plain rfl rfl ?_
        have f19 : (aa.tmps.getD 19 undef) = .slice Ap n cp := F.of 5 (by kernel_rfl)
        have f20 : (aa.tmps.getD 20 undef) = .int .i64 (k : Int) := F.of 6 (by kernel_rfl)
        refine op_pure (.slice Ap k cp) ?_ ⟨_, rfl, Below.refl _ _, rfl⟩
        simp [execOp, Act.eval, go_sem, f19, f20, hkn1, hk]
      | 8, ho => exact Bool.noConfusion (hS.symm.trans (show _ = true by rfl))
      | 9, ho =>
        obtain rfl := Option.some.inj ho
        refine flow_plain rfl rfl ?_
        have f0 : aa.tmps.getD 0 undef = .pointer (some ⟨r, 0, none⟩) := F.out 0 (by kernel_rfl) _ rfl
        exact op_move (.tmp 0) rfl ⟨_, rfl, Below.refl _ _, f0⟩
      | 10, ho =>
        obtain rfl := Option.some.inj ho
        refine flow_plain rfl rfl ?_
        have f23 : (aa.tmps.getD 23 undef) = .pointer (some ⟨r, 0, none⟩) := F.of 9 (by kernel_rfl)
        refine op_pure (.pointer (some ⟨r, 0, none⟩)) ?_ ⟨_, rfl, Below.refl _ _, rfl⟩
        simp [execOp, Act.eval, go_sem, f23]
      | 11, ho =>
        obtain rfl := Option.some.inj ho
        refine flow_plain rfl rfl ?_
        have f24 : (aa.tmps.getD 24 undef) = .pointer (some ⟨r, 0, none⟩) := F.of 10 (by kernel_rfl)
        refine op_pure (.pointer (some ⟨r, 0, none⟩)) ?_ ⟨_, rfl, Below.refl _ _, rfl⟩
        simp [execOp, Act.eval, go_sem, f24]
      | 12, ho =>
        obtain rfl := Option.some.inj ho
        refine flow_plain rfl rfl ?_
        have f25 : (aa.tmps.getD 25 undef) = .pointer (some ⟨r, 0, none⟩) := F.of 11 (by kernel_rfl)
        have hc := (blk (below_heap hlow HBOX.out)).1
        refine op_pure (.slice Ap n cp) ?_ ⟨_, rfl, Below.refl _ _, rfl⟩
        simp [execOp, Act.eval, go_sem, f25, hc]
      | 13, ho =>
        obtain rfl := Option.some.inj ho
        refine flow_plain rfl rfl ?_
        have f5 : aa.tmps.getD 5 undef = .int .i64 (k : Int) := F.out 5 (by kernel_rfl) _ rfl
        exact op_move (.tmp 5) rfl ⟨_, rfl, Below.refl _ _, f5⟩
      | 14, ho =>
        obtain rfl := Option.some.inj ho
        refine flow_plain rfl rfl ?_
        have f27 : (aa.tmps.getD 27 undef) = .int .i64 (k : Int) := F.of 13 (by kernel_rfl)
        refine op_pure (.int .i64 (m : Int)) ?_ ⟨_, rfl, Below.refl _ _, rfl⟩
        simp [execOp, Act.eval, go_sem, f27, hkw]
      | 15, ho =>
        obtain rfl := Option.some.inj ho
        refine flow_plain rfl rfl ?_
        have f26 : (aa.tmps.getD 26 undef) = .slice Ap n cp := F.of 12 (by kernel_rfl)
        have f28 : (aa.tmps.getD 28 undef) = .int .i64 (m : Int) := F.of 14 (by kernel_rfl)
        refine op_pure (.slice (if cp = m then Ap else Ap.map fun x => x.add m) (n - m) (cp - m)) ?_ ⟨_, rfl, Below.refl _ _, rfl⟩
        simp [execOp, Act.eval, go_sem, f26, f28, hkn3, hkn4]
      | 16, ho => exact Bool.noConfusion (hS.symm.trans (show _ = true by rfl))
      | 17, ho =>
        obtain rfl := Option.some.inj ho
        refine flow_plain rfl rfl ?_
        have f14 : (aa.tmps.getD 14 undef) = .pointer (some ⟨r, 0, none⟩) := F.of 0 (by kernel_rfl)
        refine op_pure (.pointer (some ⟨r, 0, none⟩)) ?_ ⟨_, rfl, Below.refl _ _, rfl⟩
        simp [execOp, Act.eval, go_sem, f14]
      | 18, ho =>
        obtain rfl := Option.some.inj ho
        refine flow_plain rfl rfl ?_
        have f31 : (aa.tmps.getD 31 undef) = .pointer (some ⟨r, 0, none⟩) := F.of 17 (by kernel_rfl)
        refine op_pure (.pointer (some ⟨r, 0, none⟩)) ?_ ⟨_, rfl, Below.refl _ _, rfl⟩
        simp [execOp, Act.eval, go_sem, f31]
      | j + 19, ho => omega
    · intro i o hi hS ho l aa w' F
      have hlow := F.low
      match i, ho with
      | 0, ho => exact Bool.noConfusion (hS.symm.trans (show _ = false by rfl))
      | 1, ho => exact Bool.noConfusion (hS.symm.trans (show _ = false by rfl))
      | 2, ho => exact Bool.noConfusion (hS.symm.trans (show _ = false by rfl))
      | 3, ho => exact Bool.noConfusion (hS.symm.trans (show _ = false by rfl))
      | 4, ho => exact Bool.noConfusion (hS.symm.trans (show _ = false by rfl))
      | 5, ho => exact Bool.noConfusion (hS.symm.trans (show _ = false by rfl))
      | 6, ho => exact Bool.noConfusion (hS.symm.trans (show _ = false by rfl))
      | 7, ho => exact Bool.noConfusion (hS.symm.trans (show _ = false by rfl))
      | 8, ho =>
        obtain rfl := Option.some.inj ho
        refine flow_plain rfl rfl ?_
        have f15 : ∃ g, (aa.tmps.getD 15 undef) = .slice (some ⟨g, 0, none⟩) 0 0 ∧ w'.heap[g]? = some (.cells #[] 9 (0, 0)) ∧ w1.heap.size ≤ g := due_not (F.of 1 (by kernel_rfl)) F.due
        have f21 : (aa.tmps.getD 21 undef) = .slice Ap k cp := F.of 7 (by kernel_rfl)
        obtain ⟨g, e50, h50, hg50⟩ := f15
        refine op_append_row tv (fun _ => rfl) (.tmp 15) (.tmp 21) 26 rfl w1.heap.size 9 9 0 (.string ⟨#[]⟩) 16 Tryd.underlying26 info_str rfl (by decide) _ [] (xs.take k) _ e50 f21 (own_zero h50 hg50) ((HSL.out.upto k hkx).below hlow) (by have := hfit; simp; omega) (Nat.le_trans (by simp) hlow.size) ?_
        intro v' w2 ho2 hg2
        refine ⟨_, rfl, below_grown hlow hlow.size hg2 (fun q hq => by cases hq; exact hg50), .inr ho2, ?_⟩
        intro j hj hji hlj h
        match j, h with
        | 0, h => exact h
        | 1, h => exact .inl (getD_self (by rw [F.sz]; decide))
        | 2, h => exact h
        | 3, h => exact h
        | 4, h => exact h
        | 5, h => exact h
        | 6, h => exact h
        | 7, h => exact h
        | 8, h => exact absurd rfl hji
        | 9, h => exact h
        | 10, h => exact h
        | 11, h => exact h
        | 12, h => exact h
        | 13, h => exact h
        | 14, h => exact h
        | 15, h => exact h
        | 16, h => exact absurd (F.cl.reach 20 _ _ hlj (by kernel_rfl)) (by rw [F.due]; decide)
        | 17, h => exact h
        | 18, h => exact h
        | j + 19, h => omega
      | 9, ho => exact Bool.noConfusion (hS.symm.trans (show _ = false by rfl))
      | 10, ho => exact Bool.noConfusion (hS.symm.trans (show _ = false by rfl))
      | 11, ho => exact Bool.noConfusion (hS.symm.trans (show _ = false by rfl))
      | 12, ho => exact Bool.noConfusion (hS.symm.trans (show _ = false by rfl))
      | 13, ho => exact Bool.noConfusion (hS.symm.trans (show _ = false by rfl))
      | 14, ho => exact Bool.noConfusion (hS.symm.trans (show _ = false by rfl))
      | 15, ho => exact Bool.noConfusion (hS.symm.trans (show _ = false by rfl))
      | 16, ho =>
        obtain rfl := Option.some.inj ho
        refine flow_plain rfl rfl ?_
        have f22 : w'.ownsRow w1.heap.size 9 1 (aa.tmps.getD 22 undef) (xs.take k).length ((xs.take k).map tv) := due_not (F.of 8 (by kernel_rfl)) F.due
        have f29 : (aa.tmps.getD 29 undef) = .slice (if cp = m then Ap else Ap.map fun x => x.add m) (n - m) (cp - m) := F.of 15 (by kernel_rfl)
        refine op_append_row tv (fun _ => rfl) (.tmp 22) (.tmp 29) 26 rfl w1.heap.size 9 9 0 (.string ⟨#[]⟩) 16 Tryd.underlying26 info_str rfl (by decide) _ (xs.take k) (xs.drop m) _ rfl f29 f22 ((HSL.out.low m hkkx).below hlow) (by have := hfit; simp; omega) hlow.size ?_
        intro v' w2 ho2 hg2
        refine ⟨_, rfl, below_grown hlow hlow.size hg2 (fun q hq => (own_row f22 q hq).1), ho2, ?_⟩
        intro j hj hji hlj h
        match j, h with
        | 0, h => exact h
        | 1, h => exact h.elim (fun h => .inl (getD_mono h)) fun h => .inl (getD_mono (F.did 8 (by kernel_rfl)))
        | 2, h => exact h
        | 3, h => exact h
        | 4, h => exact h
        | 5, h => exact h
        | 6, h => exact h
        | 7, h => exact h
        | 8, h => exact .inl (getD_self (by rw [F.sz]; decide))
        | 9, h => exact h
        | 10, h => exact h
        | 11, h => exact h
        | 12, h => exact h
        | 13, h => exact h
        | 14, h => exact h
        | 15, h => exact h
        | 16, h => exact absurd rfl hji
        | 17, h => exact h
        | 18, h => exact h
        | j + 19, h => omega
      | 17, ho => exact Bool.noConfusion (hS.symm.trans (show _ = false by rfl))
      | 18, ho => exact Bool.noConfusion (hS.symm.trans (show _ = false by rfl))
      | j + 19, ho => omega
    intro vs l w' hall hlow hvs
    refine ⟨fun hx => absurd hx (by decide), fun hx => ?_⟩
    clear hx
    have ha : vs 18 = .pointer (some ⟨r, 0, none⟩) := hvs 18 (by decide)
    have ho : w'.ownsRow w1.heap.size 9 1 (vs 16) (xs.take k ++ xs.drop m).length ((xs.take k ++ xs.drop m).map tv) := hvs 16 (by decide)
    obtain ⟨AN, cN, hv, _, _⟩ := own_sh2 ho
    rw [hv] at ho
    have hbx := below_heap hlow HBOX.out
    obtain ⟨hc, hf⟩ := blk hbx
    refine flow_plain rfl rfl ?_
    simp only [putL, Act.put, List.setIfInBounds_toArray, List.set_cons_zero, List.set_cons_succ, Nat.reduceAdd]
    rw [hv, ha]
    refine op_skip0 (w'.setCell ⟨r, 0, none⟩ (.slice AN (xs.take k ++ xs.drop m).length cN)) (by simp [execOp, Act.eval, go_sem, hc, hf]) rfl ?_
    have HN := Aside0.mk (And.intro (own_put hrW ho 0 (.slice AN (xs.take k ++ xs.drop m).length cN)) (And.intro (box_put hbx 0 (.slice AN (xs.take k ++ xs.drop m).length cN)) (grw_then (grown_of_below (some r) hlow) (grw_set w' r 0 (.slice AN (xs.take k ++ xs.drop m).length cN)))))
    clear hvs hall hlow ha hv hbx hc hf ho
    obtain ⟨w2, hwN⟩ : ∃ w2, w2 = w'.setCell ⟨r, 0, none⟩ (.slice AN (xs.take k ++ xs.drop m).length cN) := ⟨_, rfl⟩
    rw [← hwN] at HN ⊢
    obtain ⟨v2, hvN⟩ : ∃ v2, v2 = Value.slice AN (xs.take k ++ xs.drop m).length cN := ⟨_, rfl⟩
    rw [← hvN] at HN ⊢
    clear hwN hvN
    have HBOX2 : Aside0 (w2.heap[r]? = some (.cells #[v2, .slice Ab n cb, .string (str S.lp), .int .i64 (S.lb : Int), .bool S.told] 43 (0, 0))) := ⟨HN.out.2.1⟩
    have hrW2 : r < w2.heap.size := blk_lt HBOX2.out
    have c1 := (blk HBOX2.out).1 1
    simp only [List.getElem?_toArray, List.getElem?_cons_zero, List.getElem?_cons_succ] at c1
    have HOB2 := Aside0.mk (own_box H1.out.blocks HN.out.2.2)
    have HSL2 : Aside0 (Sl nb 3 w2 0 (.slice Ab n cb) ys) := ⟨by rw [HYS.out]; exact Sl.of_own HOB2.out⟩
    go_wp2_with fail
    refine wp_region_flowL (fun _ w => Below w2.heap.size w2 w) 19 RdB_w (RdB w2 r Ab n cb k m ys) [33, 34, 35, 36, 37, 38, 39, 40, 41, 42, 43, 44, 45, 46, 47, 48, 49, 50, 51] (by kernel_rfl) (by kernel_rfl) (by kernel_rfl) ((Below.refl _ _).drew) (fun _ _ _ _ _ h hb => below_step h hb) (RdB_st _ _ _ _ _ _ _ _) ?_ ?_ (.inr (by kernel_rfl)) ?_
    · intro i o hi hS ho l aa w' F
      have hlow := F.low
      match i, ho with
      | 0, ho =>
        obtain rfl := Option.some.inj ho
        refine flow_plain rfl rfl ?_
        have f0 : aa.tmps.getD 0 undef = .pointer (some ⟨r, 0, none⟩) := F.out 0 (by kernel_rfl) _ rfl
        exact op_move (.tmp 0) rfl ⟨_, rfl, Below.refl _ _, f0⟩
      | 1, ho =>
        obtain rfl := Option.some.inj ho
        refine flow_plain rfl rfl ?_
        exact op_val (.slice (some ⟨w'.heap.size, 0, none⟩) 0 0) (w'.alloc (.cells #[] 3)) (by simp [execOp, Act.eval, go_sem]) ⟨_, rfl, (Below.refl _ _).alloc (Nat.le_refl _) _, .inr ⟨_, rfl, heap_new rfl, hlow.size⟩⟩
      | 2, ho =>
        obtain rfl := Option.some.inj ho
        refine flow_plain rfl rfl ?_
        have f0 : aa.tmps.getD 0 undef = .pointer (some ⟨r, 0, none⟩) := F.out 0 (by kernel_rfl) _ rfl
        exact op_move (.tmp 0) rfl ⟨_, rfl, Below.refl _ _, f0⟩
      | 3, ho =>
        obtain rfl := Option.some.inj ho
        refine flow_plain rfl rfl ?_
        have f35 : (aa.tmps.getD 35 undef) = .pointer (some ⟨r, 0, none⟩) := F.of 2 (by kernel_rfl)
        refine op_pure (.pointer (some ⟨r, 0, none⟩)) ?_ ⟨_, rfl, Below.refl _ _, rfl⟩
        simp [execOp, Act.eval, go_sem, f35]
      | 4, ho =>
        obtain rfl := Option.some.inj ho
        refine flow_plain rfl rfl ?_
        have f36 : (aa.tmps.getD 36 undef) = .pointer (some ⟨r, 0, none⟩) := F.of 3 (by kernel_rfl)
        refine op_pure (.pointer (some ⟨r, 1, none⟩)) ?_ ⟨_, rfl, Below.refl _ _, rfl⟩
        simp [execOp, Act.eval, go_sem, f36]
      | 5, ho =>
        obtain rfl := Option.some.inj ho
        refine flow_plain rfl rfl ?_
        have f37 : (aa.tmps.getD 37 undef) = .pointer (some ⟨r, 1, none⟩) := F.of 4 (by kernel_rfl)
        have hc := (blk (below_heap hlow HBOX2.out)).1
        refine op_pure (.slice Ab n cb) ?_ ⟨_, rfl, Below.refl _ _, rfl⟩
        simp [execOp, Act.eval, go_sem, f37, hc]
      | 6, ho =>
        obtain rfl := Option.some.inj ho
        refine flow_plain rfl rfl ?_
        have f5 : aa.tmps.getD 5 undef = .int .i64 (k : Int) := F.out 5 (by kernel_rfl) _ rfl
        exact op_move (.tmp 5) rfl ⟨_, rfl, Below.refl _ _, f5⟩
      | 7, ho =>
        obtain rfl := Option.some.inj ho
        refine flow_plain rfl rfl ?_
        have f38 : (aa.tmps.getD 38 undef) = .slice Ab n cb := F.of 5 (by kernel_rfl)
        have f39 : (aa.tmps.getD 39 undef) = .int .i64 (k : Int) := F.of 6 (by kernel_rfl)
        refine op_pure (.slice Ab k cb) ?_ ⟨_, rfl, Below.refl _ _, rfl⟩
        simp [execOp, Act.eval, go_sem, f38, f39, hkn2, hk]
      | 8, ho => exact Bool.noConfusion (hS.symm.trans (show _ = true by rfl))
      | 9, ho =>
        obtain rfl := Option.some.inj ho
        refine flow_plain rfl rfl ?_
        have f0 : aa.tmps.getD 0 undef = .pointer (some ⟨r, 0, none⟩) := F.out 0 (by kernel_rfl) _ rfl
        exact op_move (.tmp 0) rfl ⟨_, rfl, Below.refl _ _, f0⟩
      | 10, ho =>
        obtain rfl := Option.some.inj ho
        refine flow_plain rfl rfl ?_
        have f42 : (aa.tmps.getD 42 undef) = .pointer (some ⟨r, 0, none⟩) := F.of 9 (by kernel_rfl)
        refine op_pure (.pointer (some ⟨r, 0, none⟩)) ?_ ⟨_, rfl, Below.refl _ _, rfl⟩
        simp [execOp, Act.eval, go_sem, f42]
      | 11, ho =>
        obtain rfl := Option.some.inj ho
        refine flow_plain rfl rfl ?_
        have f43 : (aa.tmps.getD 43 undef) = .pointer (some ⟨r, 0, none⟩) := F.of 10 (by kernel_rfl)
        refine op_pure (.pointer (some ⟨r, 1, none⟩)) ?_ ⟨_, rfl, Below.refl _ _, rfl⟩
        simp [execOp, Act.eval, go_sem, f43]
      | 12, ho =>
        obtain rfl := Option.some.inj ho
        refine flow_plain rfl rfl ?_
        have f44 : (aa.tmps.getD 44 undef) = .pointer (some ⟨r, 1, none⟩) := F.of 11 (by kernel_rfl)
        have hc := (blk (below_heap hlow HBOX2.out)).1
        refine op_pure (.slice Ab n cb) ?_ ⟨_, rfl, Below.refl _ _, rfl⟩
        simp [execOp, Act.eval, go_sem, f44, hc]
      | 13, ho =>
        obtain rfl := Option.some.inj ho
        refine flow_plain rfl rfl ?_
        have f5 : aa.tmps.getD 5 undef = .int .i64 (k : Int) := F.out 5 (by kernel_rfl) _ rfl
        exact op_move (.tmp 5) rfl ⟨_, rfl, Below.refl _ _, f5⟩
      | 14, ho =>
        obtain rfl := Option.some.inj ho
        refine flow_plain rfl rfl ?_
        have f46 : (aa.tmps.getD 46 undef) = .int .i64 (k : Int) := F.of 13 (by kernel_rfl)
        refine op_pure (.int .i64 (m : Int)) ?_ ⟨_, rfl, Below.refl _ _, rfl⟩
        simp [execOp, Act.eval, go_sem, f46, hkw]
      | 15, ho =>
        obtain rfl := Option.some.inj ho
        refine flow_plain rfl rfl ?_
        have f45 : (aa.tmps.getD 45 undef) = .slice Ab n cb := F.of 12 (by kernel_rfl)
        have f47 : (aa.tmps.getD 47 undef) = .int .i64 (m : Int) := F.of 14 (by kernel_rfl)
        refine op_pure (.slice (if cb = m then Ab else Ab.map fun x => x.add m) (n - m) (cb - m)) ?_ ⟨_, rfl, Below.refl _ _, rfl⟩
        simp [execOp, Act.eval, go_sem, f45, f47, hkn3, hkn5]
      | 16, ho => exact Bool.noConfusion (hS.symm.trans (show _ = true by rfl))
      | 17, ho =>
        obtain rfl := Option.some.inj ho
        refine flow_plain rfl rfl ?_
        have f33 : (aa.tmps.getD 33 undef) = .pointer (some ⟨r, 0, none⟩) := F.of 0 (by kernel_rfl)
        refine op_pure (.pointer (some ⟨r, 0, none⟩)) ?_ ⟨_, rfl, Below.refl _ _, rfl⟩
        simp [execOp, Act.eval, go_sem, f33]
      | 18, ho =>
        obtain rfl := Option.some.inj ho
        refine flow_plain rfl rfl ?_
        have f50 : (aa.tmps.getD 50 undef) = .pointer (some ⟨r, 0, none⟩) := F.of 17 (by kernel_rfl)
        refine op_pure (.pointer (some ⟨r, 1, none⟩)) ?_ ⟨_, rfl, Below.refl _ _, rfl⟩
        simp [execOp, Act.eval, go_sem, f50]
      | j + 19, ho => omega
    · intro i o hi hS ho l aa w' F
      have hlow := F.low
      match i, ho with
      | 0, ho => exact Bool.noConfusion (hS.symm.trans (show _ = false by rfl))
      | 1, ho => exact Bool.noConfusion (hS.symm.trans (show _ = false by rfl))
      | 2, ho => exact Bool.noConfusion (hS.symm.trans (show _ = false by rfl))
      | 3, ho => exact Bool.noConfusion (hS.symm.trans (show _ = false by rfl))
      | 4, ho => exact Bool.noConfusion (hS.symm.trans (show _ = false by rfl))
      | 5, ho => exact Bool.noConfusion (hS.symm.trans (show _ = false by rfl))
      | 6, ho => exact Bool.noConfusion (hS.symm.trans (show _ = false by rfl))
      | 7, ho => exact Bool.noConfusion (hS.symm.trans (show _ = false by rfl))
      | 8, ho =>
        obtain rfl := Option.some.inj ho
        refine flow_plain rfl rfl ?_
        have f34 : ∃ g, (aa.tmps.getD 34 undef) = .slice (some ⟨g, 0, none⟩) 0 0 ∧ w'.heap[g]? = some (.cells #[] 3 (0, 0)) ∧ w2.heap.size ≤ g := due_not (F.of 1 (by kernel_rfl)) F.due
        have f40 : (aa.tmps.getD 40 undef) = .slice Ab k cb := F.of 7 (by kernel_rfl)
        obtain ⟨g, e50, h50, hg50⟩ := f34
        refine op_append_row nb (fun _ => rfl) (.tmp 34) (.tmp 40) 22 rfl w2.heap.size 3 3 0 (.int .i64 0) 8 Tryd.underlying22 info_intR rfl (by decide) _ [] (ys.take k) _ e50 f40 (own_zero h50 hg50) ((HSL2.out.upto k hky).below hlow) (by have := hfity; simp; omega) (Nat.le_trans (by simp) hlow.size) ?_
        intro v' w2 ho2 hg2
        refine ⟨_, rfl, below_grown hlow hlow.size hg2 (fun q hq => by cases hq; exact hg50), .inr ho2, ?_⟩
        intro j hj hji hlj h
        match j, h with
        | 0, h => exact h
        | 1, h => exact .inl (getD_self (by rw [F.sz]; decide))
        | 2, h => exact h
        | 3, h => exact h
        | 4, h => exact h
        | 5, h => exact h
        | 6, h => exact h
        | 7, h => exact h
        | 8, h => exact absurd rfl hji
        | 9, h => exact h
        | 10, h => exact h
        | 11, h => exact h
        | 12, h => exact h
        | 13, h => exact h
        | 14, h => exact h
        | 15, h => exact h
        | 16, h => exact absurd (F.cl.reach 20 _ _ hlj (by kernel_rfl)) (by rw [F.due]; decide)
        | 17, h => exact h
        | 18, h => exact h
        | j + 19, h => omega
      | 9, ho => exact Bool.noConfusion (hS.symm.trans (show _ = false by rfl))
      | 10, ho => exact Bool.noConfusion (hS.symm.trans (show _ = false by rfl))
      | 11, ho => exact Bool.noConfusion (hS.symm.trans (show _ = false by rfl))
      | 12, ho => exact Bool.noConfusion (hS.symm.trans (show _ = false by rfl))
      | 13, ho => exact Bool.noConfusion (hS.symm.trans (show _ = false by rfl))
      | 14, ho => exact Bool.noConfusion (hS.symm.trans (show _ = false by rfl))
      | 15, ho => exact Bool.noConfusion (hS.symm.trans (show _ = false by rfl))
      | 16, ho =>
        obtain rfl := Option.some.inj ho
        refine flow_plain rfl rfl ?_
        have f41 : w'.ownsRow w2.heap.size 3 1 (aa.tmps.getD 41 undef) (ys.take k).length ((ys.take k).map nb) := due_not (F.of 8 (by kernel_rfl)) F.due
        have f48 : (aa.tmps.getD 48 undef) = .slice (if cb = m then Ab else Ab.map fun x => x.add m) (n - m) (cb - m) := F.of 15 (by kernel_rfl)
        refine op_append_row nb (fun _ => rfl) (.tmp 41) (.tmp 48) 22 rfl w2.heap.size 3 3 0 (.int .i64 0) 8 Tryd.underlying22 info_intR rfl (by decide) _ (ys.take k) (ys.drop m) _ rfl f48 f41 ((HSL2.out.low m hkky).below hlow) (by have := hfity; simp; omega) hlow.size ?_
        intro v' w2 ho2 hg2
        refine ⟨_, rfl, below_grown hlow hlow.size hg2 (fun q hq => (own_row f41 q hq).1), ho2, ?_⟩
        intro j hj hji hlj h
        match j, h with
        | 0, h => exact h
        | 1, h => exact h.elim (fun h => .inl (getD_mono h)) fun h => .inl (getD_mono (F.did 8 (by kernel_rfl)))
        | 2, h => exact h
        | 3, h => exact h
        | 4, h => exact h
        | 5, h => exact h
        | 6, h => exact h
        | 7, h => exact h
        | 8, h => exact .inl (getD_self (by rw [F.sz]; decide))
        | 9, h => exact h
        | 10, h => exact h
        | 11, h => exact h
        | 12, h => exact h
        | 13, h => exact h
        | 14, h => exact h
        | 15, h => exact h
        | 16, h => exact absurd rfl hji
        | 17, h => exact h
        | 18, h => exact h
        | j + 19, h => omega
      | 17, ho => exact Bool.noConfusion (hS.symm.trans (show _ = false by rfl))
      | 18, ho => exact Bool.noConfusion (hS.symm.trans (show _ = false by rfl))
      | j + 19, ho => omega
    intro vs l w' hall hlow hvs
    refine ⟨fun hx => absurd hx (by decide), fun hx => ?_⟩
    clear hx
    have ha : vs 18 = .pointer (some ⟨r, 1, none⟩) := hvs 18 (by decide)
    have ho : w'.ownsRow w2.heap.size 3 1 (vs 16) (ys.take k ++ ys.drop m).length ((ys.take k ++ ys.drop m).map nb) := hvs 16 (by decide)
    obtain ⟨AN, cN, hv, _, _⟩ := own_sh2 ho
    rw [hv] at ho
    have hbx := below_heap hlow HBOX2.out
    obtain ⟨hc, hf⟩ := blk hbx
    refine flow_plain rfl rfl ?_
    simp only [putL, Act.put, List.setIfInBounds_toArray, List.set_cons_zero, List.set_cons_succ, Nat.reduceAdd]
    rw [hv, ha]
    refine op_skip0 (w'.setCell ⟨r, 1, none⟩ (.slice AN (ys.take k ++ ys.drop m).length cN)) (by simp [execOp, Act.eval, go_sem, hc, hf]) rfl ?_
    have HN3 := Aside0.mk (And.intro (own_put hrW2 ho 1 (.slice AN (ys.take k ++ ys.drop m).length cN)) (And.intro (box_put hbx 1 (.slice AN (ys.take k ++ ys.drop m).length cN)) (grw_then (grown_of_below (some r) hlow) (grw_set w' r 1 (.slice AN (ys.take k ++ ys.drop m).length cN)))))
    clear hvs hall hlow ha hv hbx hc hf ho
    obtain ⟨w3, hwN⟩ : ∃ w3, w3 = w'.setCell ⟨r, 1, none⟩ (.slice AN (ys.take k ++ ys.drop m).length cN) := ⟨_, rfl⟩
    rw [← hwN] at HN3 ⊢
    obtain ⟨v3, hvN⟩ : ∃ v3, v3 = Value.slice AN (ys.take k ++ ys.drop m).length cN := ⟨_, rfl⟩
    rw [← hvN] at HN3 ⊢
    clear hwN hvN
    go_wp2_with fail
    go_ret
    refine ⟨rfl, ⟨v2, v3, HN3.out.2.1, ?_, ?_, HGS.out, HLS.out, H1.out.lpv, H1.out.lbv⟩, grw_then (grown_of_below (some r) HB1.out) (grw_then HN.out.2.2 HN3.out.2.2)⟩
    · rw [← HKX.out]
      exact own_box (own_mono HN.out.1 (by omega)) HN3.out.2.2
    · rw [← HKY.out]
      exact own_mono HN3.out.1 (by omega)
end Go.Proofs.YtoigmepkhiknbaaDoor
