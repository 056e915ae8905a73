/-
  Words for the texts of this seat: rows of cells that are read, rows that the call owns, and how both stand when the world goes on. No condition.
-/
import Derived.WalkKit
import Derived.WalkSpells
import Derived.WalkLawsBesides
import Derived.WalkSmall
import Derived.Deep.QuietTactic
import Derived.BigQuiet
import Derived.Outline
import Derived.IntWalk
import Derived.OwnWalk
import Derived.Maps.AppendAt
import Derived.Laws.BytesArg
import Derived.Laws.MakeOwn
import Derived.Lib.SlBytesConst
import Derived.Deep.LoopGhost
import Derived.Deep.DeepCutAuto
import Derived.Deep.CutBlock
import Derived.KernelRfl
namespace Go.Proofs.YtoigmepkhiknbaaDoor
open Go.RowKit
set_option linter.unusedVariables false

/-- A fact that the walk doesn't look into. -/
structure Aside0 (p : Prop) : Prop where mk :: (out : p)

/-- A byte's value. -/
def bv (x : UInt8) : Value := .int .u8 (x.toNat : Int)
/-- A number's value. -/
def iv (n : Int) : Value := .int .i64 n
/-- A text's value. -/
def sv (s : ByteArray) : Value := .string s

theorem add_eq (ad : Addr) (j : Nat) : (ad.add j).block = ad.block := by unfold Addr.add; split <;> rfl

/-- These cells can be read from A on; they lie in a block that was there (below base), or in one of element type e. -/
structure RdT (w : World) (base e : Nat) (A : Option Addr) (cs : List Value) : Prop where
  cell : ∀ j u, cs[j]? = some u → ∃ ad, A = some ad ∧ w.cell? (ad.add j) = some u
  home : ∀ ad, A = some ad → cs ≠ [] → ad.block < base ∨ ∃ cur fr, w.heap[ad.block]? = some (.cells cur e fr)

theorem RdT.nil (w : World) (base e : Nat) (A : Option Addr) : RdT w base e A [] := ⟨fun j u h => by simp at h, fun _ _ h => absurd rfl h⟩

theorem RdT.lt {w : World} {base e : Nat} {A : Option Addr} {cs : List Value} (h : RdT w base e A cs) {ad : Addr} (hA : A = some ad) (hne : cs ≠ []) : ad.block < w.heap.size := by
  obtain ⟨c, l, rfl⟩ := List.exists_cons_of_ne_nil hne
  obtain ⟨ad', h1, h2⟩ := h.cell 0 c rfl
  rw [hA] at h1; cases h1
  have := World.block_lt_of_cell? w _ h2
  rwa [add_eq] at this

/-- The world goes on; the blocks below some number that these cells lie in stay. -/
theorem RdT.move {w w1 : World} {base e : Nat} {A : Option Addr} {cs : List Value} (h : RdT w base e A cs) (hm : ∀ ad, A = some ad → cs ≠ [] → w1.heap[ad.block]? = w.heap[ad.block]?) : RdT w1 base e A cs := by
  refine ⟨fun j u hj => ?_, fun ad hA hne => ?_⟩
  · obtain ⟨ad, hA, hc⟩ := h.cell j u hj
    have hne : cs ≠ [] := by rintro rfl; simp at hj
    exact ⟨ad, hA, (World.cell?_of_block (by rw [add_eq]; exact hm ad hA hne)).trans hc⟩
  · rcases h.home ad hA hne with h1 | ⟨cur, fr, h1⟩
    · exact .inl h1
    · exact .inr ⟨cur, fr, (hm ad hA hne).trans h1⟩

theorem RdT.below {w w1 : World} {base e : Nat} {A : Option Addr} {cs : List Value} (h : RdT w base e A cs) (hb : Below w.heap.size w w1) : RdT w1 base e A cs :=
  h.move fun ad hA hne => hb.block _ (h.lt hA hne)

theorem RdT.mono {w : World} {base base' e : Nat} {A : Option Addr} {cs : List Value} (h : RdT w base e A cs) (hb : base ≤ base') : RdT w base' e A cs :=
  ⟨h.cell, fun ad hA hne => (h.home ad hA hne).imp (fun x => Nat.lt_of_lt_of_le x hb) id⟩

/-- All that is there already is below the heap's size. -/
theorem RdT.old {w : World} {base e e' : Nat} {A : Option Addr} {cs : List Value} (h : RdT w base e A cs) {b : Nat} (hb : w.heap.size ≤ b) : RdT w b e' A cs :=
  ⟨h.cell, fun ad hA hne => .inl (Nat.lt_of_lt_of_le (h.lt hA hne) hb)⟩

/-- Another row, of another element type, is written. -/
theorem RdT.other {w w1 : World} {base e : Nat} {A : Option Addr} {cs : List Value} (h : RdT w base e A cs) {row : Option Nat} (hg : w.grownBy w1 row)
    (hr : ∀ k, row = some k → base ≤ k ∧ ∃ cur fr e', w.heap[k]? = some (.cells cur e' fr) ∧ e' ≠ e) : RdT w1 base e A cs := by
  refine h.move fun ad hA hne => hg.block _ (h.lt hA hne) ?_
  rintro hk
  obtain ⟨h1, cur, fr, e', h2, h3⟩ := hr _ hk.symm
  rcases h.home ad hA hne with h4 | ⟨cur', fr', h4⟩
  · omega
  · rw [h4] at h2
    injection h2 with h2; injection h2 with _ h2
    exact h3 h2.symm

theorem RdT.getD {w : World} {base e : Nat} {A : Option Addr} {cs : List Value} (h : RdT w base e A cs) (j : Nat) (hj : j < cs.length) : ∃ ad, A = some ad ∧ w.cell? (ad.add j) = some (cs[j]'hj) :=
  h.cell j _ (by simp)

/-- A slice whose elements, one cell each, are xs. -/
def Sl {α : Type} (enc : α → Value) (e : Nat) (w : World) (base : Nat) (v : Value) (xs : List α) : Prop :=
  ∃ A c, v = .slice A xs.length c ∧ xs.length ≤ c ∧ xs.length ≤ 9223372036854775807 ∧ RdT w base e A (xs.map enc)

section
variable {α : Type} {enc : α → Value} {e : Nat} {w w1 : World} {base : Nat} {v : Value} {xs : List α}
theorem Sl.below (h : Sl enc e w base v xs) (hb : Below w.heap.size w w1) : Sl enc e w1 base v xs := by
  obtain ⟨A, c, h1, h2, h3, h4⟩ := h
  exact ⟨A, c, h1, h2, h3, h4.below hb⟩
theorem Sl.mono {base' : Nat} (h : Sl enc e w base v xs) (hb : base ≤ base') : Sl enc e w base' v xs := by
  obtain ⟨A, c, h1, h2, h3, h4⟩ := h
  exact ⟨A, c, h1, h2, h3, h4.mono hb⟩
theorem Sl.old {b e' : Nat} (h : Sl enc e w base v xs) (hb : w.heap.size ≤ b) : Sl enc e' w b v xs := by
  obtain ⟨A, c, h1, h2, h3, h4⟩ := h
  exact ⟨A, c, h1, h2, h3, h4.old hb⟩
theorem Sl.other (h : Sl enc e w base v xs) {row : Option Nat} (hg : w.grownBy w1 row)
    (hr : ∀ k, row = some k → base ≤ k ∧ ∃ cur fr e', w.heap[k]? = some (.cells cur e' fr) ∧ e' ≠ e) : Sl enc e w1 base v xs := by
  obtain ⟨A, c, h1, h2, h3, h4⟩ := h
  exact ⟨A, c, h1, h2, h3, h4.other hg hr⟩
theorem Sl.nil (enc : α → Value) (e : Nat) (w : World) (base : Nat) : Sl enc e w base (.slice none 0 0) [] := ⟨none, 0, rfl, Nat.le_refl _, by simp, RdT.nil _ _ _ _⟩
end

/-- What is owned can be read. -/
theorem Sl.of_own {α : Type} {enc : α → Value} {e : Nat} {w : World} {base b : Nat} {v : Value} {xs : List α} (h : w.ownsRow base e 1 v xs.length (xs.map enc)) : Sl enc e w b v xs := by
  rcases h.2 with ⟨rfl, h0⟩ | ⟨g, cap, cur, rfl, hb, hg, h1, h2, h3, h4⟩
  · obtain rfl : xs = [] := List.eq_nil_of_length_eq_zero h0
    exact Sl.nil _ _ _ _
  · refine ⟨_, cap, rfl, h1, by simp only [maxLen] at h2; omega, fun j u hj => ⟨_, rfl, h.cells (g := g) rfl j u hj⟩, fun ad hA _ => .inr ⟨cur, (0, 0), ?_⟩⟩
    cases hA; exact hg

theorem own_len {w : World} {base e n : Nat} {v : Value} {cs : List Value} (h : w.ownsRow base e 1 v n cs) : cs.length = n := by have := h.1; omega
/-- The row that is owned, as another row sees it. -/
theorem own_row {w : World} {base e size n : Nat} {v : Value} {cs : List Value} (h : w.ownsRow base e size v n cs) : ∀ k, v.ownBlock = some k → base ≤ k ∧ ∃ cur fr e', w.heap[k]? = some (.cells cur e' fr) ∧ e' = e := by
  intro k hk
  rcases h.2 with ⟨rfl, h0⟩ | ⟨g, cap, cur, rfl, hb, hg, _⟩
  · simp [Value.ownBlock] at hk
  · have : g = k := by simpa [Value.ownBlock] using hk
    subst this
    exact ⟨hb, cur, (0, 0), e, hg, rfl⟩
theorem own_row_ne {w : World} {base e size n e0 : Nat} {v : Value} {cs : List Value} (h : w.ownsRow base e size v n cs) (hne : e ≠ e0) : ∀ k, v.ownBlock = some k → base ≤ k ∧ ∃ cur fr e', w.heap[k]? = some (.cells cur e' fr) ∧ e' ≠ e0 := by
  intro k hk
  obtain ⟨h1, cur, fr, e', h2, rfl⟩ := own_row h k hk
  exact ⟨h1, cur, fr, e', h2, hne⟩
theorem own_below {w w1 : World} {base e size n : Nat} {v : Value} {cs : List Value} (h : w.ownsRow base e size v n cs) (hb : Below w.heap.size w w1) : w1.ownsRow base e size v n cs :=
  h.kept (row := none) ⟨hb.os, hb.tape, hb.output, hb.size, fun k hk _ => hb.block k hk⟩ (by cases v.ownBlock <;> simp)
theorem own_mono {w : World} {base base' e size n : Nat} {v : Value} {cs : List Value} (h : w.ownsRow base e size v n cs) (hb : base' ≤ base) : w.ownsRow base' e size v n cs := by
  obtain ⟨h1, h2⟩ := h
  exact ⟨h1, h2.imp id fun ⟨g, cap, cur, he, hg, hr⟩ => ⟨g, cap, cur, he, Nat.le_trans hb hg, hr⟩⟩
theorem own_base {w : World} {base e size n : Nat} {v : Value} {cs : List Value} (h : w.ownsRow base e size v n cs) : ∀ k, v.ownBlock = some k → base ≤ k := fun k hk => (own_row h k hk).1

/-- 'Below' goes on, step by step. -/
theorem below_then {B : Nat} {w w1 w2 : World} (h : Below B w w1) (hB : B ≤ w1.heap.size) (k : Below w1.heap.size w1 w2) : Below B w w2 :=
  h.trans ⟨k.os, k.tape, k.output, k.size, fun i hi => k.block i (Nat.lt_of_lt_of_le hi hB)⟩
theorem below_step {w w1 w2 : World} (h : Below w.heap.size w w1) (k : Below w1.heap.size w1 w2) : Below w.heap.size w w2 := below_then h h.size k
theorem below_grown {B : Nat} {w w1 w2 : World} (h : Below B w w1) (hB : B ≤ w1.heap.size) {row : Option Nat} (hg : w1.grownBy w2 row) (hr : ∀ k, row = some k → B ≤ k) : Below B w w2 := h.grown hg hB hr
theorem below_none {w w1 : World} (hg : w.grownBy w1 none) : Below w.heap.size w w1 := ⟨hg.os, hg.tape, hg.output, hg.size, fun k hk => hg.block k hk (by simp)⟩
theorem cell_keep {w w1 : World} (hb : Below w.heap.size w w1) {a : Addr} {v : Value} (h : w.cell? a = some v) : w1.cell? a = some v := (hb.cell (World.block_lt_of_cell? w a h)).trans h
theorem below_eq {w w1 : World} (h : w = w1) : Below w.heap.size w w1 := h ▸ Below.refl _ _
theorem bcell {W w1 : World} (hb : Below W.heap.size W w1) : (∀ b o, b < W.heap.size → w1.cell? ⟨b, o, none⟩ = W.cell? ⟨b, o, none⟩) ∧ (∀ b o, b < W.heap.size → w1.frozen? ⟨b, o, none⟩ = W.frozen? ⟨b, o, none⟩) :=
  ⟨fun b o h => hb.cell (p := ⟨b, o, none⟩) h, fun b o h => hb.frozen (p := ⟨b, o, none⟩) h⟩

theorem below_drewN {B : Nat} {w w1 : World} (h : Below B w w1) : ∀ n, Below B w (w1.drewN n)
  | 0 => h
  | n + 1 => (below_drewN h n).drew

theorem ret_i {k : IntKind} {a b : Int} (h : a = b) : Ending.returned (.int k a) = .returned (.int k b) := by rw [h]
theorem ret_b {a b : Bool} (h : a = b) : Ending.returned (.bool a) = .returned (.bool b) := by rw [h]
theorem ret_s {a b : ByteArray} (h : a = b) : Ending.returned (.string a) = .returned (.string b) := by rw [h]
theorem ret_v {a b : Value} (h : a = b) : Ending.returned a = .returned b := by rw [h]

/-! ### bytes and texts -/
theorem loop_eq (s : ByteArray) : ∀ (d i : Nat) (r : List UInt8), s.size - i = d → ByteArray.toList.loop s i r = r.reverse ++ s.data.toList.drop i := by
  intro d
  induction d with
  | zero =>
    intro i r h
    have h' : s.size ≤ i := by omega
    unfold ByteArray.toList.loop
    rw [if_neg (by omega), List.drop_eq_nil_of_le (by rw [Array.length_toList]; exact h')]
    simp
  | succ d ih =>
    intro i r h
    unfold ByteArray.toList.loop
    have hi : i < s.size := by omega
    rw [if_pos hi, ih _ _ (by omega)]
    have hi' : i < s.data.toList.length := by rw [Array.length_toList]; exact hi
    rw [List.drop_eq_getElem_cons hi']
    have hg : s.get! i = s.data.toList[i] := by
      cases s with
      | mk a => rw [Array.getElem_toList]; exact getElem!_pos a i hi
    rw [hg]
    simp
theorem toList_eq (s : ByteArray) : s.toList = s.data.toList := by
  have := loop_eq s _ 0 [] rfl
  unfold ByteArray.toList
  rw [this]
  rfl
theorem toList_inj {s t : ByteArray} (h : s.toList = t.toList) : s = t := by
  rw [toList_eq, toList_eq] at h
  cases s; cases t
  simp only at h
  rw [Array.toList_inj.1 h]
theorem length_toList (s : ByteArray) : s.toList.length = s.size := by rw [toList_eq, Array.length_toList]; rfl

/-- The text of some bytes. -/
def str (xs : List UInt8) : ByteArray := ⟨xs.toArray⟩
theorem str_toList (xs : List UInt8) : (str xs).toList = xs := by rw [toList_eq]; rfl
theorem str_size (xs : List UInt8) : (str xs).size = xs.length := by rw [← length_toList, str_toList]
theorem str_of_toList (s : ByteArray) : str s.toList = s := toList_inj (str_toList _)

/-- string(b) -/
theorem Sl.string {P : Program} {e : Nat} {w : World} {base : Nat} {v : Value} {xs : List UInt8} (h : Sl bv e w base v xs) {src dst eb : TypeId}
    (hs : P.underlying src = some (.slice eb)) (he : P.underlying eb = some (.int .u8)) (hd : P.underlying dst = some .string) : (convert src dst v).run P w = .ok (.string (str xs)) w := by
  obtain ⟨A, c, rfl, hc, hm, hR⟩ := h
  rcases A with _ | ad
  · have h0 : xs = [] := by
      cases xs with
      | nil => rfl
      | cons x xs => obtain ⟨ad, h1, _⟩ := hR.cell 0 _ rfl; cases h1
    subst h0
    exact run_convert_bytes_nil w src eb hs he 0 c dst hd
  · have hl : (loadCells ad xs.length).run P w = .ok ((xs.map fun x => (x.toNat : Int)).map (Value.int .u8)).toArray w := by
      have := run_loadCells_list (P := P) w ad ((xs.map fun x => (x.toNat : Int)).map (Value.int .u8)) (fun j u hj => by
        obtain ⟨ad', h1, h3⟩ := hR.cell j u (by rw [← hj, List.map_map]; rfl)
        cases h1
        exact h3)
      simpa using this
    rw [run_convert_bytes_string w src dst eb _ _ _ hs he hd, run_bytesToString w _ _ c (xs.map fun x => (x.toNat : Int)) (by simpa using hl), foldl_push_bytes]
    simp only [ByteArray.empty, ByteArray.emptyWithCapacity, str]
    congr 2
    simp [Function.comp_def]
    rfl

/-- []byte("..") of a constant: the fact that the walk wants ahead of it. -/
theorem convert_const {P : Program} (t e : TypeId) (ht : P.underlying t = some (.slice e)) (he : P.underlying e = some (.int .u8)) :
    ∀ (w : World) (g : Nat) (_ : w.heap.size = g) (C : Array Value) (n c : Nat), (convert t t (.slice (some ⟨g, 0, none⟩) n c)).run P (w.alloc (.cells C e)) = .ok (.slice (some ⟨g, 0, none⟩) n c) (w.alloc (.cells C e (C.size, C.size + 1))) := by
  intro w g hg C n c
  subst hg
  exact Lib.run_convert_bytes_const w t e C n c ht he

theorem heap_alloc_if (w : World) (o : Obj) (k : Nat) : (w.alloc o).heap[k]? = if k = w.heap.size then some o else w.heap[k]? := by
  show (w.heap.push o)[k]? = _
  rw [Array.getElem?_push]
theorem heap_new {w : World} {o : Obj} {g : Nat} (h : g = w.heap.size) : (w.alloc o).heap[g]? = some o := by rw [heap_alloc_if, if_pos h]
theorem heap_old {w : World} {o o' : Obj} {g : Nat} (h : w.heap[g]? = some o') : (w.alloc o).heap[g]? = some o' := by
  have := (Array.getElem?_eq_some_iff.1 h).1
  rw [heap_alloc_if, if_neg (by omega)]; exact h
theorem heap_set {w : World} {p : Addr} {u : Value} {o' : Obj} {g : Nat} (hne : g ≠ p.block) (h : w.heap[g]? = some o') : (w.setCell p u).heap[g]? = some o' := by
  rw [Below.heap_setCell w p u g hne]; exact h
theorem below_heap {W w1 : World} (hb : Below W.heap.size W w1) {g : Nat} {o : Obj} (h : W.heap[g]? = some o) : w1.heap[g]? = some o :=
  (hb.block g (Array.getElem?_eq_some_iff.1 h).1).trans h

/-- A block's cells, as the walk reads them. -/
theorem blk {w : World} {g e : Nat} {cur : Array Value} (h : w.heap[g]? = some (.cells cur e (0, 0))) : (∀ j, w.cell? ⟨g, j, none⟩ = cur[j]?) ∧ (∀ j, w.frozen? ⟨g, j, none⟩ = false) := by
  refine ⟨fun j => ?_, fun j => ?_⟩
  · simp [World.cell?, h]
  · simp [World.frozen?, h]

theorem blk_lt {w : World} {g : Nat} {o : Obj} (h : w.heap[g]? = some o) : g < w.heap.size := (Array.getElem?_eq_some_iff.1 h).1

theorem beq_swap (a b : Int) : (a == b) = (b == a) := by
  rw [Bool.eq_iff_iff]; simp; exact eq_comm

/-- A block's first cells, as a slice. -/
theorem Sl.at {α : Type} {enc : α → Value} {e : Nat} {w : World} {b g n c : Nat} {cur : Array Value} {fr : Nat × Nat} {xs : List α} (hh : w.heap[g]? = some (.cells cur e fr)) (hc : cur.toList.take xs.length = xs.map enc)
    (hn : n = xs.length) (hnc : n ≤ c) (hm : n ≤ 9223372036854775807) : Sl enc e w b (.slice (some ⟨g, 0, none⟩) n c) xs := by
  subst hn
  refine ⟨_, c, rfl, hnc, hm, fun j u hj => ⟨_, rfl, ?_⟩, fun ad hA _ => .inr ⟨cur, fr, ?_⟩⟩
  · rw [← hc, List.getElem?_take] at hj
    split at hj
    · have ha : (⟨g, 0, none⟩ : Addr).add j = ⟨g, j, none⟩ := by unfold Addr.add; split <;> simp_all
      rw [ha]
      simp only [World.cell?, hh]
      simpa using hj
    · cases hj
  · cases hA; exact hh
theorem add_add (ad : Addr) (i j : Nat) : (ad.add i).add j = ad.add (i + j) := by
  unfold Addr.add
  by_cases hi : i = 0
  · subst hi; simp
  · by_cases hj : j = 0
    · subst hj; simp [hi]
    · simp [hi, hj, Nat.add_assoc]

/-- A part of what can be read. -/
theorem RdT.cut {w : World} {base e : Nat} {ad : Addr} {cs : List Value} (h : RdT w base e (some ad) cs) (lo m : Nat) : RdT w base e (some (ad.add lo)) ((cs.drop lo).take m) := by
  refine ⟨fun j u hj => ⟨_, rfl, ?_⟩, fun ad' hA hne => ?_⟩
  · rw [List.getElem?_take] at hj
    split at hj
    · rw [List.getElem?_drop] at hj
      obtain ⟨ad', h1, h2⟩ := h.cell _ _ hj
      cases h1
      rw [add_add]; exact h2
    · cases hj
  · cases hA
    rw [add_eq]
    exact h.home ad rfl (by rintro rfl; simp at hne)

theorem Sl.cut {α : Type} {enc : α → Value} {e : Nat} {w : World} {base n c : Nat} {ad : Addr} {xs : List α} (h : Sl enc e w base (.slice (some ad) n c) xs) (lo hi : Nat) (h1 : lo ≤ hi) (h2 : hi ≤ xs.length) :
    Sl enc e w base (.slice (some (ad.add lo)) (hi - lo) (c - lo)) ((xs.drop lo).take (hi - lo)) := by
  obtain ⟨A, c', he, hc, hl, hR⟩ := h
  cases he
  have hlen : ((xs.drop lo).take (hi - lo)).length = hi - lo := by rw [List.length_take, List.length_drop]; omega
  refine ⟨_, c - lo, by rw [hlen], by rw [hlen]; omega, by rw [hlen]; omega, ?_⟩
  have := hR.cut lo (hi - lo)
  rwa [List.map_take, List.map_drop]
/-- Bytes don't lie in a box that holds none. -/
theorem Sl.under_box {e g : Nat} {w : World} {v : Value} {xs : List UInt8} (h : Sl bv e w (g + 1) v xs) {cur : Array Value} {t : Nat} {fr : Nat × Nat} (hbox : w.heap[g]? = some (.cells cur t fr)) (hcur : ∀ (j : Nat) (b : UInt8), cur[j]? ≠ some (bv b)) : Sl bv e w g v xs := by
  obtain ⟨A, c, h1, h2, h3, h4⟩ := h
  refine ⟨A, c, h1, h2, h3, h4.cell, fun ad hA hne => ?_⟩
  rcases h4.home ad hA hne with h5 | h5
  · rcases Nat.lt_or_ge ad.block g with h6 | h6
    · exact .inl h6
    · have h7 : ad.block = g := by omega
      cases xs with
      | nil => simp at hne
      | cons x xs =>
        obtain ⟨ad', h8, h9⟩ := h4.cell 0 (bv x) rfl
        rw [hA] at h8; cases h8
        have h10 : ad.add 0 = ad := rfl
        rw [h10] at h9
        simp only [World.cell?, h7, hbox] at h9
        split at h9
        · cases h9
        · exact absurd h9 (hcur _ _)
  · exact .inr h5
end Go.Proofs.YtoigmepkhiknbaaDoor
