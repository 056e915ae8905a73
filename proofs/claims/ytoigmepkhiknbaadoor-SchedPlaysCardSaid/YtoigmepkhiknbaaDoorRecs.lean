/-
  Words for memory that belongs to a few types: what keeps all blocks but those of these types, and slices of structs, k cells each. No condition.
-/
import Derived.Test.YtoigmepkhiknbaaDoorBase
import Derived.OneCell
namespace Go.Proofs.YtoigmepkhiknbaaDoor
open Go.RowKit
set_option linter.unusedVariables false

/-- All is as it was but, from base on, blocks of the types T. -/
structure Keeps (T : Nat → Prop) (base : Nat) (w w' : World) : Prop where
  os : w'.os = w.os
  tape : w'.tape = w.tape
  output : w'.output = w.output
  size : w.heap.size ≤ w'.heap.size
  block : ∀ k, k < w.heap.size → (k < base ∨ ∀ cur e fr, w.heap[k]? = some (.cells cur e fr) → ¬ T e) → w'.heap[k]? = w.heap[k]?

theorem Keeps.refl (T : Nat → Prop) (base : Nat) (w : World) : Keeps T base w w := ⟨rfl, rfl, rfl, Nat.le_refl _, fun _ _ _ => rfl⟩
theorem Keeps.of_below {T : Nat → Prop} {base : Nat} {w w' : World} (h : Below w.heap.size w w') : Keeps T base w w' := ⟨h.os, h.tape, h.output, h.size, fun k hk _ => h.block k hk⟩
theorem Keeps.trans {T : Nat → Prop} {base : Nat} {w w1 w2 : World} (h : Keeps T base w w1) (k : Keeps T base w1 w2) : Keeps T base w w2 :=
  ⟨k.os.trans h.os, k.tape.trans h.tape, k.output.trans h.output, Nat.le_trans h.size k.size, fun i hi hc => by
    have e := h.block i hi hc
    rw [k.block i (Nat.lt_of_lt_of_le hi h.size) (by rw [e]; exact hc), e]⟩
theorem Keeps.below {T : Nat → Prop} {base : Nat} {w w' : World} (h : Keeps T base w w') {b : Nat} (hb : b ≤ base) (hs : base ≤ w.heap.size) : Below b w w' :=
  ⟨h.os, h.tape, h.output, h.size, fun k hk => h.block k (by omega) (.inl (by omega))⟩
theorem Keeps.then_below {T : Nat → Prop} {base : Nat} {w w1 w2 : World} (h : Keeps T base w w1) (k : Below w1.heap.size w1 w2) : Keeps T base w w2 := h.trans (.of_below k)
theorem Keeps.drew {T : Nat → Prop} {base : Nat} {w w1 : World} (h : Keeps T base w w1) : Keeps T base w w1.drew := h.then_below (Below.refl _ _).drew
theorem Keeps.alloc {T : Nat → Prop} {base : Nat} {w w1 : World} (h : Keeps T base w w1) (o : Obj) : Keeps T base w (w1.alloc o) := h.then_below ((Below.refl _ _).alloc (Nat.le_refl _) _)
theorem Keeps.wider {T T' : Nat → Prop} {base base' : Nat} {w w' : World} (h : Keeps T base w w') (hT : ∀ e, T e → T' e) (hb : base' ≤ base) : Keeps T' base' w w' :=
  ⟨h.os, h.tape, h.output, h.size, fun k hk hc => h.block k hk (hc.imp (by omega) (fun f cur e fr hh ht => f cur e fr hh (hT e ht)))⟩
/-- A row grows, or is written. -/
theorem Keeps.grown {T : Nat → Prop} {base : Nat} {w w' : World} {row : Option Nat} (h : w.grownBy w' row) (hr : ∀ k, row = some k → base ≤ k ∧ ∃ cur e fr, w.heap[k]? = some (.cells cur e fr) ∧ T e) : Keeps T base w w' :=
  ⟨h.os, h.tape, h.output, h.size, fun k hk hc => h.block k hk (by
    rintro rfl
    obtain ⟨h1, cur, e, fr, h2, h3⟩ := hr k rfl
    rcases hc with hc | hc
    · omega
    · exact hc cur e fr h2 h3)⟩
/-- A cell is set. -/
theorem Keeps.setCell {T : Nat → Prop} {base : Nat} {w : World} {a : Addr} {cur : Array Value} {e : Nat} {fr : Nat × Nat} (ha : base ≤ a.block) (hh : w.heap[a.block]? = some (.cells cur e fr)) (hT : T e) (u : Value) : Keeps T base w (w.setCell a u) :=
  ⟨rfl, rfl, rfl, by simp, fun k hk hc => Below.heap_setCell w a u k (by
    rintro rfl
    rcases hc with hc | hc
    · omega
    · exact hc _ _ _ hh hT)⟩

theorem RdT.keeps {w w1 : World} {base b e : Nat} {A : Option Addr} {cs : List Value} {T : Nat → Prop} (h : RdT w b e A cs) (hk : Keeps T base w w1) (hT : ¬ T e) (hb : b ≤ base) : RdT w1 b e A cs :=
  h.move fun ad hA hne => hk.block _ (h.lt hA hne) (by
    rcases h.home ad hA hne with h1 | ⟨cur, fr, h1⟩
    · exact .inl (by omega)
    · refine .inr fun cur' e' fr' h2 ht => ?_
      rw [h1] at h2
      injection h2 with h2; injection h2 with _ h2
      exact hT (h2 ▸ ht))
theorem Sl.keeps {α : Type} {enc : α → Value} {w w1 : World} {base b e : Nat} {v : Value} {xs : List α} {T : Nat → Prop} (h : Sl enc e w b v xs) (hk : Keeps T base w w1) (hT : ¬ T e) (hb : b ≤ base) : Sl enc e w1 b v xs := by
  obtain ⟨A, c, h1, h2, h3, h4⟩ := h
  exact ⟨A, c, h1, h2, h3, h4.keeps hk hT hb⟩
theorem own_keeps {w w1 : World} {base b e size n : Nat} {v : Value} {cs : List Value} {T : Nat → Prop} (h : w.ownsRow b e size v n cs) (hk : Keeps T base w w1) (hT : ¬ T e) : w1.ownsRow b e size v n cs := by
  obtain ⟨h1, h2⟩ := h
  refine ⟨h1, h2.imp id fun ⟨g, cap, cur, he, hg, hh, hr⟩ => ⟨g, cap, cur, he, hg, ?_, hr⟩⟩
  rw [hk.block g (blk_lt hh) (.inr fun cur' e' fr' h2 ht => ?_)]
  · exact hh
  · rw [hh] at h2
    injection h2 with h2; injection h2 with _ h2
    exact hT (h2 ▸ ht)
theorem heap_keeps {w w1 : World} {base g : Nat} {cur : Array Value} {e : Nat} {fr : Nat × Nat} {T : Nat → Prop} (h : w.heap[g]? = some (.cells cur e fr)) (hk : Keeps T base w w1) (hT : g < base ∨ ¬ T e) : w1.heap[g]? = some (.cells cur e fr) := by
  rw [hk.block g (blk_lt h) (hT.imp id fun hT cur' e' fr' h2 ht => ?_)]
  · exact h
  · rw [h] at h2
    injection h2 with h2; injection h2 with _ h2
    exact hT (h2 ▸ ht)

theorem own_blk_lt {w : World} {base e size n : Nat} {v : Value} {cs : List Value} (h : w.ownsRow base e size v n cs) : ∀ k, v.ownBlock = some k → k < w.heap.size := by
  intro k hk
  obtain ⟨_, cur, fr, e', h2, _⟩ := own_row h k hk
  exact (Array.getElem?_eq_some_iff.1 h2).1
/-- What stands at an element's field. -/
theorem flat_get {α : Type} {cells : α → List Value} {k : Nat} (hk : ∀ x, (cells x).length = k) : ∀ (xs : List α) (i j : Nat) (hi : i < xs.length) (hj : j < k), (xs.flatMap cells)[i * k + j]? = (cells (xs[i]'hi))[j]?
  | x :: xs, 0, j, _, hj => by
    rw [List.flatMap_cons, Nat.zero_mul, Nat.zero_add, List.getElem?_append_left (by rw [hk]; exact hj)]; rfl
  | x :: xs, i + 1, j, hi, hj => by
    rw [List.flatMap_cons, List.getElem?_append_right (by rw [hk, Nat.succ_mul]; omega), hk, show (i + 1) * k + j - k = i * k + j by rw [Nat.succ_mul]; omega]
    exact flat_get hk xs i j (by simpa using hi) hj
theorem flat_len {α : Type} {cells : α → List Value} {k : Nat} (hk : ∀ x, (cells x).length = k) : ∀ (xs : List α), (xs.flatMap cells).length = xs.length * k
  | [] => by simp
  | x :: xs => by rw [List.flatMap_cons, List.length_append, hk, flat_len hk xs, List.length_cons, Nat.succ_mul]; omega
theorem flat_set {α : Type} {cells : α → List Value} {k : Nat} (hk : ∀ x, (cells x).length = k) : ∀ (xs : List α) (i : Nat) (y : α), i < xs.length → ((xs.set i y).flatMap cells) = (xs.flatMap cells).take (i * k) ++ cells y ++ (xs.flatMap cells).drop (i * k + k)
  | x :: xs, 0, y, _ => by
    simp only [List.set_cons_zero, List.flatMap_cons, Nat.zero_mul, Nat.zero_add, List.take_zero, List.nil_append]
    rw [List.drop_append_of_le_length (by rw [hk]; omega), List.drop_of_length_le (by rw [hk]; omega), List.nil_append]
  | x :: xs, i + 1, y, h => by
    simp only [List.set_cons_succ, List.flatMap_cons]
    rw [flat_set hk xs i y (by simpa using h), Nat.succ_mul]
    rw [show i * k + k = (cells x).length + i * k by rw [hk]; omega, List.take_length_add_append]
    rw [show (cells x).length + i * k + k = (cells x).length + (i * k + k) by omega, List.drop_length_add_append]
    simp only [List.append_assoc, hk, Nat.add_comm k (i * k)]
theorem flat_take {α : Type} {cells : α → List Value} {k : Nat} (hk : ∀ x, (cells x).length = k) : ∀ (xs : List α) (i : Nat), (xs.take i).flatMap cells = (xs.flatMap cells).take (i * k)
  | [], i => by simp
  | x :: xs, 0 => by simp
  | x :: xs, i + 1 => by
    rw [List.take_succ_cons, List.flatMap_cons, List.flatMap_cons, flat_take hk xs i, Nat.succ_mul, show i * k + k = (cells x).length + i * k by rw [hk]; omega, List.take_length_add_append]
theorem flat_drop {α : Type} {cells : α → List Value} {k : Nat} (hk : ∀ x, (cells x).length = k) : ∀ (xs : List α) (i : Nat), (xs.drop i).flatMap cells = (xs.flatMap cells).drop (i * k)
  | [], i => by simp
  | x :: xs, 0 => by simp
  | x :: xs, i + 1 => by
    rw [List.drop_succ_cons, List.flatMap_cons, flat_drop hk xs i, Nat.succ_mul, show i * k + k = (cells x).length + i * k by rw [hk]; omega, List.drop_length_add_append]

/-- A slice of structs that can be read. -/
def SlC {α : Type} (cells : α → List Value) (e : Nat) (w : World) (base : Nat) (v : Value) (xs : List α) : Prop :=
  ∃ A c, v = .slice A xs.length c ∧ xs.length ≤ c ∧ c ≤ maxLen ∧ RdT w base e A (xs.flatMap cells)
section
variable {α : Type} {cells : α → List Value} {e k : Nat} {w w1 : World} {base : Nat} {v : Value} {xs : List α}
theorem SlC.below (h : SlC cells e w base v xs) (hb : Below w.heap.size w w1) : SlC cells e w1 base v xs := by
  obtain ⟨A, c, h1, h2, h3, h4⟩ := h
  exact ⟨A, c, h1, h2, h3, h4.below hb⟩
theorem SlC.mono {base' : Nat} (h : SlC cells e w base v xs) (hb : base ≤ base') : SlC cells e w base' v xs := by
  obtain ⟨A, c, h1, h2, h3, h4⟩ := h
  exact ⟨A, c, h1, h2, h3, h4.mono hb⟩
theorem SlC.old {b e' : Nat} (h : SlC cells e w base v xs) (hb : w.heap.size ≤ b) : SlC cells e' w b v xs := by
  obtain ⟨A, c, h1, h2, h3, h4⟩ := h
  exact ⟨A, c, h1, h2, h3, h4.old hb⟩
theorem SlC.keeps {T : Nat → Prop} {b : Nat} (h : SlC cells e w b v xs) (hk : Keeps T base w w1) (hT : ¬ T e) (hb : b ≤ base) : SlC cells e w1 b v xs := by
  obtain ⟨A, c, h1, h2, h3, h4⟩ := h
  exact ⟨A, c, h1, h2, h3, h4.keeps hk hT hb⟩
/-- The cells of an element. -/
theorem SlC.at (hk : ∀ x, (cells x).length = k) (hk0 : 0 < k) (h : SlC cells e w base v xs) (i : Nat) (hi : i < xs.length) : ∃ ad c, v = .slice (some ad) xs.length c ∧ ∀ j u, (cells (xs[i]'hi))[j]? = some u → w.cell? (ad.add (i * k + j)) = some u := by
  obtain ⟨A, c, rfl, h2, h3, h4⟩ := h
  obtain ⟨ad, rfl, _⟩ := h4.cell (i * k + 0) ((cells (xs[i]'hi))[0]'(by rw [hk]; omega)) (by rw [flat_get hk xs i 0 hi (by omega)]; exact List.getElem?_eq_getElem _)
  refine ⟨ad, c, rfl, fun j u hj => ?_⟩
  have hjk : j < k := by have := (List.getElem?_eq_some_iff.1 hj).1; rwa [hk] at this
  obtain ⟨ad', h5, h6⟩ := h4.cell (i * k + j) u (by rw [flat_get hk xs i j hi hjk]; exact hj)
  cases h5; exact h6
/-- What is owned can be read. -/
theorem SlC.of_own (h : w.ownsRow base e k v xs.length (xs.flatMap cells)) (b : Nat) : SlC cells e w b v xs := by
  rcases h.2 with ⟨rfl, h0⟩ | ⟨g, cap, cur, rfl, hb, hg, h1, h2, h3, h4⟩
  · obtain rfl : xs = [] := List.eq_nil_of_length_eq_zero h0
    exact ⟨none, 0, rfl, Nat.le_refl _, by simp [maxLen], RdT.nil _ _ _ _⟩
  · exact ⟨_, cap, rfl, h1, h2, fun j u hj => ⟨_, rfl, h.cells (g := g) rfl j u hj⟩, fun ad hA _ => .inr ⟨cur, (0, 0), by cases hA; exact hg⟩⟩
end
end Go.Proofs.YtoigmepkhiknbaaDoor
