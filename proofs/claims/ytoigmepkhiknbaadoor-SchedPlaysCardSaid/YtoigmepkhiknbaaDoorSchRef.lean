/-
  The reference's ring: find, Total, behind. No condition but lengths.
-/
import Derived.Test.YtoigmepkhiknbaaDoorSchRing
import Derived.Test.YtoigmepkhiknbaaDoorAppRows
import Derived.Test.YtoigmepkhiknbaaDoorFlowL
import Derived.Test.YtoigmepkhiknbaaDoorRefLess4
import Derived.Test.YtoigmepkhiknbaaDoorRowApp
namespace Go.Proofs.YtoigmepkhiknbaaDoor
open Go.RowKit Go.Maps Go.Joins
set_option linter.unusedVariables false
set_option linter.unusedSimpArgs false

/-- How many stand ahead. -/
def posL : List Ent → List UInt8 → Nat
  | [], _ => 0
  | x :: r, p => if lessB x.1 p = true then posL r p + 1 else 0
theorem posL_le : ∀ (l : List Ent) (p : List UInt8), posL l p ≤ l.length
  | [], _ => Nat.le_refl _
  | x :: r, p => by
    rw [posL]
    have := posL_le r p
    split
    · rw [List.length_cons]; omega
    · exact Nat.zero_le _
theorem posL_lt {p : List UInt8} : ∀ {l : List Ent} {i : Nat} (hi : i < l.length), i < posL l p → lessB (l[i]'hi).1 p = true
  | x :: r, i, hi, h => by
    by_cases hx : lessB x.1 p = true
    · have e : posL (x :: r) p = posL r p + 1 := by rw [posL, if_pos hx]
      cases i with
      | zero => exact hx
      | succ i => exact posL_lt (l := r) (i := i) (by simpa using hi) (by omega)
    · have e : posL (x :: r) p = 0 := by rw [posL, if_neg hx]
      omega
theorem posL_stop {p : List UInt8} : ∀ {l : List Ent} (hi : posL l p < l.length), lessB (l[posL l p]'hi).1 p = false
  | x :: r, hi => by
    by_cases hx : lessB x.1 p = true
    · have e : posL (x :: r) p = posL r p + 1 := by rw [posL, if_pos hx]
      have h : posL r p < r.length := by rw [e] at hi; simpa using hi
      have := posL_stop h
      simp only [e, List.getElem_cons_succ]
      exact this
    · have e : posL (x :: r) p = 0 := by rw [posL, if_neg hx]
      simp only [e, List.getElem_cons_zero]
      simpa using hx
theorem posL_at {p : List UInt8} : ∀ {l : List Ent}, l.Pairwise (fun x y => lessB x.1 y.1 = true) → ∀ (hi : posL l p < l.length), ((l[posL l p]'hi).1 == p) = hasL l p
  | x :: r, h, hi => by
    rw [List.pairwise_cons] at h
    unfold hasL
    rw [List.any_cons]
    by_cases hx : lessB x.1 p = true
    · have e : posL (x :: r) p = posL r p + 1 := by rw [posL, if_pos hx]
      have hlt : posL r p < r.length := by rw [e] at hi; simpa using hi
      have ih := posL_at h.2 hlt
      have hne : (x.1 == p) = false := by rw [beq_eq_false_iff_ne]; intro he; rw [he, lessB_strict.irr] at hx; cases hx
      simp only [e, List.getElem_cons_succ, hne, Bool.false_or]
      exact ih
    · have e : posL (x :: r) p = 0 := by rw [posL, if_neg hx]
      simp only [e, List.getElem_cons_zero]
      have hr : (r.any fun y => y.1 == p) = false := by
        rw [List.any_eq_false]
        intro y hy he
        rw [beq_iff_eq] at he
        have := h.1 y hy
        rw [he] at this
        exact hx this
      rw [hr, Bool.or_false]
theorem posL_none {p : List UInt8} : ∀ {l : List Ent}, posL l p = l.length → hasL l p = false
  | [], _ => rfl
  | x :: r, h => by
    rw [posL] at h
    split at h
    · rename_i hx
      have hne : (x.1 == p) = false := by rw [beq_eq_false_iff_ne]; intro he; rw [he, lessB_strict.irr] at hx; cases hx
      unfold hasL
      rw [List.any_cons, hne, Bool.false_or]
      exact posL_none (by simpa using h)
    · simp at h
theorem setL_found {p : List UInt8} {n : Nat} : ∀ {l : List Ent} (hi : posL l p < l.length), (l[posL l p]'hi).1 = p → setL l p n = l.set (posL l p) (p, n)
  | x :: r, hi, he => by
    by_cases hx : lessB x.1 p = true
    · have e : posL (x :: r) p = posL r p + 1 := by rw [posL, if_pos hx]
      have hlt : posL r p < r.length := by rw [e] at hi; simpa using hi
      simp only [e, List.getElem_cons_succ] at he
      rw [setL, if_pos hx, e, List.set_cons_succ, setL_found hlt he]
    · have e : posL (x :: r) p = 0 := by rw [posL, if_neg hx]
      simp only [e, List.getElem_cons_zero] at he
      rw [setL, if_neg hx, if_pos he, e, List.set_cons_zero]
theorem setL_new {p : List UInt8} {n : Nat} : ∀ {l : List Ent}, (∀ hi : posL l p < l.length, (l[posL l p]'hi).1 ≠ p) → setL l p n = l.take (posL l p) ++ (p, n) :: l.drop (posL l p)
  | [], _ => rfl
  | x :: r, h => by
    by_cases hx : lessB x.1 p = true
    · have e : posL (x :: r) p = posL r p + 1 := by rw [posL, if_pos hx]
      rw [setL, if_pos hx, e, List.take_succ_cons, List.drop_succ_cons, setL_new (fun hi => by
        have := h (by rw [e]; simpa using hi)
        simp only [e, List.getElem_cons_succ] at this
        exact this)]
      rfl
    · have e : posL (x :: r) p = 0 := by rw [posL, if_neg hx]
      have := h (by rw [e]; simp)
      simp only [e, List.getElem_cons_zero] at this
      rw [setL, if_neg hx, if_neg this, e]; rfl
theorem delL_found {p : List UInt8} {l : List Ent} (hg : l.Pairwise (fun x y => lessB x.1 y.1 = true)) : ∀ (hi : posL l p < l.length), (l[posL l p]'hi).1 = p → delL l p = l.take (posL l p) ++ l.drop (posL l p + 1) := by
  induction l with
  | nil => intro hi; simp at hi
  | cons x r ih =>
    intro hi he
    rw [List.pairwise_cons] at hg
    by_cases hx : lessB x.1 p = true
    · have e : posL (x :: r) p = posL r p + 1 := by rw [posL, if_pos hx]
      have hlt : posL r p < r.length := by rw [e] at hi; simpa using hi
      simp only [e, List.getElem_cons_succ] at he
      have hne : (x.1 == p) = false := by rw [beq_eq_false_iff_ne]; intro he; rw [he, lessB_strict.irr] at hx; cases hx
      have h1 := ih hg.2 hlt he
      unfold delL at h1 ⊢
      rw [List.filter_cons, hne, e]
      simp only [Bool.not_false, if_true, List.take_succ_cons, List.drop_succ_cons, List.cons_append]
      rw [h1]
    · have e : posL (x :: r) p = 0 := by rw [posL, if_neg hx]
      simp only [e, List.getElem_cons_zero] at he
      unfold delL
      rw [List.filter_cons, show (x.1 == p) = true from beq_iff_eq.2 he, e]
      simp only [Bool.not_true, Bool.false_eq_true, if_false, List.take_zero, List.nil_append, Nat.zero_add, List.drop_one, List.tail_cons]
      rw [List.filter_eq_self]
      intro y hy
      have h2 := hg.1 y hy
      have : (y.1 == p) = false := by
        rw [beq_eq_false_iff_ne]; intro h3; rw [h3, he, lessB_strict.irr] at h2; cases h2
      rw [this]; rfl
theorem delL_none {p : List UInt8} {l : List Ent} (h : hasL l p = false) : delL l p = l := by
  unfold delL
  rw [List.filter_eq_self]
  intro y hy
  have := List.any_eq_false.1 h y hy
  simpa using this

/-- A number, as a value. -/
def nb (k : Nat) : Value := .int .i64 (k : Int)
theorem own_get {α : Type} {enc : α → Value} {w : World} {b e n c : Nat} {A : Option Addr} {xs : List α} (h : w.ownsRow b e 1 (.slice A n c) xs.length (xs.map enc)) (i : Nat) (hi : i < xs.length) : ∃ ad, A = some ad ∧ w.cell? (ad.add i) = some (enc (xs[i]'hi)) := by
  obtain ⟨A', c', h1, _, _, h4⟩ := Sl.of_own (b := 0) h
  obtain ⟨ad, h5, h6⟩ := h4.cell i (enc (xs[i]'hi)) (by simp [List.getElem?_eq_getElem hi])
  cases h1
  exact ⟨ad, h5, h6⟩
/-- The reference's ring in memory. -/
structure RIsS (w : World) (r : Nat) (vp vb : Value) (S : SS) : Prop where
  box : w.heap[r]? = some (.cells #[vp, vb, .string (str S.lp), .int .i64 (S.lb : Int), .bool S.told] 43 (0, 0))
  paths : w.ownsRow (r + 1) 9 1 vp (keysL S.l).length ((keysL S.l).map tv)
  blocks : w.ownsRow (r + 1) 3 1 vb (S.l.map (·.2)).length ((S.l.map (·.2)).map nb)
  good : Good S.l
  few : S.l.length ≤ 100
  lpv : S.lp.length ≤ 60
  lbv : S.lb ≤ 1000000
theorem RIsS.below {w w' : World} {r : Nat} {vp vb : Value} {S : SS} (h : RIsS w r vp vb S) (hb : Below w.heap.size w w') : RIsS w' r vp vb S :=
  ⟨below_heap hb h.box, own_below h.paths hb, own_below h.blocks hb, h.good, h.few, h.lpv, h.lbv⟩
theorem own_sh2 {w : World} {base e size n : Nat} {v : Value} {cs : List Value} (h : w.ownsRow base e size v n cs) : ∃ A c, v = .slice A n c ∧ n ≤ c ∧ c ≤ maxLen := by
  rcases h.2 with ⟨rfl, rfl⟩ | ⟨g, cap, cur, rfl, _, _, h1, h2, _⟩
  · exact ⟨_, _, rfl, Nat.le_refl _, by decide⟩
  · exact ⟨_, _, rfl, h1, h2⟩
theorem RIsS.key {w : World} {r : Nat} {A : Option Addr} {n c : Nat} {vb : Value} {S : SS} (h : RIsS w r (.slice A n c) vb S) (i : Nat) (hi : i < S.l.length) : ∃ ad, A = some ad ∧ w.cell? (ad.add i) = some (.string (str (S.l[i]'hi).1)) := by
  obtain ⟨ad, h1, h2⟩ := own_get h.paths i (by unfold keysL; rw [List.length_map]; exact hi)
  exact ⟨ad, h1, by rw [h2]; simp [keysL, tv]⟩
theorem RIsS.blo {w : World} {r : Nat} {A : Option Addr} {n c : Nat} {vp : Value} {S : SS} (h : RIsS w r vp (.slice A n c) S) (i : Nat) (hi : i < S.l.length) : ∃ ad, A = some ad ∧ w.cell? (ad.add i) = some (.int .i64 ((S.l[i]'hi).2 : Int)) := by
  obtain ⟨ad, h1, h2⟩ := own_get h.blocks i (by rw [List.length_map]; exact hi)
  exact ⟨ad, h1, by rw [h2]; simp [nb]⟩
theorem RIsS.shape {w : World} {r : Nat} {vp vb : Value} {S : SS} (h : RIsS w r vp vb S) : ∃ Ap cp Ab cb, vp = .slice Ap S.l.length cp ∧ vb = .slice Ab S.l.length cb ∧ S.l.length ≤ cp ∧ S.l.length ≤ cb := by
  obtain ⟨Ap, cp, h1, h2, _⟩ := own_sh2 h.paths
  obtain ⟨Ab, cb, h3, h4, _⟩ := own_sh2 h.blocks
  unfold keysL at h1 h2
  rw [List.length_map] at h1 h2 h3 h4
  exact ⟨Ap, cp, Ab, cb, h1, h3, h2, h4⟩

set_option maxRecDepth 4000 in
set_option maxHeartbeats 4000000 in
theorem rtotal_calls {r : Nat} {vp vb : Value} {S : SS} (w : World) (h : RIsS w r vp vb S) :
    Calls Tryd.prog 20 #[.pointer (some ⟨r, 0, none⟩)] w fun e w' => e = .returned (.int .i64 (totL S.l : Int)) ∧ w' = w := by
  have H := Aside0.mk h
  obtain ⟨Ap, cp, Ab, cb, rfl, rfl, hcp, hcb⟩ := h.shape
  have c1 := (blk h.box).1 1
  simp only [List.getElem?_toArray, List.getElem?_cons_zero, List.getElem?_cons_succ] at c1
  have hrl := blk_lt h.box
  have hfew := h.few
  clear h
  go_enter Tryd.func20, Tryd.ntmps20
  go_wp2_with fail
  go_loopw [3, 4] (fun nw iw wr => ∃ i : Nat, i ≤ S.l.length ∧ nw = .int .i64 (totL (S.l.take i) : Int) ∧ iw = .int .i64 i ∧ wr = w) (fun nw iw wr => S.l.length - (intOf iw).toNat)
  case atStart => exact ⟨0, Nat.zero_le _, rfl, rfl, rfl⟩
  case round =>
    obtain ⟨i, hi, rfl, rfl, rfl⟩ := hrel
    have hb : totL (S.l.take i) ≤ 409600 := by
      have := tot_bd (l := S.l.take i) fun x hx => H.out.good.small x (List.mem_of_mem_take hx)
      rw [List.length_take] at this
      omega
    by_cases hlt : i < S.l.length
    · obtain ⟨ad, rfl, hcell⟩ := H.out.blo i hlt
      have hs := H.out.good.small _ (List.getElem_mem hlt)
      have HT : Aside0 (totL (S.l.take (i + 1)) = totL (S.l.take i) + (S.l[i]'hlt).2) := ⟨by
        unfold totL
        rw [List.take_add_one, List.getElem?_eq_getElem hlt, List.map_append, List.sum_append]
        simp⟩
      obtain ⟨t, ht⟩ : ∃ t, t = totL (S.l.take i) := ⟨_, rfl⟩
      obtain ⟨x, hx⟩ : ∃ x, x = (S.l[i]'hlt).2 := ⟨_, rfl⟩
      rw [← ht, ← hx] at HT
      rw [← hx] at hcell hs
      rw [← ht] at hb ⊢
      clear ht hx
      go_wp2_with fail
      go_roundw
      case rel => exact ⟨i + 1, by omega, by rw [HT.out]; go_num, by go_num, trivial⟩
      case measure => simp [intOf]; omega
    · obtain rfl : i = S.l.length := by omega
      rw [List.take_length]
      go_wp2_with fail
      go_ret
      exact ⟨rfl, rfl⟩

/-- Is a visit behind another? -/
def rbeh (a b : Ent) : Bool := lessB b.1 a.1 || (a.1 == b.1 && decide (b.2 < a.2))
set_option maxRecDepth 4000 in
set_option maxHeartbeats 4000000 in
theorem rbeh_calls (p q : ByteArray) (i j : Nat) (w : World) (hp : p.size ≤ 1000000000) (hq : q.size ≤ 1000000000) (hi : i ≤ 2000000) (hj : j ≤ 2000000) :
    Calls Tryd.prog 29 #[.agg #[.string p, .int .i64 (i : Int)], .agg #[.string q, .int .i64 (j : Int)]] w fun e w' => e = .returned (.bool (rbeh (p.data.toList, i) (q.data.toList, j))) ∧ Below w.heap.size w w' := by
  have HL := Aside0.mk (fun W => rless_calls q p W hq hp)
  unfold rbeh
  obtain ⟨b, hb⟩ : ∃ b, lessB q.data.toList p.data.toList = b := ⟨_, rfl⟩
  rw [hb] at HL
  simp only [hb]
  obtain ⟨c, hc⟩ : ∃ c, (p.data.toList == q.data.toList) = c := ⟨_, rfl⟩
  rw [hc]
  have hc2 : (p.toList == q.toList) = c := by rw [toList_eq, toList_eq]; exact hc
  have HBX : Aside0 (∀ o1 o2 : Obj, Below w.heap.size w ((w.alloc o1).alloc o2)) := ⟨fun o1 o2 => ((Below.refl _ _).alloc (Nat.le_refl _) _).alloc (by simp) _⟩
  clear hb hc
  cases b
  · cases c
    · go_enter Tryd.func29, Tryd.ntmps29
      go_wp2_with fail
      refine (HL.out _).mono ?_
      rintro e w2 ⟨rfl, hb2⟩
      have hv1 := below_heap hb2 (heap_old (heap_new (w := w) (o := .cells #[.string p, .int .i64 (i : Int)] 41 (0, 0)) rfl))
      have hv2 := below_heap hb2 (heap_new (w := w.alloc (.cells #[.string p, .int .i64 (i : Int)] 41 (0, 0))) (o := .cells #[.string q, .int .i64 (j : Int)] 41 (0, 0)) rfl)
      rw [World.size_alloc] at hv2
      have v0 := (blk hv1).1 0
      have v1 := (blk hv1).1 1
      have u0 := (blk hv2).1 0
      have u1 := (blk hv2).1 1
      simp only [List.getElem?_toArray, List.getElem?_cons_zero, List.getElem?_cons_succ] at v0 v1 u0 u1
      have HB := Aside0.mk (below_step (HBX.out _ _) hb2)
      have hl2 := blk_lt hv2
      clear hv1 hv2 hb2
      go_wp2_with fail
      go_ret
      exact ⟨rfl, HB.out⟩
    · go_enter Tryd.func29, Tryd.ntmps29
      go_wp2_with fail
      refine (HL.out _).mono ?_
      rintro e w2 ⟨rfl, hb2⟩
      have hv1 := below_heap hb2 (heap_old (heap_new (w := w) (o := .cells #[.string p, .int .i64 (i : Int)] 41 (0, 0)) rfl))
      have hv2 := below_heap hb2 (heap_new (w := w.alloc (.cells #[.string p, .int .i64 (i : Int)] 41 (0, 0))) (o := .cells #[.string q, .int .i64 (j : Int)] 41 (0, 0)) rfl)
      rw [World.size_alloc] at hv2
      have v0 := (blk hv1).1 0
      have v1 := (blk hv1).1 1
      have u0 := (blk hv2).1 0
      have u1 := (blk hv2).1 1
      simp only [List.getElem?_toArray, List.getElem?_cons_zero, List.getElem?_cons_succ] at v0 v1 u0 u1
      have HB := Aside0.mk (below_step (HBX.out _ _) hb2)
      have hl2 := blk_lt hv2
      clear hv1 hv2 hb2
      go_wp2_with fail
      go_ret
      exact ⟨rfl, HB.out⟩
  · go_enter Tryd.func29, Tryd.ntmps29
    go_wp2_with fail
    refine (HL.out _).mono ?_
    rintro e w2 ⟨rfl, hb2⟩
    have hv1 := below_heap hb2 (heap_old (heap_new (w := w) (o := .cells #[.string p, .int .i64 (i : Int)] 41 (0, 0)) rfl))
    have hv2 := below_heap hb2 (heap_new (w := w.alloc (.cells #[.string p, .int .i64 (i : Int)] 41 (0, 0))) (o := .cells #[.string q, .int .i64 (j : Int)] 41 (0, 0)) rfl)
    rw [World.size_alloc] at hv2
    have v0 := (blk hv1).1 0
    have v1 := (blk hv1).1 1
    have u0 := (blk hv2).1 0
    have u1 := (blk hv2).1 1
    simp only [List.getElem?_toArray, List.getElem?_cons_zero, List.getElem?_cons_succ] at v0 v1 u0 u1
    have HB := Aside0.mk (below_step (HBX.out _ _) hb2)
    have hl2 := blk_lt hv2
    clear hv1 hv2 hb2
    go_wp2_with fail
    go_ret
    exact ⟨rfl, HB.out⟩

set_option maxRecDepth 4000 in
set_option maxHeartbeats 4000000 in
theorem rfind_calls {r : Nat} {vp vb : Value} {S : SS} (p : ByteArray) (w : World) (h : RIsS w r vp vb S) (hp : p.size ≤ 1000000000) :
    Calls Tryd.prog 28 #[.pointer (some ⟨r, 0, none⟩), .string p] w fun e w' => e = .returned (.tuple #[.int .i64 (posL S.l p.data.toList : Int), .bool (hasL S.l p.data.toList)]) ∧ Below w.heap.size w w' := by
  obtain ⟨Ap, cp, Ab, cb, rfl, rfl, hcp, hcb⟩ := h.shape
  have hfew := h.few
  have HB0 := Aside0.mk (And.intro h (Below.refl w.heap.size w))
  clear h
  obtain ⟨q, hq⟩ : ∃ q, q = posL S.l p.data.toList := ⟨_, rfl⟩
  have HQ := Aside0.mk hq
  have hql : q ≤ S.l.length := by rw [hq]; exact posL_le _ _
  rw [← hq]
  obtain ⟨o, ho⟩ : ∃ o, hasL S.l p.data.toList = o := ⟨_, rfl⟩
  rw [ho]
  have HO := Aside0.mk ho
  clear hq ho
  go_enter Tryd.func28, Tryd.ntmps28
  go_wp2_with fail
  go_loopw [6] (fun kw wr => ∃ k : Nat, k ≤ q ∧ kw = .int .i64 k ∧ Aside0 (RIsS wr r (.slice Ap S.l.length cp) (.slice Ab S.l.length cb) S ∧ Below w.heap.size w wr)) (fun kw wr => q - (intOf kw).toNat)
  case atStart => exact ⟨0, Nat.zero_le _, rfl, HB0⟩
  case round =>
    obtain ⟨k, hk, rfl, hs⟩ := hrel
    have cbx := (blk hs.out.1.box).1
    have c0 := cbx 0
    simp only [List.getElem?_toArray, List.getElem?_cons_zero, List.getElem?_cons_succ] at c0
    have hrl := blk_lt hs.out.1.box
    clear cbx
    by_cases hlt : k < S.l.length
    · have z1 : (k : Int) < (S.l.length : Int) := by omega
      obtain ⟨ad, rfl, hcell⟩ := hs.out.1.key k hlt
      have hv := valid_len (hs.out.1.good.paths _ (List.getElem_mem hlt))
      obtain ⟨x, hx⟩ : ∃ x, x = str (S.l[k]'hlt).1 := ⟨_, rfl⟩
      have hxl : x.size ≤ 1000000000 := by rw [hx, str_size]; omega
      rw [← hx] at hcell
      have HL := Aside0.mk (fun W => rless_calls x p W hxl hp)
      by_cases hkq : k < q
      · have hb : lessB x.data.toList p.data.toList = true := by rw [hx, str_data]; exact posL_lt hlt (by rw [← HQ.out]; exact hkq)
        rw [hb] at HL
        clear hb hx hv
        go_wp2_with fail
        refine (HL.out _).mono ?_
        rintro e w2 ⟨rfl, hb2⟩
        have H2 := Aside0.mk (And.intro (hs.out.1.below hb2) (below_step hs.out.2 hb2))
        clear hb2
        go_wp2_with fail
        go_roundw
        case rel => exact ⟨k + 1, by omega, by go_num, H2⟩
        case measure => simp [intOf]; omega
      · obtain rfl : k = q := by omega
        have hb : lessB x.data.toList p.data.toList = false := by
          rw [hx, str_data]
          have h := HQ.out
          have h2 := posL_stop (l := S.l) (p := p.data.toList) (by rw [← h]; exact hlt)
          simp only [← h] at h2
          exact h2
        rw [hb] at HL
        have hh : (x.data.toList == p.data.toList) = hasL S.l p.data.toList := by
          rw [hx, str_data]
          have h := HQ.out
          have h2 := posL_at (l := S.l) (p := p.data.toList) hs.out.1.good.sorted (by rw [← h]; exact hlt)
          simp only [← h] at h2
          exact h2
        rw [HO.out] at hh
        have hh2 : (x.toList == p.toList) = o := by rw [toList_eq, toList_eq]; exact hh
        clear hb hx hv hh
        go_wp2_with fail
        refine (HL.out _).mono ?_
        rintro e w2 ⟨rfl, hb2⟩
        have H2 := Aside0.mk (below_step hs.out.2 hb2)
        have d0 := cell_keep hb2 c0
        have dk := cell_keep hb2 hcell
        have hrl2 : r < w2.heap.size := Nat.lt_of_lt_of_le hrl hb2.size
        have HDR : Aside0 (∀ n, Below w.heap.size w (w2.drewN n)) := ⟨fun n => below_drewN H2.out n⟩
        clear hb2
        go_wp2_with fail
        go_quiet (fail)
        go_wp2_with fail
        go_ret2
        exact ⟨rfl, HDR.out _⟩
    · have z1 : ¬ (k : Int) < (S.l.length : Int) := by omega
      obtain rfl : k = q := by omega
      have ho : hasL S.l p.data.toList = false := posL_none (by rw [← HQ.out]; omega)
      rw [HO.out] at ho
      subst ho
      have HDR : Aside0 (∀ n, Below w.heap.size w (wr.drewN n)) := ⟨fun n => below_drewN hs.out.2 n⟩
      go_wp2_with fail
      go_quiet (fail)
      go_wp2_with fail
      go_ret2
      exact ⟨rfl, HDR.out _⟩
end Go.Proofs.YtoigmepkhiknbaaDoor
