/-
  What a net answers, in terms of the frames' keys alone; the contracts of both nets in these terms. No condition but that the nets can be read, and that they are not more than memory.
-/
import Derived.Test.YtmpmngfimeojhaaNetSame
import Derived.Test.YtmpmngfimeojhaaLaw19
namespace Go.Proofs.Ytmpmngfimeojhaa
open Go.RowKit Go.Joins
set_option linter.unusedVariables false
set_option linter.unusedSimpArgs false

/-- A frame without where its bytes lie: number, to whom, when, bytes. -/
abbrev Key := Int × Int × Int × List UInt8
/-- What a net holds, without where the bytes lie. -/
structure KS where
  last : Int
  lost : Int
  ks : List Key
def NetS.abs (s : NetS) : KS := ⟨s.last, s.lost, s.fs.map Fr.key⟩
def idxK (id : Int) (ks : List Key) : Int := idxI (fun k => k.1 == id) ks
theorem idx_map (id : Int) (fs : List Fr) : idxI (fun f => f.id == id) fs = idxK id (fs.map Fr.key) := by
  unfold idxK idxI
  rw [List.any_map, List.findIdx_map]
  rfl
def sendA (to' : Int) (b : List UInt8) (delay now : Int) (a : KS) : KS := if sendOk to' delay now then ⟨a.last + 1, a.lost, a.ks ++ [(a.last + 1, to', now + delay, b)]⟩ else a
def sendV (to' delay now : Int) (a : KS) : Int × Int := if sendOk to' delay now then (a.last + 1, 0) else (0, 1)
def loseA (id : Int) (a : KS) : KS := if idxK id a.ks = -1 then a else ⟨a.last, a.lost + 1, a.ks.eraseIdx (idxK id a.ks).toNat⟩
def loseV (id : Int) (a : KS) : Int := if idxK id a.ks = -1 then 5 else 0
def atK (i : Int) (ks : List Key) : Key := ks.getD i.toNat (0, 0, 0, [])
def doubleA (id : Int) (a : KS) : KS := if idxK id a.ks = -1 then a else ⟨a.last + 1, a.lost, a.ks ++ [(a.last + 1, (atK (idxK id a.ks) a.ks).2.1, (atK (idxK id a.ks) a.ks).2.2.1, (atK (idxK id a.ks) a.ks).2.2.2)]⟩
def doubleV (id : Int) (a : KS) : Int × Int := if idxK id a.ks = -1 then (0, 5) else (a.last + 1, 0)
def swapA (x y : Int) (a : KS) : KS := if idxK x a.ks = -1 ∨ idxK y a.ks = -1 then a else ⟨a.last, a.lost, (a.ks.set (idxK x a.ks).toNat (atK (idxK y a.ks) a.ks)).set (idxK y a.ks).toNat (atK (idxK x a.ks) a.ks)⟩
def swapV (x y : Int) (a : KS) : Int := if idxK x a.ks = -1 ∨ idxK y a.ks = -1 then 5 else 0
def dueB (to' now : Int) (q : Key) : Bool := q.2.1 == to' && decide (q.2.2.1 ≤ now)
def takeA (to' now : Int) (a : KS) : KS := ⟨a.last, a.lost, a.ks.filter fun q => !dueB to' now q⟩
def takeV (to' now : Int) (a : KS) : List (List UInt8) := (a.ks.filter (dueB to' now)).map fun q => q.2.2.2
/-- A net is not more than memory. -/
structure OkA (n : Nat) (a : KS) : Prop where
  last : 0 ≤ a.last ∧ a.last ≤ n
  lost : 0 ≤ a.lost ∧ a.lost ≤ n
  len : a.ks.length ≤ n
  small : ∀ k ∈ a.ks, k.2.2.2.length ≤ 1000
theorem OkA.more {n : Nat} {a : KS} (h : OkA n a) : OkA (n + 1) a := ⟨⟨h.last.1, by have := h.last.2; omega⟩, ⟨h.lost.1, by have := h.lost.2; omega⟩, by have := h.len; omega, h.small⟩
theorem OkA.send {n : Nat} {a : KS} (h : OkA n a) (to' delay now : Int) {b : List UInt8} (hb : b.length ≤ 1000) : OkA (n + 1) (sendA to' b delay now a) := by
  unfold sendA
  split
  · refine ⟨by have := h.last; simp; omega, by have := h.lost; simp; omega, by have := h.len; simp; omega, fun k hk => ?_⟩
    rcases List.mem_append.1 hk with hk | hk
    · exact h.small k hk
    · rw [List.mem_singleton] at hk; subst hk; exact hb
  · exact h.more
theorem OkA.lose {n : Nat} {a : KS} (h : OkA n a) (id : Int) : OkA (n + 1) (loseA id a) := by
  unfold loseA
  split
  · exact h.more
  · exact ⟨by have := h.last; simp; omega, by have := h.lost; simp; omega, by have := h.len; have := List.length_eraseIdx_le a.ks (idxK id a.ks).toNat; simp; omega, fun k hk => h.small k (List.mem_of_mem_eraseIdx hk)⟩
theorem atK_mem {ks : List Key} {i : Nat} (hi : i < ks.length) : atK i ks ∈ ks := by
  unfold atK
  rw [Int.toNat_natCast, List.getD_eq_getElem?_getD, List.getElem?_eq_getElem hi]
  exact List.getElem_mem hi
theorem idxK_nat {id : Int} {ks : List Key} (h : ¬ idxK id ks = -1) : ∃ i : Nat, i < ks.length ∧ idxK id ks = i := by
  rcases idxI_cases (fun k : Key => k.1 == id) ks with ⟨h1, _⟩ | ⟨i, hi, h1, _⟩
  · exact absurd h1 h
  · exact ⟨i, hi, h1⟩
theorem OkA.double {n : Nat} {a : KS} (h : OkA n a) (id : Int) : OkA (n + 1) (doubleA id a) := by
  unfold doubleA
  split
  · exact h.more
  · rename_i hne
    obtain ⟨i, hi, he⟩ := idxK_nat hne
    refine ⟨by have := h.last; simp; omega, by have := h.lost; simp; omega, by have := h.len; simp; omega, fun k hk => ?_⟩
    rcases List.mem_append.1 hk with hk | hk
    · exact h.small k hk
    · rw [List.mem_singleton] at hk; subst hk; rw [he]; exact h.small (atK i a.ks) (atK_mem hi)
theorem OkA.swap {n : Nat} {a : KS} (h : OkA n a) (x y : Int) : OkA (n + 1) (swapA x y a) := by
  unfold swapA
  split
  · exact h.more
  · rename_i hne
    obtain ⟨i, hi, he⟩ := idxK_nat (fun h => hne (.inl h))
    obtain ⟨j, hj, he'⟩ := idxK_nat (fun h => hne (.inr h))
    refine ⟨by have := h.last; simp; omega, by have := h.lost; simp; omega, by have := h.len; simp; omega, fun k hk => ?_⟩
    rcases List.mem_or_eq_of_mem_set hk with hk | rfl
    · rcases List.mem_or_eq_of_mem_set hk with hk | rfl
      · exact h.small k hk
      · rw [he']; exact h.small _ (atK_mem hj)
    · rw [he]; exact h.small _ (atK_mem hi)
theorem OkA.take {n : Nat} {a : KS} (h : OkA n a) (to' now : Int) : OkA (n + 1) (takeA to' now a) :=
  ⟨by have := h.last; simp [takeA]; omega, by have := h.lost; simp [takeA]; omega, by have := h.len; have := List.length_filter_le (fun q => !dueB to' now q) a.ks; simp only [takeA]; omega, fun k hk => h.small k (List.mem_filter.1 hk).1⟩

theorem due_map (to' now : Int) (fs : List Fr) : (fs.filter (dueF to' now)).map Fr.key = (fs.map Fr.key).filter (dueB to' now) := by rw [List.filter_map]; rfl
theorem left_map (to' now : Int) (fs : List Fr) : (fs.filter fun f => !dueF to' now f).map Fr.key = (fs.map Fr.key).filter fun q => !dueB to' now q := by rw [List.filter_map]; rfl
theorem due_b (to' now : Int) (fs : List Fr) : (fs.filter (dueF to' now)).map Fr.b = takeV to' now ⟨0, 0, fs.map Fr.key⟩ := by
  unfold takeV
  rw [← due_map, List.map_map]; rfl
theorem at_map {fs : List Fr} {i : Nat} {f : Fr} (h : fs[i]? = some f) : atK i (fs.map Fr.key) = f.key := by
  unfold atK
  rw [Int.toNat_natCast, List.getD_eq_getElem?_getD, List.getElem?_map, h]
  rfl
theorem small_of {n : Nat} {s : NetS} (h : OkA n s.abs) : ∀ f ∈ s.fs, f.b.length ≤ 140737488355328 := fun f hf => by
  have := h.small f.key (List.mem_map.2 ⟨f, hf, rfl⟩)
  exact Nat.le_trans this (by decide)

theorem erase_map (fs : List Fr) (i : Nat) : (fs.eraseIdx i).map Fr.key = (fs.map Fr.key).eraseIdx i := by
  rw [List.eraseIdx_eq_take_drop_succ, List.eraseIdx_eq_take_drop_succ, List.map_append, List.map_take, List.map_drop]
/-- The net, by its keys. -/
def NetA (w : World) (base g : Nat) (a : KS) : Prop := ∃ v s, NetR w base g v s ∧ s.abs = a
def RNetA (w : World) (base g : Nat) (a : KS) : Prop := ∃ v s, RNet w base g v s ∧ s.abs = a
section
variable {w w' : World} {base g n : Nat} {a : KS}
theorem NetA.keeps {T : Nat → Prop} (h : NetA w base g a) (hk : Keeps T base w w') (h1 : ¬ T 61) (h2 : ¬ T 42) (h3 : ¬ T 5) : NetA w' base g a := by
  obtain ⟨v, s, h, e⟩ := h; exact ⟨v, s, h.keeps hk h1 h2 h3 (Nat.le_refl _), e⟩
theorem NetA.below (h : NetA w base g a) (hk : Below w.heap.size w w') : NetA w' base g a := by
  obtain ⟨v, s, h, e⟩ := h; exact ⟨v, s, h.below hk, e⟩
theorem NetA.box (h : NetA w base g a) : base ≤ g ∧ g < w.heap.size := by
  obtain ⟨v, s, h, e⟩ := h; exact ⟨h.ge, blk_lt h.box⟩
theorem RNetA.keeps {T : Nat → Prop} (h : RNetA w base g a) (hk : Keeps T base w w') (h1 : ¬ T 51) (h2 : ¬ T 67) (h3 : ¬ T 5) : RNetA w' base g a := by
  obtain ⟨v, s, h, e⟩ := h; exact ⟨v, s, h.keeps hk h1 h2 h3 (Nat.le_refl _), e⟩
theorem RNetA.below (h : RNetA w base g a) (hk : Below w.heap.size w w') : RNetA w' base g a := by
  obtain ⟨v, s, h, e⟩ := h; exact ⟨v, s, h.below hk, e⟩

theorem send_any (to' delay now : Int) {u : Value} {b : List UInt8} (h : NetA w base g a) (ok : OkA n a) (hn : n ≤ 1099511627776) (hu : Sl bv 5 w base u b) (hb : b.length ≤ 1000) :
    Calls Try.prog 8 #[.pointer (some ⟨g, 0, none⟩), .int .i64 to', u, .int .i64 delay, .int .i64 now] w fun e w' => e = .returned (.tuple #[.int .i64 (sendV to' delay now a).1, .int .i64 (sendV to' delay now a).2]) ∧ NetA w' base g (sendA to' b delay now a) ∧ Keeps netT base w w' := by
  obtain ⟨v, s, N, rfl⟩ := h
  unfold sendA sendV
  by_cases hs : sendOk to' delay now = true
  · rw [if_pos hs, if_pos hs]
    refine (send_calls to' delay now w N hu ⟨ok.last.1, Int.le_trans ok.last.2 (by omega)⟩ (by have := ok.len; simp only [NetS.abs, List.length_map] at this; omega) (by omega) hs).mono ?_
    rintro e w' ⟨h1, ⟨v', u', N', _⟩, K⟩
    exact ⟨h1, ⟨v', _, N', by simp [NetS.abs, Fr.key]⟩, K⟩
  · rw [if_neg hs, if_neg hs]
    refine (send_bad to' delay now w (by simpa using hs)).mono ?_
    rintro e w' ⟨h1, rfl⟩
    exact ⟨h1, ⟨v, s, N, rfl⟩, Keeps.refl _ _ _⟩
theorem rsend_any (to' delay now : Int) {u : Value} {b : List UInt8} (h : RNetA w base g a) (ok : OkA n a) (hn : n ≤ 1099511627776) (hu : Sl bv 5 w base u b) :
    Calls Try.prog 18 #[.pointer (some ⟨g, 0, none⟩), .int .i64 to', u, .int .i64 delay, .int .i64 now] w fun e w' => e = .returned (.tuple #[.int .i64 (sendV to' delay now a).1, .int .i64 (sendV to' delay now a).2]) ∧ RNetA w' base g (sendA to' b delay now a) ∧ Keeps rnT base w w' := by
  obtain ⟨v, s, N, rfl⟩ := h
  unfold sendA sendV
  by_cases hs : sendOk to' delay now = true
  · rw [if_pos hs, if_pos hs]
    refine (rsend_calls (e0 := 0) to' delay now w N hu ⟨ok.last.1, Int.le_trans ok.last.2 (by omega)⟩ (by have := ok.len; simp only [NetS.abs, List.length_map] at this; omega) hs).mono ?_
    rintro e w' ⟨h1, ⟨v', N'⟩, K⟩
    exact ⟨h1, ⟨v', _, N', by simp [NetS.abs, Fr.key]⟩, K⟩
  · rw [if_neg hs, if_neg hs]
    refine (rsend_bad to' delay now w (by simpa using hs)).mono ?_
    rintro e w' ⟨h1, rfl⟩
    exact ⟨h1, ⟨v, s, N, rfl⟩, Keeps.refl _ _ _⟩
theorem lose_any (id : Int) (h : NetA w base g a) (ok : OkA n a) (hn : n ≤ 1099511627776) :
    Calls Try.prog 11 #[.pointer (some ⟨g, 0, none⟩), .int .i64 id] w fun e w' => e = .returned (.int .i64 (loseV id a)) ∧ NetA w' base g (loseA id a) ∧ Keeps netT base w w' := by
  obtain ⟨v, s, N, rfl⟩ := h
  unfold loseA loseV
  by_cases hs : idxK id s.abs.ks = -1
  · rw [if_pos hs, if_pos hs]
    refine (lose_bad id w N (by rw [idx_map]; exact hs)).mono ?_
    rintro e w' ⟨h1, hb⟩
    exact ⟨h1, ⟨v, s, N.below hb, rfl⟩, .of_below hb⟩
  · rw [if_neg hs, if_neg hs]
    obtain ⟨i, hi, he⟩ := idxK_nat hs
    rw [he]
    refine (lose_calls id w N i (by simpa [NetS.abs] using hi) (by rw [idx_map]; exact he) ⟨ok.lost.1, Int.le_trans ok.lost.2 (by omega)⟩).mono ?_
    rintro e w' ⟨h1, ⟨v', N'⟩, K⟩
    exact ⟨h1, ⟨v', _, N', by simp [NetS.abs, erase_map]⟩, K⟩
theorem rlose_any (id : Int) (h : RNetA w base g a) (ok : OkA n a) (hn : n ≤ 1099511627776) :
    Calls Try.prog 19 #[.pointer (some ⟨g, 0, none⟩), .int .i64 id] w fun e w' => e = .returned (.int .i64 (loseV id a)) ∧ RNetA w' base g (loseA id a) ∧ Keeps rnT base w w' := by
  obtain ⟨v, s, N, rfl⟩ := h
  unfold loseA loseV
  by_cases hs : idxK id s.abs.ks = -1
  · rw [if_pos hs, if_pos hs]
    refine (rlose_bad id w N (by rw [idx_map]; exact hs)).mono ?_
    rintro e w' ⟨h1, rfl⟩
    exact ⟨h1, ⟨v, s, N, rfl⟩, Keeps.refl _ _ _⟩
  · rw [if_neg hs, if_neg hs]
    obtain ⟨i, hi, he⟩ := idxK_nat hs
    rw [he]
    refine (rlose_calls id w N i (by simpa [NetS.abs] using hi) (by rw [idx_map]; exact he) ⟨ok.lost.1, Int.le_trans ok.lost.2 (by omega)⟩ (by have := ok.len; simp only [NetS.abs, List.length_map] at this; omega)).mono ?_
    rintro e w' ⟨h1, ⟨v', N'⟩, K⟩
    exact ⟨h1, ⟨v', _, N', by simp [NetS.abs, erase_map]⟩, K⟩
theorem double_any (id : Int) (h : NetA w base g a) (ok : OkA n a) (hn : n ≤ 1099511627776) :
    Calls Try.prog 9 #[.pointer (some ⟨g, 0, none⟩), .int .i64 id] w fun e w' => e = .returned (.tuple #[.int .i64 (doubleV id a).1, .int .i64 (doubleV id a).2]) ∧ NetA w' base g (doubleA id a) ∧ Keeps netT base w w' := by
  obtain ⟨v, s, N, rfl⟩ := h
  unfold doubleA doubleV
  by_cases hs : idxK id s.abs.ks = -1
  · rw [if_pos hs, if_pos hs]
    refine (double_bad id w N (by rw [idx_map]; exact hs)).mono ?_
    rintro e w' ⟨h1, hb⟩
    exact ⟨h1, ⟨v, s, N.below hb, rfl⟩, .of_below hb⟩
  · rw [if_neg hs, if_neg hs]
    obtain ⟨i, hi, he⟩ := idxK_nat hs
    rw [he]
    have hi' : i < s.fs.length := by simpa [NetS.abs] using hi
    have hf := List.getElem?_eq_getElem hi'
    refine (double_calls id w N i _ hf (by rw [idx_map]; exact he) ⟨ok.last.1, Int.le_trans ok.last.2 (by omega)⟩ (by have := ok.len; simp only [NetS.abs, List.length_map] at this; omega) (small_of ok _ (List.getElem_mem hi'))).mono ?_
    rintro e w' ⟨h1, ⟨v', u', N'⟩, K⟩
    exact ⟨h1, ⟨v', _, N', by simp only [NetS.abs, List.map_append, List.map_cons, List.map_nil, at_map hf, Fr.key]⟩, K⟩
theorem rdouble_any (id : Int) (h : RNetA w base g a) (ok : OkA n a) (hn : n ≤ 1099511627776) :
    Calls Try.prog 20 #[.pointer (some ⟨g, 0, none⟩), .int .i64 id] w fun e w' => e = .returned (.tuple #[.int .i64 (doubleV id a).1, .int .i64 (doubleV id a).2]) ∧ RNetA w' base g (doubleA id a) ∧ Keeps rnT base w w' := by
  obtain ⟨v, s, N, rfl⟩ := h
  unfold doubleA doubleV
  by_cases hs : idxK id s.abs.ks = -1
  · rw [if_pos hs, if_pos hs]
    refine (rdouble_bad id w N (by rw [idx_map]; exact hs)).mono ?_
    rintro e w' ⟨h1, rfl⟩
    exact ⟨h1, ⟨v, s, N, rfl⟩, Keeps.refl _ _ _⟩
  · rw [if_neg hs, if_neg hs]
    obtain ⟨i, hi, he⟩ := idxK_nat hs
    rw [he]
    have hi' : i < s.fs.length := by simpa [NetS.abs] using hi
    have hf := List.getElem?_eq_getElem hi'
    refine (rdouble_calls id w N i _ hf (by rw [idx_map]; exact he) ⟨ok.last.1, Int.le_trans ok.last.2 (by omega)⟩ (by have := ok.len; simp only [NetS.abs, List.length_map] at this; omega)).mono ?_
    rintro e w' ⟨h1, ⟨v', N'⟩, K⟩
    exact ⟨h1, ⟨v', _, N', by simp only [NetS.abs, List.map_append, List.map_cons, List.map_nil, at_map hf, Fr.key]⟩, K⟩
theorem swap_any (x y : Int) (h : NetA w base g a) :
    Calls Try.prog 16 #[.pointer (some ⟨g, 0, none⟩), .int .i64 x, .int .i64 y] w fun e w' => e = .returned (.int .i64 (swapV x y a)) ∧ NetA w' base g (swapA x y a) ∧ Keeps netT base w w' := by
  obtain ⟨v, s, N, rfl⟩ := h
  unfold swapA swapV
  by_cases hs : idxK x s.abs.ks = -1 ∨ idxK y s.abs.ks = -1
  · rw [if_pos hs, if_pos hs]
    refine (swap_bad x y w N (by rw [idx_map, idx_map]; exact hs)).mono ?_
    rintro e w' ⟨h1, hb⟩
    exact ⟨h1, ⟨v, s, N.below hb, rfl⟩, .of_below hb⟩
  · rw [if_neg hs, if_neg hs]
    obtain ⟨i, hi, he⟩ := idxK_nat (fun h => hs (.inl h))
    obtain ⟨j, hj, he'⟩ := idxK_nat (fun h => hs (.inr h))
    rw [he, he']
    have hi' : i < s.fs.length := by simpa [NetS.abs] using hi
    have hf := List.getElem?_eq_getElem hi'
    have hj' : j < s.fs.length := by simpa [NetS.abs] using hj
    have hf' := List.getElem?_eq_getElem hj'
    refine (swap_calls x y w N i j _ _ hf hf' (by rw [idx_map]; exact he) (by rw [idx_map]; exact he')).mono ?_
    rintro e w' ⟨h1, ⟨v', N'⟩, K⟩
    exact ⟨h1, ⟨v', _, N', by simp only [NetS.abs, List.map_set, at_map hf, at_map hf', Int.toNat_natCast]⟩, K⟩
theorem rswap_any (x y : Int) (h : RNetA w base g a) (ok : OkA n a) (hn : n ≤ 1099511627776) :
    Calls Try.prog 21 #[.pointer (some ⟨g, 0, none⟩), .int .i64 x, .int .i64 y] w fun e w' => e = .returned (.int .i64 (swapV x y a)) ∧ RNetA w' base g (swapA x y a) ∧ Keeps rnT base w w' := by
  obtain ⟨v, s, N, rfl⟩ := h
  unfold swapA swapV
  by_cases hs : idxK x s.abs.ks = -1 ∨ idxK y s.abs.ks = -1
  · rw [if_pos hs, if_pos hs]
    refine (rswap_bad x y w N (by rw [idx_map, idx_map]; exact hs)).mono ?_
    rintro e w' ⟨h1, rfl⟩
    exact ⟨h1, ⟨v, s, N, rfl⟩, Keeps.refl _ _ _⟩
  · rw [if_neg hs, if_neg hs]
    obtain ⟨i, hi, he⟩ := idxK_nat (fun h => hs (.inl h))
    obtain ⟨j, hj, he'⟩ := idxK_nat (fun h => hs (.inr h))
    rw [he, he']
    have hi' : i < s.fs.length := by simpa [NetS.abs] using hi
    have hf := List.getElem?_eq_getElem hi'
    have hj' : j < s.fs.length := by simpa [NetS.abs] using hj
    have hf' := List.getElem?_eq_getElem hj'
    refine (rswap_calls x y w N i j _ _ hf hf' (by rw [idx_map]; exact he) (by rw [idx_map]; exact he') (by have := ok.len; simp only [NetS.abs, List.length_map] at this; omega)).mono ?_
    rintro e w' ⟨h1, ⟨v', N'⟩, K⟩
    exact ⟨h1, ⟨v', _, N', by simp only [NetS.abs, List.map_set, at_map hf, at_map hf', Int.toNat_natCast]⟩, K⟩
theorem take_any (to' now : Int) (h : NetA w base g a) (ok : OkA n a) (hn : n ≤ 1099511627776) :
    Calls Try.prog 10 #[.pointer (some ⟨g, 0, none⟩), .int .i64 to', .int .i64 now] w fun e w' => (∃ v', e = .returned v' ∧ OwnB2 w' w.heap.size v' (takeV to' now a)) ∧ NetA w' base g (takeA to' now a) ∧ Keeps netT base w w' := by
  obtain ⟨v, s, N, rfl⟩ := h
  refine (take_calls2 to' now w N (by have := ok.len; simp only [NetS.abs, List.length_map] at this; omega) (small_of ok)).mono ?_
  rintro e w' ⟨⟨v', h1, h2⟩, ⟨vv, N'⟩, K⟩
  rw [due_b] at h2
  exact ⟨⟨v', h1, h2⟩, ⟨vv, _, N', by simp only [NetS.abs, takeA, left_map]⟩, K⟩
theorem rtake_any (to' now : Int) (h : RNetA w base g a) (ok : OkA n a) (hn : n ≤ 1099511627776) :
    Calls Try.prog 23 #[.pointer (some ⟨g, 0, none⟩), .int .i64 to', .int .i64 now] w fun e w' => (∃ v', e = .returned v' ∧ OwnG w' w.heap.size base v' (takeV to' now a)) ∧ RNetA w' base g (takeA to' now a) ∧ Keeps rnT base w w' := by
  obtain ⟨v, s, N, rfl⟩ := h
  refine (rtake_calls to' now w N (by have := ok.len; simp only [NetS.abs, List.length_map] at this; omega)).mono ?_
  rintro e w' ⟨⟨v', h1, h2⟩, ⟨vv, N'⟩, K⟩
  rw [due_b] at h2
  exact ⟨⟨v', h1, h2⟩, ⟨vv, _, N', by simp only [NetS.abs, takeA, left_map]⟩, K⟩
/-- A list of frames that can be read, by its keys. -/
def RowA (e : Nat) (w : World) (rb bb : Nat) (v : Value) (ks : List Key) : Prop := ∃ fs : List Fr, w.ownsRow rb e 4 v fs.length (fs.flatMap frC) ∧ (∀ f ∈ fs, Sl bv 5 w bb f.u f.b) ∧ fs.map Fr.key = ks
theorem RowA.keeps {T : Nat → Prop} {e rb bb : Nat} {v : Value} {ks : List Key} {base' : Nat} (h : RowA e w rb bb v ks) (hk : Keeps T base' w w') (h1 : ¬ T e) (h2 : ¬ T 5) (hb : bb ≤ base') : RowA e w' rb bb v ks := by
  obtain ⟨fs, ho, hs, e⟩ := h
  exact ⟨fs, own_keeps ho hk h1, fun f hf => (hs f hf).keeps hk h2 hb, e⟩
theorem RowA.below {e rb bb : Nat} {v : Value} {ks : List Key} (h : RowA e w rb bb v ks) (hk : Below w.heap.size w w') : RowA e w' rb bb v ks :=
  h.keeps (T := fun _ => False) (base' := bb) (.of_below hk) (fun h => h) (fun h => h) (Nat.le_refl _)
theorem RowA.shape {e rb bb : Nat} {v : Value} {ks : List Key} (h : RowA e w rb bb v ks) : ∃ A n c, v = .slice A n c := by
  obtain ⟨fs, ho, hs, e⟩ := h
  obtain ⟨A, c, h, _⟩ := SlC.of_own ho 0
  exact ⟨A, _, c, h⟩
theorem due_any (to' now : Int) (h : NetA w base g a) (ok : OkA n a) (hn : n ≤ 1099511627776) :
    Calls Try.prog 12 #[.pointer (some ⟨g, 0, none⟩), .int .i64 to', .int .i64 now] w fun e w' => (∃ v', e = .returned v' ∧ RowA 42 w' w.heap.size 0 v' (a.ks.filter (dueB to' now))) ∧ Below w.heap.size w w' := by
  obtain ⟨v, s, N, rfl⟩ := h
  refine (due_calls to' now w N (by have := ok.len; simp only [NetS.abs, List.length_map] at this; omega) (small_of ok)).mono ?_
  rintro e w' ⟨⟨v', fs', h1, h2, h3⟩, K⟩
  exact ⟨⟨v', h1, fs', h2.1, h2.2, by rw [h3, due_map]; rfl⟩, K⟩
theorem rdue_any (to' now : Int) (h : RNetA w base g a) (ok : OkA n a) (hn : n ≤ 1099511627776) :
    Calls Try.prog 25 #[.pointer (some ⟨g, 0, none⟩), .int .i64 to', .int .i64 now] w fun e w' => (∃ v', e = .returned v' ∧ RowA 67 w' w.heap.size base v' (a.ks.filter (dueB to' now))) ∧ Below w.heap.size w w' := by
  obtain ⟨v, s, N, rfl⟩ := h
  refine (rdue_calls to' now w N (by have := ok.len; simp only [NetS.abs, List.length_map] at this; omega)).mono ?_
  rintro e w' ⟨⟨v', h1, h2⟩, K⟩
  exact ⟨⟨v', h1, _, h2, fun f hf => (N.bytes f (List.mem_filter.1 hf).1).below K, due_map _ _ _⟩, K⟩
theorem waiting_any (h : NetA w base g a) (ok : OkA n a) (hn : n ≤ 1099511627776) :
    Calls Try.prog 13 #[.pointer (some ⟨g, 0, none⟩)] w fun e w' => (∃ v', e = .returned v' ∧ RowA 42 w' w.heap.size 0 v' a.ks) ∧ Below w.heap.size w w' := by
  obtain ⟨v, s, N, rfl⟩ := h
  refine (waiting_calls w N (by have := ok.len; simp only [NetS.abs, List.length_map] at this; omega) (small_of ok)).mono ?_
  rintro e w' ⟨⟨v', fs', h1, h2, h3⟩, K⟩
  exact ⟨⟨v', h1, fs', h2.1, h2.2, h3⟩, K⟩
theorem same_any {e e' rb rb' bb bb' : Nat} {v v' : Value} {ks : List Key} (h : RowA e w rb bb v ks) (h' : RowA e' w rb' bb' v' ks) :
    Calls Try.prog 24 #[v, v'] w fun e w' => e = .returned (.bool true) ∧ Below w.heap.size w w' := by
  obtain ⟨fs, h1, h2, h3⟩ := h
  obtain ⟨gs, h4, h5, h6⟩ := h'
  exact same_calls w (SlC.of_own h1 0) (SlC.of_own h4 0) h2 h5 (h3.trans h6.symm)
theorem lost_any (h : NetA w base g a) : Calls Try.prog 14 #[.pointer (some ⟨g, 0, none⟩)] w fun e w' => e = .returned (.int .i64 a.lost) ∧ w = w' := by
  obtain ⟨v, s, N, rfl⟩ := h
  exact lost_calls w N
theorem RNetA.cells (h : RNetA w base g a) : ∃ v, w.cell? ⟨g, 0, none⟩ = some (.int .i64 a.last) ∧ w.cell? ⟨g, 1, none⟩ = some (.int .i64 a.lost) ∧ w.cell? ⟨g, 2, none⟩ = some v ∧ (∀ j, w.frozen? ⟨g, j, none⟩ = false) ∧ RowA 67 w base base v a.ks := by
  obtain ⟨v, s, N, rfl⟩ := h
  obtain ⟨c0, c1, c2, c3⟩ := N.cells
  exact ⟨v, c0, c1, c2, c3, s.fs, N.row, N.bytes, rfl⟩
end
end Go.Proofs.Ytmpmngfimeojhaa
