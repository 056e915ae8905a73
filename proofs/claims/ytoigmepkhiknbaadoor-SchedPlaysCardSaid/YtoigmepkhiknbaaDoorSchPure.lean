/-
  Paths with their blocks in plain Lean: a sorted list, and a map that holds the same. No program.
-/
import Derived.Test.YtoigmepkhiknbaaDoorPathFns3
import Derived.Maps.OwnSet
import Derived.Maps.RangeWalk
import Derived.Sort.KeysCollected
namespace Go.Proofs.YtoigmepkhiknbaaDoor
open Go.Maps Go.WideShapes
set_option linter.unusedVariables false
set_option linter.unusedSimpArgs false

abbrev Ent : Type := List UInt8 × Nat
def ent (x : Ent) : Lit × DataW Unit := (.string x.1, .lit (.int .i64 (x.2 : Int)))
/-- The map holds what the list holds. -/
def MapL (D : DataW Unit) (l : List Ent) : Prop := ∃ es, D = .map es ∧ es.Perm (l.map ent)
/-- Sorted, all paths, none too great. -/
structure Good (l : List Ent) : Prop where
  sorted : l.Pairwise fun x y => lessB x.1 y.1 = true
  paths : ∀ x ∈ l, validB x.1 = true
  small : ∀ x ∈ l, x.2 ≤ 4096
def keysL (l : List Ent) : List (List UInt8) := l.map (·.1)
def getL (l : List Ent) (p : List UInt8) : Nat := match l.find? (fun x => x.1 == p) with | some x => x.2 | none => 0
def hasL (l : List Ent) (p : List UInt8) : Bool := l.any fun x => x.1 == p
def delL (l : List Ent) (p : List UInt8) : List Ent := l.filter fun x => !(x.1 == p)
def setL : List Ent → List UInt8 → Nat → List Ent
  | [], p, n => [(p, n)]
  | x :: r, p, n => if lessB x.1 p = true then x :: setL r p n else if x.1 = p then (p, n) :: r else (p, n) :: x :: r
def totL (l : List Ent) : Nat := (l.map (·.2)).sum

theorem same_ent (x : Ent) (p : List UInt8) : (ent x).1.sameKey (.string p) = (x.1 == p) := rfl
theorem mapL_empty : MapL (.map []) [] := ⟨[], rfl, List.Perm.nil⟩
theorem mapL_size {D : DataW Unit} {l : List Ent} (h : MapL D l) : Maps.size D = l.length := by
  obtain ⟨es, rfl, hp⟩ := h
  rw [size_eq, hp.length_eq, List.length_map]
theorem mapL_has {D : DataW Unit} {l : List Ent} (h : MapL D l) (p : List UInt8) : Maps.has D (.string p) = hasL l p := by
  obtain ⟨es, rfl, hp⟩ := h
  rw [has_eq, hp.any_eq, List.any_map]
  rfl
theorem mapL_keys {D : DataW Unit} {l : List Ent} (h : MapL D l) : (strKeys D).Perm (keysL l) := by
  obtain ⟨es, rfl, hp⟩ := h
  show (es.map fun p => strOf p.1).Perm _
  refine (hp.map _).trans ?_
  rw [List.map_map]
  exact List.Perm.refl _
theorem mapL_del {D : DataW Unit} {l : List Ent} (h : MapL D l) (p : List UInt8) : MapL (D.del (.string p)) (delL l p) := by
  obtain ⟨es, rfl, hp⟩ := h
  refine ⟨_, rfl, ?_⟩
  refine (hp.filter _).trans ?_
  rw [List.filter_map]
  exact List.Perm.refl _
theorem good_ne {l : List Ent} (h : Good l) : l.Pairwise fun x y => x.1 ≠ y.1 := h.sorted.imp fun {a b} hab he => by rw [he, lessB_strict.irr] at hab; cases hab
theorem setL_perm {l : List Ent} (h : Good l) (p : List UInt8) (n : Nat) : (setL l p n).Perm ((p, n) :: delL l p) := by
  have h1 := h.sorted
  clear h
  induction l with
  | nil => exact List.Perm.refl _
  | cons x r ih =>
    rw [List.pairwise_cons] at h1
    obtain ⟨hx, hr⟩ := h1
    unfold setL
    by_cases hl : lessB x.1 p = true
    · rw [if_pos hl]
      have hne : (x.1 == p) = false := by
        rw [beq_eq_false_iff_ne]; intro he; rw [he, lessB_strict.irr] at hl; cases hl
      have e1 : delL (x :: r) p = x :: delL r p := by unfold delL; rw [List.filter_cons, hne]; rfl
      rw [e1]
      exact ((ih hr).cons x).trans (List.Perm.swap _ _ _)
    · rw [if_neg hl]
      have hrest : delL r p = r := by
        unfold delL
        rw [List.filter_eq_self]
        intro y hy
        have hxy := hx y hy
        have : (y.1 == p) = false := by
          rw [beq_eq_false_iff_ne]; intro he; rw [he] at hxy; exact hl hxy
        rw [this]; rfl
      by_cases he : x.1 = p
      · rw [if_pos he]
        have e1 : delL (x :: r) p = delL r p := by
          unfold delL
          rw [List.filter_cons, show (x.1 == p) = true from beq_iff_eq.2 he]; rfl
        rw [e1, hrest]
      · rw [if_neg he]
        have e1 : delL (x :: r) p = x :: delL r p := by unfold delL; rw [List.filter_cons, beq_eq_false_iff_ne.2 he]; rfl
        rw [e1, hrest]
theorem good_del {l : List Ent} (h : Good l) (p : List UInt8) : Good (delL l p) :=
  ⟨h.sorted.filter _, fun x hx => h.paths x (List.mem_filter.1 hx).1, fun x hx => h.small x (List.mem_filter.1 hx).1⟩
theorem setL_mem {p : List UInt8} {n : Nat} : ∀ {l : List Ent} {x : Ent}, x ∈ setL l p n → x = (p, n) ∨ x ∈ l
  | [], x, h => by simp [setL] at h; exact .inl h
  | y :: r, x, h => by
    unfold setL at h
    split at h
    · rcases List.mem_cons.1 h with h | h
      · exact .inr (by rw [h]; exact List.mem_cons_self)
      · rcases setL_mem h with h | h
        · exact .inl h
        · exact .inr (List.mem_cons_of_mem _ h)
    · split at h
      · rcases List.mem_cons.1 h with h | h
        · exact .inl h
        · exact .inr (List.mem_cons_of_mem _ h)
      · rcases List.mem_cons.1 h with h | h
        · exact .inl h
        · exact .inr h
theorem good_set {l : List Ent} (h : Good l) {p : List UInt8} {n : Nat} (hp : validB p = true) (hn : n ≤ 4096) : Good (setL l p n) := by
  refine ⟨?_, fun x hx => ?_, fun x hx => ?_⟩
  · have h1 := h.sorted
    clear h
    induction l with
    | nil => simp [setL]
    | cons y r ih =>
      rw [List.pairwise_cons] at h1
      obtain ⟨hy, hr⟩ := h1
      unfold setL
      by_cases hl : lessB y.1 p = true
      · rw [if_pos hl, List.pairwise_cons]
        refine ⟨fun x hx => ?_, ih hr⟩
        rcases setL_mem hx with hx | hx
        · rw [hx]; exact hl
        · exact hy x hx
      · rw [if_neg hl]
        have hl' : lessB y.1 p = false := by simpa using hl
        by_cases he : y.1 = p
        · rw [if_pos he, List.pairwise_cons]
          exact ⟨fun x hx => by have := hy x hx; rwa [he] at this, hr⟩
        · rw [if_neg he, List.pairwise_cons, List.pairwise_cons]
          have hpy : lessB p y.1 = true := by
            cases h2 : lessB p y.1 with
            | true => rfl
            | false => exact absurd (lessB_strict.tri _ _ hl' h2) he
          refine ⟨fun x hx => ?_, hy, hr⟩
          rcases List.mem_cons.1 hx with hx | hx
          · rw [hx]; exact hpy
          · exact lessB_strict.trans _ _ _ hpy (hy x hx)
  · rcases setL_mem hx with hx | hx
    · rw [hx]; exact hp
    · exact h.paths x hx
  · rcases setL_mem hx with hx | hx
    · rw [hx]; exact hn
    · exact h.small x hx
theorem mapL_put {D : DataW Unit} {l : List Ent} (h : MapL D l) (hg : Good l) (p : List UInt8) (n : Nat) : MapL (D.put (.string p) (.lit (.int .i64 (n : Int)))) (setL l p n) := by
  obtain ⟨es, rfl, hp⟩ := h
  refine ⟨_, rfl, ?_⟩
  refine (insert_perm _ _).trans (List.Perm.trans ?_ ((setL_perm hg p n).map ent).symm)
  rw [List.map_cons]
  refine List.Perm.cons _ ?_
  refine (hp.filter _).trans ?_
  rw [List.filter_map]
  exact List.Perm.refl _
theorem getL_mem {l : List Ent} (h : Good l) {x : Ent} (hx : x ∈ l) : getL l x.1 = x.2 := by
  have hne := good_ne h
  clear h
  induction l with
  | nil => cases hx
  | cons y r ih =>
    rw [List.pairwise_cons] at hne
    unfold getL
    rw [List.find?_cons]
    rcases List.mem_cons.1 hx with rfl | hx
    · rw [beq_self_eq_true]
    · have h1 := hne.1 x hx
      rw [beq_eq_false_iff_ne.2 h1]
      exact ih hx hne.2
theorem mapL_at {D : DataW Unit} {l : List Ent} (h : MapL D l) (hg : Good l) (p : List UInt8) : D.atKey (.string p) (.lit (.int .i64 0)) = .lit (.int .i64 (getL l p : Int)) := by
  cases hh : hasL l p with
  | false =>
    rw [atKey_of_not_has (by rw [mapL_has h, hh])]
    unfold getL
    have : l.find? (fun x => x.1 == p) = none := by
      rw [List.find?_eq_none]
      intro x hx he
      have := List.any_eq_false.1 hh x hx
      exact this he
    rw [this]; rfl
  | true =>
    obtain ⟨x, hx, he⟩ := List.any_eq_true.1 hh
    rw [beq_iff_eq] at he
    subst he
    rw [getL_mem hg hx]
    obtain ⟨es, rfl, hp⟩ := h
    have hm : ent x ∈ es := hp.mem_iff.2 (List.mem_map_of_mem hx)
    have huniq : ∀ y ∈ es, y.1.sameKey (.string x.1) = true → y = ent x := by
      intro y hy hs
      obtain ⟨z, hz, rfl⟩ := List.mem_map.1 (hp.mem_iff.1 hy)
      rw [same_ent, beq_iff_eq] at hs
      have h1 := getL_mem hg hz
      have h2 := getL_mem hg hx
      rw [hs, h2] at h1
      rw [show z = x from Prod.ext hs h1.symm]
    unfold DataW.atKey
    simp only
    cases hf : es.find? (fun p => p.1.sameKey (.string x.1)) with
    | none =>
      have := List.find?_eq_none.1 hf _ hm
      rw [same_ent, beq_self_eq_true] at this
      exact absurd rfl this
    | some y =>
      have h1 := List.find?_some hf
      rw [huniq y (List.mem_of_find?_eq_some hf) h1]
      rfl

theorem tot_bd {l : List Ent} (h : ∀ x ∈ l, x.2 ≤ 4096) : totL l ≤ l.length * 4096 := by
  induction l with
  | nil => simp [totL]
  | cons x r ih =>
    have h1 := h x (by simp)
    have h2 := ih fun y hy => h y (by simp [hy])
    simp only [totL, List.map_cons, List.sum_cons, List.length_cons] at h2 ⊢
    omega

/-! ### the ring -/
structure SS where
  l : List Ent
  lp : List UInt8
  lb : Nat
  told : Bool
def behB (S : SS) (p : List UInt8) (k : Nat) : Bool := !S.told || (decide (0 < cmpL p S.lp) || (decide (cmpL p S.lp = 0) && decide (S.lb < k)))
def fromN (S : SS) (p : List UInt8) : Nat := if (S.told && p == S.lp) = true then S.lb + 1 else 0
/-- What the loop over the paths finds. -/
def goO (S : SS) : List Ent → Option Ent → Option Ent
  | [], f => f
  | (p, n) :: r, f => if n = 0 then goO S r f else if (decide (fromN S p < n) && behB S p (fromN S p)) = true then some (p, fromN S p) else goO S r (some (f.getD (p, 0)))
def nextV (S : SS) : Ent := (goO S S.l none).getD ([], 0)
def nextS (S : SS) : SS := ⟨S.l, (nextV S).1, (nextV S).2, true⟩
def afterN (S : SS) : Nat → SS
  | 0 => S
  | n + 1 => nextS (afterN S n)
def visN (S : SS) (n : Nat) : List Ent := (List.range n).map fun i => nextV (afterN S i)
theorem visN_succ (S : SS) (n : Nat) : visN S (n + 1) = visN S n ++ [nextV (afterN S n)] := by simp [visN, List.range_succ]
theorem afterN_l (S : SS) : ∀ n, (afterN S n).l = S.l
  | 0 => rfl
  | n + 1 => afterN_l S n
def roundN (t q : Int) : Int := if t < 0 ∨ q < 1 then 0 else if 0 < t % q then t / q + 1 else t / q
end Go.Proofs.YtoigmepkhiknbaaDoor
