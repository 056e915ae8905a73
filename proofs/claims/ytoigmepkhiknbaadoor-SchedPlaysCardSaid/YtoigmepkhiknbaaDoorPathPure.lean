/-
  Paths in plain Lean: parts, which may be, what stands above, the order. No condition.
-/
import Derived.Test.YtoigmepkhiknbaaDoorBase
namespace Go.Proofs.YtoigmepkhiknbaaDoor
set_option linter.unusedVariables false
set_option linter.unusedSimpArgs false

def letB (c : UInt8) : Bool := (decide (97 ≤ c.toNat) && decide (c.toNat ≤ 122)) || ((decide (48 ≤ c.toNat) && decide (c.toNat ≤ 57)) || (decide (c.toNat = 46) || (decide (c.toNat = 45) || decide (c.toNat = 95))))
/-- May this be a part? -/
def partB (p : List UInt8) : Bool := p.all letB && (decide (1 ≤ p.length) && (decide (p.length ≤ 20) && (p != [46] && p != [46, 46])))
/-- A text at each slash. -/
def splitP : List UInt8 → List (List UInt8)
  | [] => [[]]
  | c :: cs => if c = 47 then [] :: splitP cs else match splitP cs with
    | [] => [[c]]
    | p :: ps => (c :: p) :: ps
theorem splitP_ne : ∀ s, splitP s ≠ []
  | [] => by simp [splitP]
  | c :: cs => by
    unfold splitP
    split
    · simp
    · split <;> simp
/-- Put together again. -/
def joinP : List (List UInt8) → List UInt8
  | [] => []
  | [p] => p
  | p :: q :: r => p ++ 47 :: joinP (q :: r)
theorem joinP_cons (p : List UInt8) {r : List (List UInt8)} (h : r ≠ []) : joinP (p :: r) = p ++ 47 :: joinP r := by
  cases r with
  | nil => exact absurd rfl h
  | cons q r => rfl
theorem join_split : ∀ s, joinP (splitP s) = s
  | [] => rfl
  | c :: cs => by
    have ih := join_split cs
    have hne := splitP_ne cs
    unfold splitP
    split
    · rename_i h; subst h
      rw [joinP_cons _ hne, ih]; rfl
    · cases hs : splitP cs with
      | nil => exact absurd hs hne
      | cons p ps =>
        rw [hs] at ih
        simp only
        cases ps with
        | nil => simp only [joinP] at ih ⊢; rw [ih]
        | cons q r => simp only [joinP] at ih ⊢; rw [← ih]; rfl
theorem splitP_inj {s t : List UInt8} (h : splitP s = splitP t) : s = t := by rw [← join_split s, ← join_split t, h]
theorem splitP_no : ∀ {s : List UInt8}, 47 ∉ s → splitP s = [s]
  | [], _ => rfl
  | c :: cs, h => by
    have h1 : c ≠ 47 := fun e => h (by rw [e]; simp)
    have h2 : 47 ∉ cs := fun e => h (by simp [e])
    rw [splitP, if_neg h1, splitP_no h2]
theorem splitP_app : ∀ (s t : List UInt8), splitP (s ++ 47 :: t) = splitP s ++ splitP t
  | [], t => by rw [List.nil_append]; show (if (47 : UInt8) = 47 then [] :: splitP t else _) = _; rw [if_pos rfl]; rfl
  | c :: cs, t => by
    have ih := splitP_app cs t
    rw [List.cons_append, splitP, splitP]
    by_cases hc : c = 47
    · rw [if_pos hc, if_pos hc, ih]; rfl
    · rw [if_neg hc, if_neg hc, ih]
      cases hs : splitP cs with
      | nil => exact absurd hs (splitP_ne cs)
      | cons p ps => rfl
theorem split_mem : ∀ (s p : List UInt8), p ∈ splitP s → 47 ∉ p
  | [], p, h => by simp [splitP] at h; subst h; simp
  | c :: cs, p, h => by
    rw [splitP] at h
    by_cases hc : c = 47
    · rw [if_pos hc] at h
      rcases List.mem_cons.1 h with rfl | h
      · simp
      · exact split_mem cs p h
    · rw [if_neg hc] at h
      cases hs : splitP cs with
      | nil => exact absurd hs (splitP_ne cs)
      | cons q ps =>
        rw [hs] at h
        simp only at h
        rcases List.mem_cons.1 h with rfl | h
        · have := split_mem cs q (by rw [hs]; simp)
          intro e
          rcases List.mem_cons.1 e with e | e
          · exact hc e.symm
          · exact this e
        · exact split_mem cs p (by rw [hs]; simp [h])
theorem split_join : ∀ (l : List (List UInt8)), l ≠ [] → (∀ p ∈ l, 47 ∉ p) → splitP (joinP l) = l
  | [], h, _ => absurd rfl h
  | [p], _, h => by rw [joinP, splitP_no (h p (by simp))]
  | p :: q :: r, _, h => by
    rw [joinP, splitP_app, splitP_no (h p (by simp)), split_join (q :: r) (by simp) (fun x hx => h x (by simp [hx]))]
    rfl
theorem joinP_app (l m : List (List UInt8)) (hl : l ≠ []) (hm : m ≠ []) : joinP (l ++ m) = joinP l ++ 47 :: joinP m := by
  induction l with
  | nil => exact absurd rfl hl
  | cons p l ih =>
    cases l with
    | nil => rw [List.singleton_append, joinP_cons p hm]; rfl
    | cons q l =>
      have := ih (by simp)
      rw [List.cons_append, joinP_cons p (by simp), this, joinP_cons p (by simp)]
      simp
/-- May this be a path? -/
def validB (s : List UInt8) : Bool := decide (s.length ≤ 60) && (splitP s).all partB
theorem valid_ne {s : List UInt8} (h : validB s = true) : s ≠ [] := by
  rintro rfl
  simp [validB, splitP, partB] at h
theorem valid_parts {s : List UInt8} (h : validB s = true) : ∀ p ∈ splitP s, partB p = true := by
  simp only [validB, Bool.and_eq_true, List.all_eq_true] at h
  exact h.2
theorem valid_len {s : List UInt8} (h : validB s = true) : s.length ≤ 60 := by
  simp only [validB, Bool.and_eq_true, decide_eq_true_eq] at h
  exact h.1
theorem valid_mk {s : List UInt8} (h1 : s.length ≤ 60) (h2 : ∀ p ∈ splitP s, partB p = true) : validB s = true := by
  simp only [validB, Bool.and_eq_true, decide_eq_true_eq, List.all_eq_true]
  exact ⟨h1, h2⟩
theorem part_ne {p : List UInt8} (h : partB p = true) : p ≠ [] := by rintro rfl; simp [partB] at h
theorem part_no {p : List UInt8} (h : partB p = true) : 47 ∉ p := by
  intro h1
  simp only [partB, Bool.and_eq_true, List.all_eq_true] at h
  have := h.1 47 h1
  revert this; decide
def hiddenB (s : List UInt8) : Bool := validB s && s.head? == some 46
def partsL (s : List UInt8) : List (List UInt8) := if validB s = true then splitP s else []
def parentL (s : List UInt8) : List UInt8 := if validB s = true then joinP (splitP s).dropLast else []
def nameL (s : List UInt8) : List UInt8 := if validB s = true then (splitP s).getLastD [] else []
def joinRaw (d n : List UInt8) : List UInt8 := if d = [] then n else d ++ 47 :: n
def joinL (d n : List UInt8) : List UInt8 := if validB (joinRaw d n) = true then joinRaw d n else []
def underB (s d : List UInt8) : Bool := if d = [] then validB s else validB s && (validB d && (d ++ [47]).isPrefixOf s)

/-! ### the order -/
/-- Which of two lists comes first, by their first unlike elements; of two of which one goes on, the shorter one. -/
def lexB {α : Type} (lt : α → α → Bool) : List α → List α → Bool
  | [], [] => false
  | [], _ :: _ => true
  | _ :: _, [] => false
  | a :: as, b :: bs => if lt a b = true then true else if lt b a = true then false else lexB lt as bs
structure Strict {α : Type} (lt : α → α → Bool) : Prop where
  irr : ∀ a, lt a a = false
  tri : ∀ a b, lt a b = false → lt b a = false → a = b
  asym : ∀ a b, lt a b = true → lt b a = false
  trans : ∀ a b c, lt a b = true → lt b c = true → lt a c = true
theorem lexB_strict {α : Type} {lt : α → α → Bool} (h : Strict lt) : Strict (lexB lt) := by
  have hirr : ∀ a, lexB lt a a = false := by
    intro a
    induction a with
    | nil => rfl
    | cons x a ih => simp [lexB, h.irr, ih]
  have htri : ∀ a b, lexB lt a b = false → lexB lt b a = false → a = b := by
    intro a
    induction a with
    | nil => intro b h1 h2; cases b with
      | nil => rfl
      | cons y b => simp [lexB] at h1
    | cons x a ih =>
      intro b h1 h2
      cases b with
      | nil => simp [lexB] at h2
      | cons y b =>
        rw [lexB] at h1 h2
        cases hxy : lt x y with
        | true => rw [hxy] at h1; simp at h1
        | false =>
          cases hyx : lt y x with
          | true => rw [hyx] at h2; simp at h2
          | false =>
            rw [hxy, hyx] at h1; rw [hxy, hyx] at h2
            simp only [Bool.false_eq_true, if_false] at h1 h2
            rw [h.tri x y hxy hyx, ih b h1 h2]
  have hasym : ∀ a b, lexB lt a b = true → lexB lt b a = false := by
    intro a
    induction a with
    | nil => intro b h1; cases b with
      | nil => rfl
      | cons y b => rfl
    | cons x a ih =>
      intro b h1
      cases b with
      | nil => simp [lexB] at h1
      | cons y b =>
        rw [lexB] at h1 ⊢
        cases hxy : lt x y with
        | true => rw [h.asym x y hxy]; simp
        | false =>
          rw [hxy] at h1
          cases hyx : lt y x with
          | true => rw [hyx] at h1; simp at h1
          | false =>
            rw [hyx] at h1
            simp only [Bool.false_eq_true, if_false] at h1 ⊢
            exact ih b h1
  refine ⟨hirr, htri, hasym, ?_⟩
  intro a
  induction a with
  | nil =>
    intro b c h1 h2
    cases c with
    | nil => cases b with
      | nil => exact h2
      | cons y b => simp [lexB] at h2
    | cons z c => rfl
  | cons x a ih =>
    intro b c h1 h2
    cases b with
    | nil => simp [lexB] at h1
    | cons y b =>
      cases c with
      | nil => simp [lexB] at h2
      | cons z c =>
        rw [lexB] at h1 h2 ⊢
        cases hxy : lt x y with
        | true =>
          cases hyz : lt y z with
          | true => rw [h.trans x y z hxy hyz]; rfl
          | false =>
            rw [hyz] at h2
            cases hzy : lt z y with
            | true => rw [hzy] at h2; simp at h2
            | false => rw [← h.tri y z hyz hzy, hxy]; rfl
        | false =>
          rw [hxy] at h1
          cases hyx : lt y x with
          | true => rw [hyx] at h1; simp at h1
          | false =>
            have e := h.tri x y hxy hyx
            subst e
            rw [hyx] at h1
            simp only [Bool.false_eq_true, if_false] at h1
            cases hyz : lt x z with
            | true => rfl
            | false =>
              rw [hyz] at h2
              cases hzy : lt z x with
              | true => rw [hzy] at h2; simp at h2
              | false =>
                rw [hzy] at h2
                simp only [Bool.false_eq_true, if_false] at h2 ⊢
                exact ih b c h1 h2
def ltU (a b : UInt8) : Bool := decide (a.toNat < b.toNat)
theorem ltU_strict : Strict ltU := by
  refine ⟨fun a => by simp [ltU], fun a b h1 h2 => ?_, fun a b h => ?_, fun a b c h1 h2 => ?_⟩
  · simp only [ltU, decide_eq_false_iff_not] at h1 h2
    exact UInt8.toNat_inj.1 (by omega)
  · simp only [ltU, decide_eq_true_eq, decide_eq_false_iff_not] at h ⊢; omega
  · simp only [ltU, decide_eq_true_eq] at h1 h2 ⊢; omega
/-- Texts, by their bytes. -/
def ltS : List UInt8 → List UInt8 → Bool := lexB ltU
theorem ltS_strict : Strict ltS := lexB_strict ltU_strict
/-- Lists of parts. -/
def ltP : List (List UInt8) → List (List UInt8) → Bool := lexB ltS
theorem ltP_strict : Strict ltP := lexB_strict ltS_strict
/-- Which comes first: paths ahead of all else. -/
def lessB (a b : List UInt8) : Bool :=
  match validB a, validB b with
  | true, true => ltP (splitP a) (splitP b)
  | true, false => true
  | false, true => false
  | false, false => ltS a b
theorem lessB_strict : Strict lessB := by
  refine ⟨fun a => ?_, fun a b h1 h2 => ?_, fun a b h => ?_, fun a b c h1 h2 => ?_⟩
  · unfold lessB; cases validB a
    · exact ltS_strict.irr a
    · exact ltP_strict.irr _
  · unfold lessB at h1 h2
    cases ha : validB a <;> cases hb : validB b <;> rw [ha, hb] at h1 h2
    · exact ltS_strict.tri a b h1 h2
    · simp at h2
    · simp at h1
    · exact splitP_inj (ltP_strict.tri _ _ h1 h2)
  · unfold lessB at h ⊢
    cases ha : validB a <;> cases hb : validB b <;> rw [ha, hb] at h
    · exact ltS_strict.asym a b h
    · simp at h
    · exact ltP_strict.asym _ _ h
  · unfold lessB at h1 h2 ⊢
    cases ha : validB a <;> cases hb : validB b <;> cases hc : validB c <;> rw [ha, hb] at h1 <;> rw [hb, hc] at h2
    all_goals first | rfl | (simp at h1; done) | (simp at h2; done) | skip
    · exact ltS_strict.trans a b c h1 h2
    · exact ltP_strict.trans _ _ _ h1 h2
end Go.Proofs.YtoigmepkhiknbaaDoor
