/-
  What holds of paths, in plain Lean. No condition.
-/
import Derived.Test.YtoigmepkhiknbaaDoorPathPure
namespace Go.Proofs.YtoigmepkhiknbaaDoor
set_option linter.unusedVariables false
set_option linter.unusedSimpArgs false

theorem lexB_more {α : Type} {lt : α → α → Bool} (h : Strict lt) : ∀ (l m : List α), m ≠ [] → lexB lt l (l ++ m) = true
  | [], m, hm => by cases m with
    | nil => exact absurd rfl hm
    | cons y m => rfl
  | x :: l, m, hm => by
    rw [List.cons_append, lexB, h.irr]
    simpa using lexB_more h l m hm
theorem lexB_between {α : Type} {lt : α → α → Bool} (h : Strict lt) : ∀ (A B N : List α), lexB lt A B = true → lexB lt B (A ++ N) = true → ∃ R, R ≠ [] ∧ B = A ++ R
  | [], B, N, h1, _ => by
    refine ⟨B, ?_, rfl⟩
    rintro rfl
    simp [lexB] at h1
  | x :: A, [], N, h1, _ => by simp [lexB] at h1
  | x :: A, y :: B, N, h1, h2 => by
    rw [List.cons_append, lexB] at h2
    rw [lexB] at h1
    cases hxy : lt x y with
    | true =>
      rw [h.asym x y hxy, hxy] at h2
      simp at h2
    | false =>
      rw [hxy] at h1
      cases hyx : lt y x with
      | true => rw [hyx] at h1; simp at h1
      | false =>
        rw [hyx] at h1; rw [hxy, hyx] at h2
        simp only [Bool.false_eq_true, if_false] at h1 h2
        obtain ⟨R, hR, rfl⟩ := lexB_between h A B N h1 h2
        exact ⟨R, hR, by rw [h.tri x y hxy hyx]; rfl⟩

theorem isPrefixOf_app (a t : List UInt8) : a.isPrefixOf (a ++ t) = true := by
  induction a with
  | nil => rfl
  | cons x a ih => simp [List.isPrefixOf, ih]
theorem isPrefixOf_long {a s : List UInt8} (h : s.length < a.length) : a.isPrefixOf s = false := by
  cases hp : a.isPrefixOf s with
  | false => rfl
  | true => have := (List.isPrefixOf_iff_prefix.1 hp).length_le; omega

theorem join_some {a n : List UInt8} (hc : joinL a n ≠ []) (ha : a ≠ []) :
    joinL a n = a ++ 47 :: n ∧ validB (a ++ 47 :: n) = true ∧ validB a = true := by
  have hr : joinRaw a n = a ++ 47 :: n := by rw [joinRaw, if_neg ha]
  have hv : validB (a ++ 47 :: n) = true := by
    cases hv : validB (a ++ 47 :: n) with
    | true => rfl
    | false => exact absurd (by rw [joinL, hr, hv]; rfl) hc
  refine ⟨by rw [joinL, hr, hv]; rfl, hv, valid_mk ?_ fun p hp => ?_⟩
  · have := valid_len hv
    simp at this; omega
  · exact valid_parts hv p (by rw [splitP_app]; exact List.mem_append_left _ hp)
/-- What stands under a path stands directly behind it. -/
theorem trees_law {a n : List UInt8} (hc : joinL a n ≠ []) (ha : a ≠ []) :
    underB (joinL a n) a = true ∧ underB a (joinL a n) = false ∧ lessB a (joinL a n) = true ∧ underB (joinL a n) (joinL a n) = false ∧
    ∀ b, validB b = true → lessB a b = true → lessB b (joinL a n) = true → underB b a = true := by
  obtain ⟨he, hv, hva⟩ := join_some hc ha
  rw [he] at hc ⊢
  have hs := splitP_app a n
  refine ⟨?_, ?_, ?_, ?_, fun b hb h1 h2 => ?_⟩
  · rw [underB, if_neg ha, hv, hva]
    have : a ++ 47 :: n = (a ++ [47]) ++ n := by simp
    rw [this, isPrefixOf_app]; rfl
  · rw [underB, if_neg hc, isPrefixOf_long (by simp)]; simp
  · unfold lessB
    rw [hv, hva, hs]
    exact lexB_more ltS_strict _ _ (splitP_ne n)
  · rw [underB, if_neg hc, isPrefixOf_long (by simp)]; simp
  · unfold lessB at h1 h2
    rw [hva, hb] at h1
    rw [hb, hv, hs] at h2
    obtain ⟨R, hR, hB⟩ := lexB_between ltS_strict _ _ _ h1 h2
    rw [underB, if_neg ha, hb, hva]
    have : b = (a ++ [47]) ++ joinP R := by
      rw [← join_split b, hB, joinP_app _ _ (splitP_ne a) hR, join_split]; simp
    rw [this, isPrefixOf_app]; rfl

/-- Some first parts of a path. -/
theorem valid_take {a : List UInt8} (h : validB a = true) (i : Nat) (hi : 0 < i) : validB (joinP ((splitP a).take i)) = true ∧ joinP ((splitP a).take i) ≠ [] := by
  have hp := valid_parts h
  have hne : (splitP a).take i ≠ [] := by
    cases hs : splitP a with
    | nil => exact absurd hs (splitP_ne a)
    | cons x l => cases i with
      | zero => omega
      | succ i => simp
  have hsj : splitP (joinP ((splitP a).take i)) = (splitP a).take i := split_join _ hne (fun p hp' => part_no (hp p (List.mem_of_mem_take hp')))
  have hv : validB (joinP ((splitP a).take i)) = true := by
    refine valid_mk ?_ fun p hp' => ?_
    · have hl := valid_len h
      rcases Nat.lt_or_ge i (splitP a).length with h1 | h1
      · have hd : (splitP a).drop i ≠ [] := by
          intro e
          have := congrArg List.length e
          simp at this; omega
        have := joinP_app ((splitP a).take i) ((splitP a).drop i) hne hd
        rw [List.take_append_drop, join_split] at this
        rw [this] at hl
        simp at hl; omega
      · rw [List.take_of_length_le h1, join_split]; exact hl
    · rw [hsj] at hp'
      exact hp p (List.mem_of_mem_take hp')
  exact ⟨hv, valid_ne hv⟩
theorem back_step {a : List UInt8} (h : validB a = true) (i : Nat) (hi : i < (splitP a).length) : joinL (joinP ((splitP a).take i)) ((splitP a).getD i []) = joinP ((splitP a).take (i + 1)) := by
  have ht : (splitP a).take (i + 1) = (splitP a).take i ++ [(splitP a).getD i []] := by
    rw [List.take_succ_eq_append_getElem hi]; simp [List.getElem?_eq_getElem hi]
  have hv := (valid_take h (i + 1) (by omega)).1
  have hr : joinRaw (joinP ((splitP a).take i)) ((splitP a).getD i []) = joinP ((splitP a).take (i + 1)) := by
    rw [ht]
    rcases Nat.eq_zero_or_pos i with rfl | h0
    · rw [List.take_zero]; show (if joinP [] = [] then _ else _) = _; rw [if_pos (show joinP [] = [] from rfl)]; rfl
    · have hne := (valid_take h i h0).2
      have hne2 : (splitP a).take i ≠ [] := fun e => hne (by rw [e]; rfl)
      rw [joinRaw, if_neg hne, joinP_app _ _ hne2 (by simp)]; rfl
  rw [joinL, hr, hv]; rfl
theorem last_eq {l : List (List UInt8)} (h : l ≠ []) : l.getLastD [] = l.getD (l.length - 1) [] := by
  rw [List.getD_eq_getElem?_getD, ← List.getLast?_eq_getElem?]
  cases hl : l.getLast? with
  | none => exact absurd (List.getLast?_eq_none_iff.1 hl) h
  | some x => simp [List.getLastD_eq_getLast?, hl]
theorem back_law {a : List UInt8} (h : validB a = true) : joinL (parentL a) (nameL a) = a ∧ nameL a = (splitP a).getD ((splitP a).length - 1) [] := by
  have hne := splitP_ne a
  have hl : 0 < (splitP a).length := List.length_pos_iff.2 hne
  have h1 : nameL a = (splitP a).getD ((splitP a).length - 1) [] := by rw [nameL, h]; exact last_eq hne
  refine ⟨?_, h1⟩
  have := back_step h ((splitP a).length - 1) (by omega)
  rw [h1, parentL, h]
  simp only [if_true]
  rw [List.dropLast_eq_take, this, List.take_of_length_le (by omega), join_split]

/-! ### how a path is made of so many parts -/
def xs (n : Nat) : List UInt8 := List.replicate n 120
def xpath (n m : Nat) : List UInt8 := joinP (List.replicate m (xs n))
theorem xs_no (n : Nat) : 47 ∉ xs n := by
  intro h
  have := (List.mem_replicate.1 h).2
  revert this; decide
theorem xs_part {n : Nat} (h : 1 ≤ n) : partB (xs n) = decide (n ≤ 20) := by
  have h1 : (xs n).all letB = true := List.all_eq_true.2 fun c hc => by rw [(List.mem_replicate.1 hc).2]; decide
  have h2 : xs n ≠ [46] := by
    intro e
    have : (46 : UInt8) ∈ xs n := by rw [e]; simp
    have := (List.mem_replicate.1 this).2
    revert this; decide
  have h3 : xs n ≠ [46, 46] := by
    intro e
    have : (46 : UInt8) ∈ xs n := by rw [e]; simp
    have := (List.mem_replicate.1 this).2
    revert this; decide
  have hl : (xs n).length = n := by simp [xs]
  unfold partB
  rw [h1, hl, bne_iff_ne.2 h2, bne_iff_ne.2 h3]
  simp [h]
theorem xpath_split (n : Nat) {m : Nat} (h : 1 ≤ m) : splitP (xpath n m) = List.replicate m (xs n) := by
  refine split_join _ ?_ fun p hp => ?_
  · cases m with
    | zero => omega
    | succ m => simp [List.replicate_succ]
  · rw [(List.mem_replicate.1 hp).2]; exact xs_no n
theorem xpath_len (n : Nat) : ∀ m, 1 ≤ m → (xpath n m).length + 1 = m * (n + 1)
  | 0, h => by omega
  | 1, _ => by simp [xpath, joinP, xs]
  | m + 2, _ => by
    have ih := xpath_len n (m + 1) (by omega)
    have : xpath n (m + 2) = xs n ++ 47 :: xpath n (m + 1) := by
      simp only [xpath]
      rw [List.replicate_succ, joinP_cons _ (by simp [List.replicate_succ])]
    rw [this, List.length_append, List.length_cons, Nat.succ_mul (m + 1), ← ih]
    simp [xs]; omega
theorem limits_valid {n m : Nat} (hn : 1 ≤ n) (hm : 1 ≤ m) : validB (xpath n m) = (decide (n ≤ 20) && decide (m * (n + 1) - 1 ≤ 60)) := by
  have hl := xpath_len n m hm
  have h1 : (List.replicate m (xs n)).all partB = decide (n ≤ 20) := by
    have : m ≠ 0 := by omega
    rw [List.all_replicate, xs_part hn]
    simp [this]
  unfold validB
  rw [xpath_split n hm, h1, show m * (n + 1) - 1 = (xpath n m).length by omega, Bool.and_comm]
theorem one_valid (c : UInt8) : validB [c] = (letB c && (c != 46)) := by
  by_cases h : c = 47
  · subst h; decide
  · have hs : splitP [c] = [[c]] := splitP_no (by simp; exact fun e => h e.symm)
    unfold validB
    rw [hs]
    by_cases h2 : c = 46
    · subst h2; decide
    · have h3 : ([c] != [46]) = (c != 46) := by rw [Bool.eq_iff_iff, bne_iff_ne, bne_iff_ne]; simp
      have h4 : ([c] != [46, 46]) = true := by rw [bne_iff_ne]; simp
      simp only [partB, List.all_cons, List.all_nil, h3, h4]
      simp
theorem mid_valid (c : UInt8) : validB [97, c, 98] = (letB c || decide (c = 47)) := by
  by_cases h : c = 47
  · subst h; decide
  · have hs : splitP [97, c, 98] = [[97, c, 98]] := splitP_no (by simp; exact fun e => h e.symm)
    unfold validB
    rw [hs]
    have h1 : letB 97 = true := by decide
    have h2 : letB 98 = true := by decide
    simp [partB, h, h1, h2]
theorem end_valid (s : List UInt8) : validB (s ++ [47]) = false := by
  have : splitP (s ++ [47]) = splitP s ++ [[]] := splitP_app s []
  unfold validB
  rw [this]
  simp [partB]
theorem front_valid (s : List UInt8) : validB (47 :: s) = false := by
  unfold validB
  rw [splitP, if_pos rfl]
  simp [partB]
end Go.Proofs.YtoigmepkhiknbaaDoor
