/-
  What rules say of paths, in plain Lean. No program.
-/
import Derived.Test.YtkalfkgnjmkjgaaDoorIgnPlain
import Derived.Test.YtkalfkgnjmkjgaaDoorIgnRPure
namespace Go.Proofs.YtkalfkgnjmkjgaaDoor
set_option linter.unusedVariables false
set_option linter.unusedSimpArgs false

theorem let_ne {c : UInt8} (h : letB c = true) : c ≠ 42 ∧ c ≠ 63 ∧ c ≠ 47 ∧ c ≠ 33 ∧ c ≠ 32 ∧ c ≠ 10 := by
  refine ⟨?_, ?_, ?_, ?_, ?_, ?_⟩ <;> (rintro rfl; exact absurd h (by decide))
theorem part_let {p : List UInt8} (h : partB p = true) : (∀ c ∈ p, letB c = true) ∧ 1 ≤ p.length ∧ p.length ≤ 20 := by
  simp only [partB, Bool.and_eq_true, decide_eq_true_eq, List.all_eq_true] at h
  exact ⟨h.1, h.2.1, h.2.2.1⟩
theorem part_plain {p : List UInt8} (h : partB p = true) : plainB p = true := by
  simp only [plainB, List.all_eq_true, Bool.and_eq_true, bne_iff_ne]
  intro c hc
  have := let_ne ((part_let h).1 c hc)
  exact ⟨this.1, this.2.1⟩
theorem part_ws {p : List UInt8} (h : partB p = true) : p.any wsB = false := by
  rw [List.any_eq_false]
  intro c hc
  have := let_ne ((part_let h).1 c hc)
  simp only [wsB, Bool.or_eq_true, beq_iff_eq, not_or]
  exact ⟨this.2.2.2.2.1, this.2.2.2.2.2⟩
theorem part_flat {p : List UInt8} (h : partB p = true) : p.any (· == 47) = false := by
  rw [List.any_eq_false]
  intro c hc
  have := let_ne ((part_let h).1 c hc)
  simp only [beq_iff_eq]
  exact this.2.2.1
theorem part_flatB {p : List UInt8} (h : partB p = true) : flatB p = true := by
  simp only [flatB, List.all_eq_true, bne_iff_ne]
  intro c hc
  exact (let_ne ((part_let h).1 c hc)).2.2.1
theorem part_at {p : List UInt8} (h : partB p = true) {i : Nat} (hi : i < p.length) : letB (p.getD i 0) = true := by
  rw [List.getD_eq_getElem?_getD, List.getElem?_eq_getElem hi]
  exact (part_let h).1 _ (List.getElem_mem hi)

/-- How a rule reads. -/
theorem rule_gen {p : List UInt8} (n d : Bool) (h1 : 1 ≤ p.length) (h60 : p.length ≤ 60) (hw : p.any wsB = false) (hf : n = false → p.getD 0 0 ≠ 33) (hl : d = false → p.getD (p.length - 1) 0 ≠ 47) :
    okR ((if n = true then [33] else []) ++ (p ++ if d = true then [47] else [])) = true ∧ rlOf ((if n = true then [33] else []) ++ (p ++ if d = true then [47] else [])) = ⟨p, n, d, p.any (· == 47)⟩ := by
  obtain ⟨T, hT⟩ : ∃ T, T = p ++ (if d = true then [47] else []) := ⟨_, rfl⟩
  obtain ⟨S, hS⟩ : ∃ S, S = (if n = true then [33] else []) ++ T := ⟨_, rfl⟩
  rw [← hT, ← hS]
  have hp1 : par1 S = T ∧ parN S = n := by
    cases n with
    | true =>
      obtain ⟨a, b⟩ := par1_yes (S := S) (by rw [hS]; rfl)
      exact ⟨by rw [a, hS]; rfl, b⟩
    | false =>
      have h0 : S = T := by rw [hS]; rfl
      obtain ⟨a, b⟩ := par1_no (S := S) (by
        rw [h0, hT, List.getD_eq_getElem?_getD, List.getElem?_append_left (by omega), ← List.getD_eq_getElem?_getD]
        exact hf rfl)
      exact ⟨by rw [a, h0], b⟩
  have hp2 : parD S = d ∧ parT S = p := by
    unfold parD parT
    rw [hp1.1]
    cases d with
    | true =>
      obtain ⟨a, b⟩ := suf_yes (T := T) (n := p.length) (by rw [hT]; simp) (by
        rw [hT, List.getD_eq_getElem?_getD, List.getElem?_append_right (Nat.le_refl _), Nat.sub_self]; rfl)
      exact ⟨a, by rw [b, hT]; simp⟩
    | false =>
      have h0 : T = p := by rw [hT]; simp
      obtain ⟨a, b⟩ := suf_no (T := T) (.inr (by rw [h0]; exact hl rfl))
      exact ⟨a, by rw [b, h0]⟩
  refine ⟨?_, ?_⟩
  · unfold okR
    rw [hp2.2, hw, decide_eq_true h1, decide_eq_true h60]; rfl
  · unfold rlOf parW
    rw [hp2.2, hp2.1, hp1.2, index_slash]

/-- A path of one part. -/
theorem one_part {p : List UInt8} (h : validB p = true) (h2 : parentL p = []) : partB p = true ∧ nameL p = p := by
  have hne := splitP_ne p
  have hl : (splitP p).length = 1 := by
    rcases Nat.lt_or_ge 1 (splitP p).length with h3 | h3
    · exfalso
      refine (valid_take h ((splitP p).length - 1) (by omega)).2 ?_
      unfold parentL at h2
      rwa [if_pos h, List.dropLast_eq_take] at h2
    · have : (splitP p).length ≠ 0 := fun h0 => hne (List.eq_nil_of_length_eq_zero h0)
      omega
  obtain ⟨x, hx⟩ := List.length_eq_one_iff.1 hl
  have hj := join_split p
  rw [hx] at hj
  have hxp : x = p := hj
  subst hxp
  refine ⟨valid_parts h x (by rw [hx]; simp), ?_⟩
  unfold nameL
  rw [if_pos h, hx]; rfl
theorem ign_one {R : List Rl} {p : List UInt8} {d : Bool} (h : validB p = true) (h2 : parentL p = []) : ignL R p d = ownL R p d := by
  unfold ignL
  rw [h, igN_step R d h, h2]
  simp [igN]

/-- What is put together. -/
theorem last_one {p : List UInt8} (h : validB p = true) (h2 : parentL p = []) (n d dir : Bool) : ignL [rlOf ([120, 47] ++ p), ⟨p, n, d, false⟩] p dir = ((!d || dir) && !n) ∧ ignL [rlOf [42], ⟨p, n, d, false⟩] p dir = (!(!d || dir) || !n) := by
  obtain ⟨hp, hnm⟩ := one_part h h2
  obtain ⟨hlt, hl1, hl20⟩ := part_let hp
  have hA : rlOf ([120, 47] ++ p) = ⟨[120, 47] ++ p, false, false, true⟩ := by
    have h3 := (rule_gen (p := [120, 47] ++ p) false false (by simp) (by simp; omega) (by simp [part_ws hp, wsB]) (fun _ => by simp) (fun _ => ?_)).2
    · simp only [Bool.false_eq_true, if_false, List.nil_append, List.append_nil] at h3
      rw [h3]; simp
    · rw [List.getD_eq_getElem?_getD, List.getElem?_append_right (by simp; omega), ← List.getD_eq_getElem?_getD]
      refine (let_ne (part_at hp ?_)).2.2.1
      simp
      omega
  have hB : rlOf [42] = ⟨[42], false, false, false⟩ := by kernel_rfl
  have m1 : matchL ([120, 47] ++ p) p = false := by
    rw [match_plain (by rw [plain_app, part_plain hp]; rfl) (by simp; omega) (by omega), decide_eq_false]
    intro he
    have := congrArg List.length he
    simp at this
    omega
  have m2 : matchL p p = true := by rw [match_plain (part_plain hp) (by omega) (by omega), decide_eq_true rfl]
  have m3 : matchL [42] p = true := by rw [match_star (by omega), part_flatB hp]
  have e1 : hitR p dir ⟨[120, 47] ++ p, false, false, true⟩ = false := by unfold hitR; simp only [if_true]; rw [m1, Bool.and_false]
  have e2 : hitR p dir ⟨p, n, d, false⟩ = (!d || dir) := by unfold hitR; simp only [Bool.false_eq_true, if_false]; rw [hnm, m2, Bool.and_true]
  have e3 : hitR p dir ⟨[42], false, false, false⟩ = true := by unfold hitR; simp only [Bool.false_eq_true, if_false]; rw [hnm, m3]; rfl
  rw [ign_one h h2, ign_one h h2, hA, hB]
  constructor
  · show (if hitR p dir ⟨p, n, d, false⟩ = true then !n else if hitR p dir ⟨[120, 47] ++ p, false, false, true⟩ = true then !false else false) = _
    rw [e1, e2]
    cases d <;> cases dir <;> cases n <;> rfl
  · show (if hitR p dir ⟨p, n, d, false⟩ = true then !n else if hitR p dir ⟨[42], false, false, false⟩ = true then !false else false) = _
    rw [e2, e3]
    cases d <;> cases dir <;> cases n <;> rfl
theorem last_rl {p : List UInt8} (h : validB p = true) (h2 : parentL p = []) (n d : Bool) : allOk [[120, 47] ++ p, (if n = true then [33] else []) ++ (p ++ if d = true then [47] else [])] = true ∧ allOk [[42], (if n = true then [33] else []) ++ (p ++ if d = true then [47] else [])] = true ∧ rlOf ((if n = true then [33] else []) ++ (p ++ if d = true then [47] else [])) = ⟨p, n, d, false⟩ := by
  obtain ⟨hp, hnm⟩ := one_part h h2
  obtain ⟨hlt, hl1, hl20⟩ := part_let hp
  have hA : okR ([120, 47] ++ p) = true := by
    have h3 := (rule_gen (p := [120, 47] ++ p) false false (by simp) (by simp; omega) (by simp [part_ws hp, wsB]) (fun _ => by simp) (fun _ => ?_)).1
    · simpa only [Bool.false_eq_true, if_false, List.nil_append, List.append_nil] using h3
    · rw [List.getD_eq_getElem?_getD, List.getElem?_append_right (by simp; omega), ← List.getD_eq_getElem?_getD]
      refine (let_ne (part_at hp ?_)).2.2.1
      simp
      omega
  have hB : okR [42] = true := by kernel_rfl
  obtain ⟨h3, h4⟩ := rule_gen (p := p) n d hl1 (by omega) (part_ws hp) (fun _ => (let_ne (part_at hp (by omega))).2.2.2.1) (fun _ => (let_ne (part_at hp (by omega))).2.2.1)
  refine ⟨?_, ?_, ?_⟩
  · simp only [allOk, List.all_cons, List.all_nil, hA, h3]; rfl
  · simp only [allOk, List.all_cons, List.all_nil, hB, h3]; rfl
  · rw [h4, part_flat hp]

/-! ### what stands under a path -/
theorem under_ign (R : List Rl) {a : List UInt8} (ha : validB a = true) (h : igN R a.length a true = true) : ∀ (k : Nat) (n : List UInt8) (d : Bool), n.length ≤ k → validB (a ++ 47 :: n) = true → igN R (a ++ 47 :: n).length (a ++ 47 :: n) d = true := by
  intro k
  induction k with
  | zero =>
    intro n d hn hv
    obtain rfl : n = [] := List.eq_nil_of_length_eq_zero (by omega)
    exact absurd (end_valid a) (by rw [hv]; decide)
  | succ k ih =>
    intro n d hn hv
    rw [igN_step R d hv]
    have hs : splitP (a ++ 47 :: n) = splitP a ++ splitP n := splitP_app a n
    have hnn := splitP_ne n
    obtain ⟨l, x, hl⟩ : ∃ l x, splitP n = l ++ [x] := ⟨_, _, (List.dropLast_concat_getLast hnn).symm⟩
    have hp : parentL (a ++ 47 :: n) = joinP (splitP a ++ l) := by
      unfold parentL
      rw [if_pos hv, hs, hl, ← List.append_assoc, List.dropLast_concat]
    by_cases h0 : l = []
    · subst h0
      rw [List.append_nil, join_split] at hp
      rw [hp, h, Bool.or_true]
    · have hp2 : parentL (a ++ 47 :: n) = a ++ 47 :: joinP l := by rw [hp, joinP_app _ _ (splitP_ne a) h0, join_split]
      have hv2 : validB (a ++ 47 :: joinP l) = true := by
        rw [← hp2]
        refine par_valid hv ?_
        rw [hp2]; simp
      have hlen : (joinP l).length ≤ k := by
        have hj := join_split n
        rw [hl, joinP_app l [x] h0 (by simp)] at hj
        rw [← hj] at hn
        simp only [List.length_append, List.length_cons] at hn
        omega
      rw [hp2, ih (joinP l) true hlen hv2, Bool.or_true]
theorem under_law {R : List Rl} {a n : List UInt8} {dir : Bool} (h : ignL R a true = true) (ha : a ≠ []) (hj : joinL a n ≠ []) : ignL R (joinL a n) dir = true := by
  unfold ignL at h
  rw [Bool.and_eq_true] at h
  have hv : validB (joinRaw a n) = true := by
    cases hq : validB (joinRaw a n) with
    | true => rfl
    | false => unfold joinL at hj; rw [if_neg (by rw [hq]; decide)] at hj; exact absurd rfl hj
  have hr : joinRaw a n = a ++ 47 :: n := by unfold joinRaw; rw [if_neg ha]
  have he : joinL a n = a ++ 47 :: n := by unfold joinL; rw [if_pos hv, hr]
  rw [hr] at hv
  rw [he]
  unfold ignL
  rw [hv, Bool.true_and]
  exact under_ign R h.1 h.2 _ n dir (Nat.le_refl _) hv
theorem join_valid {a n : List UInt8} (ha : a ≠ []) (hj : joinL a n ≠ []) : validB a = true := by
  have hv : validB (joinRaw a n) = true := by
    cases hq : validB (joinRaw a n) with
    | true => rfl
    | false => unfold joinL at hj; rw [if_neg (by rw [hq]; decide)] at hj; exact absurd rfl hj
  have hr : joinRaw a n = a ++ 47 :: n := by unfold joinRaw; rw [if_neg ha]
  rw [hr] at hv
  have hl := valid_len hv
  refine valid_mk (by simp at hl; omega) fun p hp => valid_parts hv p ?_
  rw [splitP_app]
  exact List.mem_append_left _ hp
theorem name_part {a : List UInt8} (h : validB a = true) : partB (nameL a) = true := by
  have hne := splitP_ne a
  unfold nameL
  rw [if_pos h]
  refine valid_parts h _ ?_
  rw [List.getLastD_eq_getLast?, List.getLast?_eq_some_getLast hne]
  exact List.getLast_mem hne
theorem all_rl {x : List UInt8} (hp : partB x = true) : allOk [[42, 42], [33] ++ x] = true ∧ rlOf ([33] ++ x) = ⟨x, true, false, false⟩ := by
  obtain ⟨hlt, hl1, hl20⟩ := part_let hp
  obtain ⟨h3, h4⟩ := rule_gen (p := x) true false hl1 (by omega) (part_ws hp) (fun h => by cases h) (fun _ => (let_ne (part_at hp (by omega))).2.2.1)
  simp only [if_true, Bool.false_eq_true, if_false, List.append_nil] at h3 h4
  have hB : okR [42, 42] = true := by kernel_rfl
  refine ⟨?_, by rw [h4, part_flat hp]⟩
  simp only [allOk, List.all_cons, List.all_nil, hB, h3]; rfl
theorem all_one {a : List UInt8} (h : validB a = true) (h2 : parentL a = []) (dir : Bool) : ignL [rlOf [42, 42], ⟨nameL a, true, false, false⟩] a dir = false := by
  obtain ⟨hp, hnm⟩ := one_part h h2
  obtain ⟨hlt, hl1, hl20⟩ := part_let hp
  have hB : rlOf [42, 42] = ⟨[42, 42], false, false, false⟩ := by kernel_rfl
  have m2 : matchL a a = true := by rw [match_plain (part_plain hp) (by omega) (by omega), decide_eq_true rfl]
  have e2 : hitR a dir ⟨nameL a, true, false, false⟩ = true := by unfold hitR; simp only [Bool.false_eq_true, if_false]; rw [hnm, m2]; rfl
  rw [ign_one h h2, hB]
  show (if hitR a dir ⟨nameL a, true, false, false⟩ = true then !true else _) = _
  rw [e2]; rfl
end Go.Proofs.YtkalfkgnjmkjgaaDoor
