/-
  Rounds of a ring: how often each block is visited. No program.
-/
import Derived.Test.YtoigmepkhiknbaaDoorSchRing
namespace Go.Proofs.YtoigmepkhiknbaaDoor
set_option linter.unusedVariables false
set_option linter.unusedSimpArgs false

/-- The path of a number. -/
def pk (i : Nat) : List UInt8 := [UInt8.ofNat (97 + i)]
theorem pk_less : ∀ i, i < 10 → ∀ k, k < 10 → i < k → lessB (pk i) (pk k) = true := by decide +kernel
theorem pk_valid : ∀ i, i < 10 → validB (pk i) = true := by decide +kernel
theorem pk_inj : ∀ i, i < 10 → ∀ k, k < 10 → pk i = pk k → i = k := by decide +kernel
theorem setL_end {p : List UInt8} {n : Nat} : ∀ {l : List Ent}, (∀ x ∈ l, lessB x.1 p = true) → setL l p n = l ++ [(p, n)]
  | [], _ => rfl
  | x :: r, h => by
    rw [setL, if_pos (h x (by simp)), setL_end fun y hy => h y (by simp [hy])]; rfl
/-- The ring of so many paths. -/
def rndL (f : Nat → Nat) (k : Nat) : List Ent := (List.range k).map fun i => (pk i, f i)
theorem rndL_len (f : Nat → Nat) (k : Nat) : (rndL f k).length = k := by simp [rndL]
theorem rndL_succ (f : Nat → Nat) (k : Nat) : rndL f (k + 1) = rndL f k ++ [(pk k, f k)] := by simp [rndL, List.range_succ]
theorem rndL_set {f : Nat → Nat} {k : Nat} (hk : k < 10) : setL (rndL f k) (pk k) (f k) = rndL f (k + 1) := by
  rw [rndL_succ, setL_end]
  intro x hx
  obtain ⟨i, hi, rfl⟩ := List.mem_map.1 hx
  have := List.mem_range.1 hi
  exact pk_less i (by omega) k hk (by omega)
theorem rndL_keys (f : Nat → Nat) (k : Nat) : keysL (rndL f k) = (List.range k).map pk := by simp [keysL, rndL]
theorem rndL_tot (f : Nat → Nat) (k : Nat) : totL (rndL f (k + 1)) = totL (rndL f k) + f k := by
  rw [rndL_succ]; simp [totL]
theorem rndL_good {f : Nat → Nat} : ∀ {k : Nat}, k ≤ 10 → (∀ i, i < k → f i ≤ 4096) → Good (rndL f k)
  | 0, _, _ => ⟨List.Pairwise.nil, by simp [rndL], by simp [rndL]⟩
  | k + 1, hk, hf => by
    rw [← rndL_set (by omega)]
    exact good_set (rndL_good (by omega) fun i hi => hf i (by omega)) (pk_valid k (by omega)) (hf k (by omega))
theorem rndL_mem {f : Nat → Nat} {k : Nat} {x : Ent} (h : x ∈ flatL (rndL f k)) : ∃ i, i < k ∧ x = (pk i, x.2) ∧ x.2 < f i := by
  obtain ⟨n, h1, h2⟩ := flatL_mem h
  obtain ⟨i, hi, he⟩ := List.mem_map.1 h1
  injection he with he1 he2
  refine ⟨i, List.mem_range.1 hi, ?_, by omega⟩
  rw [he1]
theorem rndL_in {f : Nat → Nat} {k i j : Nat} (hi : i < k) (hj : j < f i) : (pk i, j) ∈ flatL (rndL f k) := by
  unfold flatL
  rw [List.mem_flatMap]
  exact ⟨(pk i, f i), List.mem_map.2 ⟨i, List.mem_range.2 hi, rfl⟩, List.mem_map.2 ⟨j, List.mem_range.2 hj, rfl⟩⟩
theorem rndL_bd {f : Nat → Nat} (hf : ∀ i, f i ≤ 7) : ∀ k, totL (rndL f k) ≤ 7 * k
  | 0 => by simp [rndL, totL]
  | k + 1 => by
    have h1 := rndL_bd hf k
    have h2 := hf k
    rw [rndL_tot]; omega

theorem mod_step {a T : Nat} (h : 0 < T) : (a + 1) % T = if a % T + 1 < T then a % T + 1 else 0 := by
  have h1 : (a + 1) % T = (a % T + 1) % T := by simp
  rw [h1]
  have h2 := Nat.mod_lt a h
  split
  · rename_i h3; exact Nat.mod_eq_of_lt h3
  · have : a % T + 1 = T := by omega
    rw [this, Nat.mod_self]
/-- How far it is to a place. -/
def farN (T r p : Nat) : Nat := if p ≤ r then r - p else r + T - p
theorem farN_lt {T r p : Nat} (hr : r < T) (hp : p < T) : farN T r p < T := by unfold farN; split <;> omega
theorem nodup_flat {l : List Ent} (hg : Good l) {i j : Nat} (hi : i < totL l) (hj : j < totL l) (h : (flatL l)[i]? = (flatL l)[j]?) : i = j := by
  have hl := flatL_len l
  have hp := flatL_sorted hg
  rw [List.pairwise_iff_getElem] at hp
  rw [List.getElem?_eq_getElem (by omega), List.getElem?_eq_getElem (by omega)] at h
  injection h with h
  rcases Nat.lt_trichotomy i j with hlt | heq | hgt
  · have := hp i j (by omega) (by omega) hlt
    rw [h, visLt_irr] at this; cases this
  · exact heq
  · have := hp j i (by omega) (by omega) hgt
    rw [h, visLt_irr] at this; cases this
theorem ringN_succ (l : List Ent) (i n : Nat) : ringN l i (n + 1) = ringN l i n ++ [(flatL l).getD ((i + n) % totL l) ([], 0)] := by simp [ringN, List.range_succ]
theorem count_inv {l : List Ent} (hg : Good l) (h0 : 0 < totL l) {r i : Nat} (hr : r < totL l) {x : Ent} (hx : (flatL l)[r]? = some x) : ∀ V, (ringN l i V).count x * totL l + farN (totL l) r (i % totL l) = V + farN (totL l) r ((i + V) % totL l)
  | 0 => by simp [ringN]
  | V + 1 => by
    have ih := count_inv hg h0 hr hx (i := i) V
    have hm := Nat.mod_lt (i + V) h0
    rw [ringN_succ, List.count_append, show i + (V + 1) = i + V + 1 by omega, mod_step h0]
    obtain ⟨p, hp⟩ : ∃ p, p = (i + V) % totL l := ⟨_, rfl⟩
    rw [← hp] at ih hm ⊢
    have hpl : (flatL l)[p]? = some ((flatL l).getD p ([], 0)) := by
      rw [List.getD_eq_getElem?_getD, List.getElem?_eq_getElem (by rw [flatL_len]; exact hm)]; rfl
    by_cases hpr : p = r
    · have hv : (flatL l).getD p ([], 0) = x := by rw [hpr] at hpl ⊢; rw [hpl] at hx; exact Option.some.inj hx
      rw [hv]
      simp only [List.count_cons_self, List.count_nil, Nat.zero_add]
      rw [Nat.add_mul, Nat.one_mul]
      obtain ⟨c, hc⟩ : ∃ c, c = List.count x (ringN l i V) * totL l := ⟨_, rfl⟩
      rw [← hc] at ih ⊢
      subst hpr
      have f1 : farN (totL l) p p = 0 := by unfold farN; rw [if_pos (Nat.le_refl _)]; omega
      have f2 : farN (totL l) p (if p + 1 < totL l then p + 1 else 0) = totL l - 1 := by
        unfold farN
        by_cases hs : p + 1 < totL l
        · rw [if_pos hs, if_neg (by omega)]; omega
        · rw [if_neg hs, if_pos (Nat.zero_le _)]; omega
      rw [f1] at ih
      rw [f2]
      omega
    · have hv : (flatL l).getD p ([], 0) ≠ x := by
        intro h
        rw [h, ← hx] at hpl
        exact hpr (nodup_flat hg hm hr hpl)
      rw [show List.count x [(flatL l).getD p ([], 0)] = 0 from List.count_eq_zero.2 (by simpa using fun h => hv h.symm), Nat.add_zero]
      obtain ⟨c, hc⟩ : ∃ c, c = List.count x (ringN l i V) * totL l := ⟨_, rfl⟩
      rw [← hc] at ih ⊢
      unfold farN at ih ⊢
      by_cases hs : p + 1 < totL l
      · rw [if_pos hs]
        split at ih <;> split at ih <;> split <;> split <;> omega
      · rw [if_neg hs]
        split at ih <;> split at ih <;> split <;> split <;> omega
/-- At least so often. -/
theorem count_low {l : List Ent} (hg : Good l) {i R V : Nat} {x : Ent} (hx : x ∈ flatL l) (hV : R * totL l ≤ V) : R ≤ (ringN l i V).count x := by
  obtain ⟨r, hr, he⟩ := List.getElem_of_mem hx
  rw [flatL_len] at hr
  have h0 : 0 < totL l := by omega
  have h := count_inv hg h0 hr (x := x) (i := i) (by rw [List.getElem?_eq_getElem (by rw [flatL_len]; exact hr), he]) V
  have h1 := farN_lt hr (Nat.mod_lt i h0)
  rcases Nat.lt_or_ge ((ringN l i V).count x) R with hc | hc
  · have h2 : ((ringN l i V).count x + 1) * totL l ≤ R * totL l := Nat.mul_le_mul_right _ hc
    rw [Nat.add_mul, Nat.one_mul] at h2
    omega
  · exact hc
/-- None twice as often as another, but for one. -/
theorem count_near {l : List Ent} (hg : Good l) {i V : Nat} {x y : Ent} (hx : x ∈ flatL l) (hy : y ∈ flatL l) : (ringN l i V).count x ≤ (ringN l i V).count y + 1 := by
  obtain ⟨r, hr, he⟩ := List.getElem_of_mem hx
  obtain ⟨s, hs, he2⟩ := List.getElem_of_mem hy
  rw [flatL_len] at hr hs
  have h0 : 0 < totL l := by omega
  have h := count_inv hg h0 hr (x := x) (i := i) (by rw [List.getElem?_eq_getElem (by rw [flatL_len]; exact hr), he]) V
  have k := count_inv hg h0 hs (x := y) (i := i) (by rw [List.getElem?_eq_getElem (by rw [flatL_len]; exact hs), he2]) V
  have h1 := farN_lt hr (Nat.mod_lt i h0)
  have h2 := farN_lt hr (Nat.mod_lt (i + V) h0)
  have k1 := farN_lt hs (Nat.mod_lt i h0)
  have k2 := farN_lt hs (Nat.mod_lt (i + V) h0)
  rcases Nat.lt_or_ge ((ringN l i V).count y + 1) ((ringN l i V).count x) with hc | hc
  · have h3 : ((ringN l i V).count y + 1 + 1) * totL l ≤ (ringN l i V).count x * totL l := Nat.mul_le_mul_right _ hc
    rw [Nat.add_mul, Nat.add_mul, Nat.one_mul] at h3
    omega
  · exact hc
theorem afterN_add (S : SS) (a : Nat) : ∀ b, afterN (afterN S a) b = afterN S (a + b)
  | 0 => rfl
  | b + 1 => by rw [afterN, afterN_add S a b]; rfl
theorem visN_add (S : SS) (a : Nat) : ∀ b, visN S (a + b) = visN S a ++ visN (afterN S a) b
  | 0 => by simp [visN]
  | b + 1 => by rw [← Nat.add_assoc, visN_succ, visN_add S a b, visN_succ, afterN_add, List.append_assoc]
/-- How many calls a round is. -/
theorem round_enough {T q : Nat} (hq : 0 < q) : (roundN T q).toNat * min q T ≥ T ∧ (T < q → (roundN T q).toNat * min q T = T) ∧ 0 ≤ roundN T q ∧ roundN T q ≤ T := by
  unfold roundN
  rw [if_neg (by omega)]
  have e1 : ((T : Int) % (q : Int)) = ((T % q : Nat) : Int) := by simp
  have e2 : ((T : Int) / (q : Int)) = ((T / q : Nat) : Int) := by simp
  rw [e1, e2]
  have h1 := Nat.div_add_mod T q
  have h2 := Nat.mod_lt T hq
  have h4 := Nat.div_le_self T q
  rcases Nat.lt_or_ge T q with hlt | hge
  · have h3 : T / q = 0 := Nat.div_eq_of_lt hlt
    have h5 : T % q = T := Nat.mod_eq_of_lt hlt
    rw [h3, h5, Nat.min_eq_right (by omega)]
    rcases Nat.eq_zero_or_pos T with h0 | h0
    · subst h0; simp
    · rw [if_pos (by omega)]
      refine ⟨?_, fun _ => ?_, by omega, by omega⟩ <;> simp
  · rw [Nat.min_eq_left hge]
    have h6 : 1 ≤ T / q := (Nat.le_div_iff_mul_le hq).2 (by omega)
    have h7 : T / q * q = q * (T / q) := Nat.mul_comm _ _
    by_cases hm : 0 < T % q
    · rw [if_pos (by omega)]
      have h8 : ((T / q : Nat) + 1 : Int).toNat = T / q + 1 := by omega
      rw [h8, Nat.add_mul, Nat.one_mul]
      refine ⟨by omega, fun h => by omega, by omega, ?_⟩
      have h9 : T / q ≤ q * (T / q) := Nat.le_mul_of_pos_left _ hq
      omega
    · rw [if_neg (by omega)]
      have h8 : ((T / q : Nat) : Int).toNat = T / q := by omega
      rw [h8]
      refine ⟨by omega, fun h => by omega, by omega, by omega⟩
end Go.Proofs.YtoigmepkhiknbaaDoor
