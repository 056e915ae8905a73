/-
  The ring of a, b and c. No program.
-/
import Derived.Test.YtoigmepkhiknbaaDoorSchRing
import Derived.Test.YtoigmepkhiknbaaDoorSchNext
namespace Go.Proofs.YtoigmepkhiknbaaDoor
open Go.RowKit Go.Maps Go.Joins
set_option linter.unusedVariables false
set_option linter.unusedSimpArgs false

def ordL (a b : Nat) : List Ent := [([97], a), ([98], b), ([99], 2)]
def ordD (b : Nat) : List Ent := [([98], b), ([99], 2)]
theorem ord_s1 (b : Nat) : setL [] [98] b = [([98], b)] := by kernel_rfl
theorem ord_s2 (a b : Nat) : setL [([98], b)] [97] a = [([97], a), ([98], b)] := by kernel_rfl
theorem ord_s3 (a b : Nat) : setL [([97], a), ([98], b)] [99] 2 = ordL a b := by kernel_rfl
theorem ord_v98 : validB [98] = true := by kernel_rfl
theorem ord_v97 : validB [97] = true := by kernel_rfl
theorem ord_v99 : validB [99] = true := by kernel_rfl
theorem setE_ok {l : List Ent} {p : List UInt8} {n : Int} (hv : validB p = true) (h0 : 0 ≤ n) (h1 : n ≤ 4096) (hl : l.length < 100) : setE l p n = 0 := by
  unfold setE
  rw [hv, decide_eq_true h0, decide_eq_true h1, decide_eq_false (by omega)]
  simp
theorem ord_d (a b : Nat) : delL (ordL a b) [97] = ordD b := by kernel_rfl
theorem ord_dd (b : Nat) : delL (ordD b) [97] = ordD b := by kernel_rfl
theorem ord_h (a b : Nat) : hasL (ordL a b) [97] = true := by kernel_rfl
theorem ord_hh (b : Nat) : hasL (ordD b) [97] = false := by kernel_rfl
theorem ord_t (a b : Nat) : totL (ordL a b) = a + b + 2 := by simp [totL, ordL]; omega
theorem ord_td (b : Nat) : totL (ordD b) = b + 2 := by simp [totL, ordD]
theorem ord_f (a b : Nat) : flatL (ordL a b) = (List.range a).map (fun k => ([97], k)) ++ ((List.range b).map (fun k => ([98], k)) ++ [([99], 0), ([99], 1)]) := rfl
theorem ord_fd (b : Nat) : flatL (ordD b) = (List.range b).map (fun k => ([98], k)) ++ [([99], 0), ([99], 1)] := rfl
/-- What a place of the ring holds. -/
def ordV (a b i : Nat) : Ent := if i < a then ([97], i) else if i < a + b then ([98], i - a) else ([99], i - a - b)
theorem ord_at (a b i : Nat) (h : i < a + b + 2) : (flatL (ordL a b))[i]? = some (ordV a b i) := by
  rw [ord_f]
  unfold ordV
  by_cases h1 : i < a
  · rw [if_pos h1, List.getElem?_append_left (by simpa using h1), List.getElem?_map, List.getElem?_range h1]; rfl
  · rw [if_neg h1, List.getElem?_append_right (by simpa using Nat.le_of_not_lt h1)]
    simp only [List.length_map, List.length_range]
    by_cases h2 : i < a + b
    · rw [if_pos h2, List.getElem?_append_left (by simp; omega), List.getElem?_map, List.getElem?_range (by omega)]; rfl
    · rw [if_neg h2, List.getElem?_append_right (by simp; omega)]
      simp only [List.length_map, List.length_range]
      rcases (by omega : i - a - b = 0 ∨ i - a - b = 1) with h3 | h3 <;> rw [h3] <;> rfl
theorem ord_good (a b : Nat) (ha : a ≤ 4096) (hb : b ≤ 4096) : Good (ordL a b) := by
  rw [← ord_s3, ← ord_s2, ← ord_s1]
  exact good_set (good_set (good_set ⟨List.Pairwise.nil, by simp, by simp⟩ ord_v98 hb) ord_v97 ha) ord_v99 (by decide)
theorem ord_vis (a b : Nat) (ha : a ≤ 4096) (hb : b ≤ 4096) (n i : Nat) (hi : i < n) (hn : i < a + b + 2) : (visN ⟨ordL a b, [], 0, false⟩ n)[i]? = some (ordV a b i) := by
  rw [vis_ring (S := ⟨ordL a b, [], 0, false⟩) (ord_good a b ha hb) (by show 0 < totL (ordL a b); rw [ord_t]; omega) (atR_new _ _ _) n]
  show (ringN (ordL a b) 0 n)[i]? = _
  unfold ringN
  rw [List.getElem?_map, List.getElem?_range hi]
  show some ((flatL (ordL a b)).getD ((0 + i) % totL (ordL a b)) ([], 0)) = _
  rw [Nat.zero_add, ord_t, Nat.mod_eq_of_lt hn, List.getD_eq_getElem?_getD, ord_at a b i hn]; rfl
theorem ord_told (S : SS) : ∀ n, 0 < n → (afterN S n).told = true ∧ some ((afterN S n).lp, (afterN S n).lb) = (visN S n)[n - 1]?
  | 0, h => absurd h (by decide)
  | n + 1, _ => by
    refine ⟨rfl, ?_⟩
    rw [visN_succ]
    simp [visN_len]
    rfl
theorem ord_end (a b : Nat) (ha : a ≤ 4096) (hb : b ≤ 4096) : afterN ⟨ordL a b, [], 0, false⟩ (a + b + 2) = ⟨ordL a b, [99], 1, true⟩ := by
  obtain ⟨h1, h2⟩ := ord_told ⟨ordL a b, [], 0, false⟩ (a + b + 2) (by omega)
  have hl := afterN_l ⟨ordL a b, [], 0, false⟩ (a + b + 2)
  rw [ord_vis a b ha hb _ _ (by omega) (by omega)] at h2
  unfold ordV at h2
  rw [if_neg (by omega), if_neg (by omega), show a + b + 2 - 1 - a - b = 1 by omega] at h2
  injection h2 with h2
  injection h2 with h2 h3
  obtain ⟨S, hS⟩ : ∃ S, S = afterN ⟨ordL a b, [], 0, false⟩ (a + b + 2) := ⟨_, rfl⟩
  rw [← hS] at h1 h2 h3 hl ⊢
  obtain ⟨l, lp, lb, told⟩ := S
  simp only at h1 h2 h3 hl
  rw [h1, h2, h3, hl]
theorem ord_again (a b : Nat) (ha : a ≤ 4096) (ha0 : 0 < a) (hb : b ≤ 4096) (n : Nat) (hn : 0 < n) : (visN ⟨ordL a b, [99], 1, true⟩ n)[0]? = some ([97], 0) := by
  have hat : AtR ⟨ordL a b, [99], 1, true⟩ 0 := by
    refine .inr ⟨rfl, a + b + 1, by rw [ord_t]; omega, ?_, ?_⟩
    · rw [ord_at a b _ (by omega)]
      unfold ordV
      rw [if_neg (by omega), if_neg (by omega), show a + b + 1 - a - b = 1 by omega]
    · rw [ord_t, Nat.zero_mod, Nat.mod_self]
  rw [vis_ring (S := ⟨ordL a b, [99], 1, true⟩) (ord_good a b ha hb) (by show 0 < totL (ordL a b); rw [ord_t]; omega) hat n]
  unfold ringN
  rw [List.getElem?_map, List.getElem?_range hn]
  show some ((flatL (ordL a b)).getD ((0 + 0) % totL (ordL a b)) ([], 0)) = _
  rw [Nat.zero_add, Nat.zero_mod, List.getD_eq_getElem?_getD, ord_at a b 0 (by omega)]
  unfold ordV
  rw [if_pos ha0]; rfl
theorem ord_goodD (b : Nat) (hb : b ≤ 4096) : Good (ordD b) := by
  rw [← ord_d 0 b]
  exact good_del (ord_good 0 b (by decide) hb) _
theorem ord_dropped (b : Nat) (hb : b ≤ 4096) (hb0 : 0 < b) : nextV ⟨ordD b, [99], 1, true⟩ = ([98], 0) := by
  have hat : AtR ⟨ordD b, [99], 1, true⟩ 0 := by
    refine .inr ⟨rfl, b + 1, by rw [ord_td]; omega, ?_, ?_⟩
    · rw [ord_fd, List.getElem?_append_right (by simp)]
      simp
    · rw [ord_td, Nat.zero_mod, Nat.mod_self]
  have h := at_next (ord_goodD b hb) (by rw [ord_td]; omega) hat
  rw [Nat.zero_mod, ord_fd, List.getElem?_append_left (by simpa using hb0), List.getElem?_map, List.getElem?_range hb0] at h
  injection h with h
  exact h.symm
theorem nextQ_one (S : SS) (h : 0 < totL S.l) : nextQ S 1 = 1 := by unfold nextQ; omega
theorem vis_one (S : SS) : visN S 1 = [nextV S] := rfl
theorem after_one (S : SS) (k : Nat) : afterN (afterN S k) 1 = afterN S (k + 1) := rfl
end Go.Proofs.YtoigmepkhiknbaaDoor
