/-
  Merkle trees in plain Lean: leaves, nodes, levels, the root, proofs. No condition.
-/
import Derived.Test.YtdikconhdbopdaaDigA
namespace Go.Proofs.Ytdikconhdbopdaa
set_option linter.unusedVariables false
set_option linter.unusedSimpArgs false

def leafL (b : List UInt8) : List UInt8 := shaL (0 :: b)
def nodeL (a b : List UInt8) : List UInt8 := shaL (1 :: (a ++ b))
/-- The level above. -/
def upL : List (List UInt8) → List (List UInt8)
  | a :: b :: r => nodeL a b :: upL r
  | [a] => [a]
  | [] => []
theorem upL_length : ∀ l : List (List UInt8), (upL l).length = (l.length + 1) / 2
  | a :: b :: r => by simp only [upL, List.length_cons, upL_length r]; omega
  | [a] => by simp [upL]
  | [] => by simp [upL]
theorem upL_at : ∀ (l : List (List UInt8)) (j : Nat), 2 * j < l.length → (upL l).getD j [] = if 2 * j + 1 < l.length then nodeL (l.getD (2 * j) []) (l.getD (2 * j + 1) []) else l.getD (2 * j) []
  | a :: b :: r, 0, h => by simp [upL]
  | a :: b :: r, j + 1, h => by
    have h' : 2 * j < r.length := by simp only [List.length_cons] at h; omega
    have := upL_at r j h'
    simp only [upL, List.getD_cons_succ, List.length_cons]
    rw [this, show 2 * (j + 1) = 2 * j + 1 + 1 by omega, show 2 * j + 1 + 1 + 1 = (2 * j + 1) + 1 + 1 by omega]
    simp only [List.getD_cons_succ]
    by_cases hh : 2 * j + 1 < r.length
    · rw [if_pos hh, if_pos (by omega)]
    · rw [if_neg hh, if_neg (by omega)]
  | [a], 0, h => by simp [upL]
  | [a], j + 1, h => by simp only [List.length_cons, List.length_nil] at h; omega
  | [], j, h => by simp at h
theorem take_snoc {α : Type} (l : List α) (j : Nat) (d : α) (h : j < l.length) : l.take (j + 1) = l.take j ++ [l.getD j d] := by
  rw [List.take_succ_eq_append_getElem h]
  simp [List.getElem?_eq_getElem h]
/-- One more of the level above: a node. -/
theorem upL_two (l : List (List UInt8)) (n j : Nat) (hn : n = 2 * j) (h : n + 1 < l.length) : (upL l).take (j + 1) = (upL l).take j ++ [nodeL (l.getD n []) (l.getD (n + 1) [])] := by
  subst hn
  rw [take_snoc _ j [] (by rw [upL_length]; omega), upL_at _ _ (by omega), if_pos h]
theorem upL_one (l : List (List UInt8)) (n j : Nat) (hn : n = 2 * j) (h : n + 1 = l.length) : (upL l).take (j + 1) = (upL l).take j ++ [l.getD n []] := by
  subst hn
  rw [take_snoc _ j [] (by rw [upL_length]; omega), upL_at _ _ (by omega), if_neg (by omega)]
theorem upL_all (l : List (List UInt8)) (n j : Nat) (hn : n = 2 * j) (h : l.length ≤ n) : (upL l).take j = upL l := by
  apply List.take_of_length_le
  rw [upL_length]; omega

/-- Lists and pieces that are none too long. -/
def FitM (l : List (List UInt8)) : Prop := l.length ≤ 1000000000 ∧ ∀ x ∈ l, x.length ≤ 1000000000
theorem FitM.at {l : List (List UInt8)} (h : FitM l) (i : Nat) : (l.getD i []).length ≤ 1000000000 := by
  rw [List.getD_eq_getElem?_getD]
  cases hx : l[i]? with
  | none => simp
  | some x => exact h.2 x (List.mem_of_getElem? hx)
theorem FitM.up (hs : ∀ b, (shaL b).length ≤ 1000000000) : ∀ {l : List (List UInt8)}, FitM l → FitM (upL l)
  | [], h => h
  | [a], h => h
  | a :: b :: r, h => by
    have hr : FitM (upL r) := FitM.up hs ⟨by have := h.1; simp only [List.length_cons] at this; omega, fun x hx => h.2 x (by simp [hx])⟩
    refine ⟨?_, fun x hx => ?_⟩
    · rw [upL_length]; have := h.1; omega
    · rcases List.mem_cons.1 hx with rfl | hx
      · exact hs _
      · exact hr.2 x hx
theorem FitM.take {l : List (List UInt8)} (h : FitM l) (k : Nat) : FitM (l.take k) := ⟨by have := h.1; rw [List.length_take]; omega, fun x hx => h.2 x (List.mem_of_mem_take hx)⟩

/-- How high a tree of so many leaves is. -/
def hgt (n : Nat) : Nat := if n ≤ 1 then 0 else hgt ((n + 1) / 2) + 1
termination_by n
theorem hgt_low {n : Nat} (h : n ≤ 1) : hgt n = 0 := by rw [hgt, if_pos h]
theorem hgt_high {n : Nat} (h : 1 < n) : hgt n = hgt ((n + 1) / 2) + 1 := by rw [hgt, if_neg (by omega)]

/-- Up, so often. -/
def upN (l : List (List UInt8)) : Nat → List (List UInt8)
  | 0 => l
  | n + 1 => upL (upN l n)
def levTo (l : List (List UInt8)) (k : Nat) : List (List (List UInt8)) := (List.range k).map (upN l)
theorem levTo_succ (l : List (List UInt8)) (k : Nat) : levTo l (k + 1) = levTo l k ++ [upN l k] := by simp [levTo, List.range_succ]
theorem levTo_length (l : List (List UInt8)) (k : Nat) : (levTo l k).length = k := by simp [levTo]
theorem levTo_at (l : List (List UInt8)) (k i : Nat) (h : i < k) : (levTo l k).getD i [] = upN l i := by simp [levTo, h]
/-- All levels, from the leaves on. -/
def levelsL (l : List (List UInt8)) : List (List (List UInt8)) := if l.length = 0 then [] else levTo l (hgt l.length + 1)
theorem levelsL_length (l : List (List UInt8)) : (levelsL l).length = if l.length = 0 then 0 else hgt l.length + 1 := by
  unfold levelsL
  split
  · rfl
  · rw [levTo_length]
/-- k levels up, so many are left. -/
def HgtAt (l : List (List UInt8)) (k : Nat) : Prop := hgt (upN l k).length + k = hgt l.length
theorem HgtAt.zero (l : List (List UInt8)) : HgtAt l 0 := rfl
theorem HgtAt.succ {l : List (List UInt8)} {k : Nat} (h : HgtAt l k) (h1 : 1 < (upN l k).length) : HgtAt l (k + 1) := by
  unfold HgtAt at *
  rw [hgt_high h1] at h
  show hgt (upL (upN l k)).length + (k + 1) = _
  rw [upL_length]; omega
theorem HgtAt.last {l : List (List UInt8)} {k : Nat} (h : HgtAt l k) (h1 : (upN l k).length ≤ 1) : k = hgt l.length := by
  unfold HgtAt at h
  rw [hgt_low h1] at h; omega
theorem hgt_le (n : Nat) : hgt n ≤ n := by
  induction n using Nat.strongRecOn with
  | ind n ih =>
    rcases Nat.lt_or_ge 1 n with h | h
    · rw [hgt_high h]; have := ih ((n + 1) / 2) (by omega); omega
    · rw [hgt_low h]; omega
theorem HgtAt.le {l : List (List UInt8)} {k : Nat} (h : HgtAt l k) : k ≤ l.length := by
  unfold HgtAt at h
  have := hgt_le l.length
  omega
/-- What has leaves has some on each level. -/
theorem upN_pos {l : List (List UInt8)} (h : 0 < l.length) : ∀ k, 0 < (upN l k).length
  | 0 => h
  | k + 1 => by
    show 0 < (upL (upN l k)).length
    rw [upL_length]; have := upN_pos h k; omega
theorem upN_fit (hs : ∀ b, (shaL b).length ≤ 1000000000) {l : List (List UInt8)} (h : FitM l) : ∀ k, FitM (upN l k)
  | 0 => h
  | k + 1 => (upN_fit hs h k).up hs
theorem upN_top (l : List (List UInt8)) (h : 0 < l.length) : (upN l (hgt l.length)).length = 1 := by
  have key : ∀ (k d : Nat), d + k = hgt l.length → HgtAt l k → HgtAt l (hgt l.length) := by
    intro k d
    induction d generalizing k with
    | zero => intro h0 hk; have : k = hgt l.length := by omega
              subst this; exact hk
    | succ d ih =>
      intro h0 hk
      refine ih (k + 1) (by omega) (hk.succ ?_)
      rcases Nat.lt_or_ge 1 (upN l k).length with h1 | h1
      · exact h1
      · have := hk.last h1; omega
  have h1 := key 0 (hgt l.length) (by omega) (HgtAt.zero l)
  unfold HgtAt at h1
  have h2 : hgt (upN l (hgt l.length)).length = 0 := by omega
  have h3 := upN_pos h (hgt l.length)
  rcases Nat.lt_or_ge 1 (upN l (hgt l.length)).length with h4 | h4
  · rw [hgt_high h4] at h2; omega
  · omega
def rootL (l : List (List UInt8)) : List UInt8 := if l.length = 0 then shaL [] else (upN l (hgt l.length)).getD 0 []

/-! ### proofs -/
/-- The neighbour. -/
def sib (k : Nat) : Nat := if k % 2 = 0 then k + 1 else k - 1
/-- The place, so many levels up. -/
def kAt (k : Nat) : Nat → Nat
  | 0 => k
  | n + 1 => kAt k n / 2
theorem kAt_lt {l : List (List UInt8)} {k : Nat} (h : k < l.length) : ∀ n, kAt k n < (upN l n).length
  | 0 => h
  | n + 1 => by
    have := kAt_lt h n
    show kAt k n / 2 < (upL (upN l n)).length
    rw [upL_length]; omega
/-- One neighbour, if there is one. -/
def oneP (l : List (List UInt8)) (k : Nat) : List (List UInt8) := if sib k < l.length then [l.getD (sib k) []] else []
def proofTo (l : List (List UInt8)) (k : Nat) : Nat → List (List UInt8)
  | 0 => []
  | n + 1 => proofTo l k n ++ oneP (upN l n) (kAt k n)
theorem proofTo_length (l : List (List UInt8)) (k : Nat) : ∀ n, (proofTo l k n).length ≤ n
  | 0 => by simp [proofTo]
  | n + 1 => by
    have := proofTo_length l k n
    simp only [proofTo, List.length_append]
    have h1 : (oneP (upN l n) (kAt k n)).length ≤ 1 := by unfold oneP; split <;> simp
    omega
theorem proofTo_top (l : List (List UInt8)) (k : Nat) (h : k < l.length) : proofTo l k (hgt l.length + 1) = proofTo l k (hgt l.length) := by
  have h1 := upN_top l (by omega)
  have h2 := kAt_lt h (hgt l.length)
  rw [h1] at h2
  have h3 : kAt k (hgt l.length) = 0 := by omega
  simp only [proofTo, oneP, h1, h3, sib]
  simp
def proveL (l : List (List UInt8)) (k : Int) : List (List UInt8) := if k < 0 ∨ l.length ≤ k then [] else proofTo l k.toNat (hgt l.length)
def proveE (l : List (List UInt8)) (k : Int) : Int := if k < 0 ∨ l.length ≤ k then 1 else 0

/-- Is a leaf the k-th of n? -/
def verN (root : List UInt8) (n : Nat) (x : List UInt8) (k : Nat) (pr : List (List UInt8)) : Bool :=
  if n ≤ 1 then decide (pr.length = 0) && x == root
  else if sib k < n then
    match pr with
    | [] => false
    | p :: ps => verN root ((n + 1) / 2) (if k % 2 = 0 then nodeL x p else nodeL p x) (k / 2) ps
  else verN root ((n + 1) / 2) x (k / 2) pr
termination_by n
theorem verN_low {root : List UInt8} {n : Nat} {x : List UInt8} {k : Nat} {pr : List (List UInt8)} (h : n ≤ 1) : verN root n x k pr = (decide (pr.length = 0) && x == root) := by rw [verN.eq_def, if_pos h]
theorem verN_skip {root : List UInt8} {n : Nat} {x : List UInt8} {k : Nat} {pr : List (List UInt8)} (h : 1 < n) (hs : ¬ sib k < n) : verN root n x k pr = verN root ((n + 1) / 2) x (k / 2) pr := by rw [verN.eq_def, if_neg (by omega), if_neg hs]
theorem verN_none {root : List UInt8} {n : Nat} {x : List UInt8} {k : Nat} {pr : List (List UInt8)} (h : 1 < n) (hs : sib k < n) (hp : pr.length = 0) : verN root n x k pr = false := by
  rw [verN.eq_def, if_neg (by omega), if_pos hs]
  cases pr with
  | nil => rfl
  | cons p ps => simp at hp
theorem verN_some {root : List UInt8} {n : Nat} {x : List UInt8} {k : Nat} {pr : List (List UInt8)} (h : 1 < n) (hs : sib k < n) (hp : 0 < pr.length) : verN root n x k pr = verN root ((n + 1) / 2) (if k % 2 = 0 then nodeL x (pr.getD 0 []) else nodeL (pr.getD 0 []) x) (k / 2) (pr.drop 1) := by
  cases pr with
  | nil => simp at hp
  | cons p ps =>
    rw [verN.eq_def, if_neg (by omega), if_pos hs]
    simp
def verifyL (root leaf : List UInt8) (k n : Int) (pr : List (List UInt8)) : Bool := if k < 0 ∨ n ≤ k then false else verN root n.toNat leaf k.toNat pr

/-! ### where two lists differ -/
def difAt (a b : List (List UInt8)) (i : Nat) : Bool := decide (a.length ≤ i) || (decide (b.length ≤ i) || (a.getD i [] != b.getD i []))
def difTo (a b : List (List UInt8)) (n : Nat) : List Int := ((List.range n).filter (difAt a b)).map fun i : Nat => (i : Int)
theorem difTo_succ (a b : List (List UInt8)) (n : Nat) : difTo a b (n + 1) = difTo a b n ++ if difAt a b n = true then [(n : Int)] else [] := by
  simp only [difTo, List.range_succ, List.filter_append, List.map_append]
  congr 1
  by_cases h : difAt a b n = true <;> simp [h]
theorem difTo_length (a b : List (List UInt8)) (n : Nat) : (difTo a b n).length ≤ n := by
  simp only [difTo, List.length_map]
  have := List.length_filter_le (difAt a b) (List.range n)
  rwa [List.length_range] at this
def differL (a b : List (List UInt8)) : List Int := difTo a b (max a.length b.length)
end Go.Proofs.Ytdikconhdbopdaa
