/-
  Sidecars in plain Lean: which may be, what is filled up. No condition.
-/
import Derived.Test.YtplbmflgmfoanaaFixPure
import Derived.Test.YtplbmflgmfoanaaMerLeaf
namespace Go.Proofs.Ytplbmflgmfoanaa
open Go.RowKit
set_option linter.unusedVariables false
set_option linter.unusedSimpArgs false

/-- All of a length. -/
def allLen (L : List (List UInt8)) (block : Int) : Bool := L.all fun x => (x.length : Int) == block
theorem allLen_take (L : List (List UInt8)) (block : Int) (k : Nat) (hk : k < L.length) (h : allLen (L.take k) block = true) (h2 : ((L.getD k []).length : Int) = block) : allLen (L.take (k + 1)) block = true := by
  rw [List.take_succ_eq_append_getElem hk]
  unfold allLen at *
  rw [List.all_append, h]
  simp [List.getElem?_eq_getElem hk] at h2
  simp [h2]
theorem allLen_not (L : List (List UInt8)) (block : Int) (k : Nat) (hk : k < L.length) (h2 : ((L.getD k []).length : Int) ≠ block) : allLen L block = false := by
  cases hh : allLen L block with
  | false => rfl
  | true =>
    unfold allLen at hh
    rw [List.all_eq_true] at hh
    have := hh (L.getD k []) (by simp [List.getElem?_eq_getElem hk])
    simp at this
    exact absurd (by simpa using this) h2

/-- Bytes cut, or filled up, to a size. -/
def fitL (data : List UInt8) (n : Nat) : List UInt8 := data.take n ++ List.replicate (n - data.length) 0
theorem fitL_length (data : List UInt8) (n : Nat) : (fitL data n).length = n := by
  simp only [fitL, List.length_append, List.length_take, List.length_replicate]; omega
theorem fitL_spl (data : List UInt8) (n : Nat) : splB (List.replicate n 0) 0 data = fitL data n := by
  unfold splB fitL
  simp only [List.take_zero, List.nil_append, List.length_replicate, Nat.sub_zero, Nat.zero_add, List.drop_replicate, List.length_take]
  congr 2
  omega

/-- May sizes be? -/
def mayS (size block k : Int) : Bool := decide (0 ≤ size) && (decide (size ≤ 8192) && (decide (16 ≤ block) && (decide (block ≤ 4096) && (decide (1 ≤ k) && decide (k ≤ 8)))))
theorem mayS_iff {size block k : Int} : mayS size block k = true ↔ 0 ≤ size ∧ size ≤ 8192 ∧ 16 ≤ block ∧ block ≤ 4096 ∧ 1 ≤ k ∧ k ≤ 8 := by simp [mayS]
/-- So many, and so long? -/
def longB (L : List (List UInt8)) (many size : Int) : Bool := ((L.length : Int) == many) && allLen L size
/-- May a sidecar be? -/
def soundB (size block k : Int) (root : List UInt8) (leaves par : List (List UInt8)) : Bool :=
  mayS size block k && (longB leaves (cnt size block) 32 && ((rootL leaves == root) && longB par (grp size block k) block))

theorem sha_len (b : List UInt8) : (shaL b).length = 32 := by unfold shaL; simp [St.bytes, bytesW]
theorem FitM.of_len {L : List (List UInt8)} {n : Int} (h : allLen L n = true) (hn : n ≤ 1000000000) (hl : L.length ≤ 1000000000) : FitM L := by
  refine ⟨hl, fun x hx => ?_⟩
  unfold allLen at h
  rw [List.all_eq_true] at h
  have := h x hx
  simp at this
  omega
theorem leaves_long (data : List UInt8) (block : Int) : longB (leavesL data block) (cnt data.length block) 32 = true := by
  have h1 := (cnt_bd data.length block).1
  have h2 := leavesL_length data block
  simp only [longB, Bool.and_eq_true, beq_iff_eq]
  refine ⟨by rw [h2]; omega, ?_⟩
  unfold allLen
  rw [List.all_eq_true]
  intro x hx
  unfold leavesL leavesN at hx
  rw [List.mem_map] at hx
  obtain ⟨i, _, rfl⟩ := hx
  simp [leafL, sha_len]
theorem leaves_fit (data : List UInt8) (block : Int) : FitM (leavesL data block) := by
  have h := leaves_long data block
  have h1 := (cnt_bd data.length block)
  have h2 := leavesL_length data block
  simp only [longB, Bool.and_eq_true, beq_iff_eq] at h
  exact FitM.of_len h.2 (by decide) (by omega)
theorem build_long (data : List UInt8) (block k : Int) (hb : 0 ≤ block) : longB (buildL data block k) (grp data.length block k) block = true := by
  have h1 := (grp_bd data.length block k).1
  simp only [longB, Bool.and_eq_true, beq_iff_eq]
  refine ⟨by rw [buildL, buildN_length]; omega, ?_⟩
  unfold allLen
  rw [List.all_eq_true]
  intro x hx
  unfold buildL buildN at hx
  rw [List.mem_map] at hx
  obtain ⟨i, _, rfl⟩ := hx
  simp only [oneL, oneN_length, beq_iff_eq]
  omega
/-- What is made may be. -/
theorem made_sound {data : List UInt8} {block k : Int} (h : mayS data.length block k = true) : soundB data.length block k (rootL (leavesL data block)) (leavesL data block) (buildL data block k) = true := by
  have hb := mayS_iff.1 h
  simp only [soundB, h, leaves_long, build_long data block k (by omega), beq_self_eq_true, Bool.and_self]
/-- What a sidecar that may be has. -/
theorem sound_get {size block k : Int} {root : List UInt8} {leaves par : List (List UInt8)} (h : soundB size block k root leaves par = true) : mayS size block k = true := by
  simp only [soundB, Bool.and_eq_true] at h; exact h.1
end Go.Proofs.Ytplbmflgmfoanaa
