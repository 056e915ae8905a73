/-
  A group's parity: all its blocks, one xored into the other. No condition but the bounds of a block and a group.
-/
import Derived.Test.YtplbmflgmfoanaaBlock
import Derived.Test.YtplbmflgmfoanaaMix
namespace Go.Proofs.Ytplbmflgmfoanaa
open Go.RowKit
set_option linter.unusedVariables false
set_option linter.unusedSimpArgs false

/-- What n blocks from place s on come to. -/
def oneN (data : List UInt8) (block s : Int) : Nat → List UInt8
  | 0 => List.replicate block.toNat 0
  | n + 1 => xorL (oneN data block s n) (blockL data block (s + n))
theorem oneN_length (data : List UInt8) (block s : Int) : ∀ n, (oneN data block s n).length = block.toNat
  | 0 => by simp [oneN]
  | n + 1 => by rw [oneN, xorL_length, oneN_length data block s n]
/-- A group's parity. -/
def oneL (data : List UInt8) (block k g : Int) : List UInt8 := oneN data block (g * k) k.toNat

theorem made_bytes (m : Nat) : (madeCells #[Value.int .u8 0] m).toList = (List.replicate m (0 : UInt8)).map bv := by
  apply List.ext_getElem
  · simp [madeCells]
  · intro i h1 h2
    simp [madeCells, Nat.mod_one, bv]

theorem own_lt {w : World} {base e size n : Nat} {v : Value} {cs : List Value} (h : w.ownsRow base e size v n cs) : ∀ k, v.ownBlock = some k → k < w.heap.size := by
  intro k hk
  obtain ⟨_, cur, fr, e', h2, _⟩ := own_row h k hk
  exact (Array.getElem?_eq_some_iff.1 h2).1

set_option maxHeartbeats 1000000 in
theorem one_calls {e b0 : Nat} {v : Value} {data : List UInt8} (block k g : Int) (w : World) (hv : Sl bv e w b0 v data) (hb : 1 ≤ block ∧ block ≤ 4096) (hk : 1 ≤ k ∧ k ≤ 8) (hg : 0 ≤ g ∧ g ≤ 1048576) :
    Calls Try.prog 45 #[v, .int .i64 block, .int .i64 k, .int .i64 g] w fun e w' => ∃ v', e = .returned v' ∧ OwnB w' w.heap.size v' (oneL data block k g) ∧ Below w.heap.size w w' := by
  have HV := Aside0.mk hv
  obtain ⟨A, c, rfl, hc, hl, hR⟩ := hv
  clear hR
  obtain ⟨hb0, hb1⟩ := hb
  obtain ⟨hk0, hk1⟩ := hk
  obtain ⟨hg0, hg1⟩ := hg
  have hp0 : 0 ≤ g * k := Int.mul_nonneg hg0 (by omega)
  have hp1 : g * k ≤ 1048576 * 8 := by
    have h1 := Int.mul_le_mul_of_nonneg_right hg1 (show 0 ≤ k by omega)
    have h2 := Int.mul_le_mul_of_nonneg_left hk1 (show (0 : Int) ≤ 1048576 by omega)
    omega
  have HP : Aside0 ((g + 1) * k = g * k + k) := ⟨by rw [Int.add_mul]; omega⟩
  have hp2 : 0 ≤ (g + 1) * k := by rw [HP.out]; omega
  have hp3 : (g + 1) * k ≤ 1048576 * 9 := by rw [HP.out]; omega
  obtain ⟨B, hB⟩ := Int.eq_ofNat_of_zero_le (show 0 ≤ block by omega)
  subst hB
  obtain ⟨i0, hi, hz0, hz1, hz2⟩ := info_parts info_u8
  go_enter Try.func45, Try.ntmps45
  go_wp2_with (at_make; refine wpList_make_full _ rfl _ _ 22 rfl w.heap.size 5 i0 _ 1 Try.underlying22 hi hz0 hz1 _ _ _ _ B rfl rfl rfl rfl (by rw [hz2]; omega) (by simp only [maxLen]; omega) (Nat.le_refl _) ?_; intro w1 hown hgrow)
  have HS : Aside0 (OwnB w1 w.heap.size (.slice (some ⟨w.heap.size, 0, none⟩) B B) (oneN data (B : Int) (g * k) 0) ∧ Below w.heap.size w w1) := ⟨by
    refine ⟨?_, below_none hgrow⟩
    have he := made_bytes B
    simp only [Value.cells, Nat.mul_one] at hown
    rw [he] at hown
    unfold OwnB oneN
    simpa using hown⟩
  clear hown hgrow
  go_loopw [10] (fun i wr => ∃ n : Nat, (n : Int) ≤ k ∧ i = .int .i64 (g * k + n) ∧ Aside0 (OwnB wr w.heap.size (.slice (some ⟨w.heap.size, 0, none⟩) B B) (oneN data (B : Int) (g * k) n) ∧ Below w.heap.size w wr)) (fun i wr => ((g + 1) * k - intOf i).toNat)
  case atStart => exact ⟨0, by omega, by go_num, HS⟩
  case round =>
    obtain ⟨n, hn, rfl, hs⟩ := hrel
    by_cases hlt : (n : Int) < k
    · have hlt' : g * k + n < (g + 1) * k := by rw [HP.out]; omega
      have hn0 : 0 ≤ g * k + (n : Int) := by omega
      clear HS
      go_wp2_with fail
      refine (block_calls _ _ _ (HV.out.below hs.out.2) (by omega)).mono ?_
      rintro e w2 ⟨v', rfl, hown, hb⟩
      have HB1 := Aside0.mk hb
      have HO1 := Aside0.mk hown
      clear hb hown
      go_wp2_with fail
      have hne : ∀ ad n c, v' = .slice (some ad) n c → blockL data (B : Int) (g * k + n) ≠ [] → some ad.block ≠ (Value.slice (some ⟨w.heap.size, 0, none⟩) B B).ownBlock := by
        rintro ad n' c' rfl _ he
        have h1 := own_base HO1.out ad.block rfl
        have h2 := own_lt hs.out.1 ad.block he.symm
        omega
      refine (mix_calls _ (own_below hs.out.1 HB1.out) (Sl.of_own (b := 0) HO1.out) (by
        rintro ad n' c' rfl _ he
        have h1 := own_base HO1.out ad.block rfl
        have h2 := own_lt hs.out.1 ad.block he.symm
        omega)).mono ?_
      rintro e w3 ⟨rfl, ho3, hg3⟩
      have H3 := Aside0.mk (show OwnB w3 w.heap.size (.slice (some ⟨w.heap.size, 0, none⟩) B B) (oneN data (B : Int) (g * k) (n + 1)) ∧ Below w.heap.size w w3 from
        ⟨by rw [oneN]; exact ho3, (below_step hs.out.2 HB1.out).grown hg3 (below_step hs.out.2 HB1.out).size (own_base hs.out.1)⟩)
      clear ho3 hg3 hne
      go_wp2_with fail
      go_roundw
      case rel => exact ⟨n + 1, by omega, by go_num, H3⟩
      case measure => simp [intOf]; omega
    · have hlt' : ¬ g * k + n < (g + 1) * k := by rw [HP.out]; omega
      have hnk : n = k.toNat := by omega
      have HNK := Aside0.mk hnk
      clear hnk HS
      go_wp2_with fail
      go_ret
      exact ⟨_, rfl, by rw [oneL, ← HNK.out]; exact hs.out.1, hs.out.2⟩
end Go.Proofs.Ytplbmflgmfoanaa
