/-
  The reference's Fit: data cut, or filled up with noughts, to a size. No condition but that the slice can be read and the size is small.
-/
import Derived.Test.YtdfhelefhhodhaaProg
import Derived.Test.YtdfhelefhhodhaaBase
import Derived.Test.YtdfhelefhhodhaaClone
namespace Go.Proofs.Ytdfhelefhhodhaa
open Go.RowKit
set_option linter.unusedVariables false
set_option linter.unusedSimpArgs false

/-- Data cut, or filled up, to a size. -/
def fitL (data : List UInt8) (size : Nat) : List UInt8 := data.take size ++ List.replicate (size - data.length) 0
theorem fitL_length (data : List UInt8) (size : Nat) : (fitL data size).length = size := by
  unfold fitL; rw [List.length_append, List.length_take, List.length_replicate]; omega

/-- A first part. -/
theorem Sl.first {α : Type} {enc : α → Value} {e : Nat} {w : World} {base n c : Nat} {A : Option Addr} {xs : List α} (h : Sl enc e w base (.slice A n c) xs) (hi : Nat) (h2 : hi ≤ xs.length) : Sl enc e w base (.slice A hi c) (xs.take hi) := by
  obtain ⟨A', c', he, hc, hl, hR⟩ := h
  cases he
  have hlen : (xs.take hi).length = hi := by rw [List.length_take]; omega
  refine ⟨_, c, by rw [hlen], by rw [hlen]; omega, by rw [hlen]; omega, fun j u hj => ?_, fun ad hA hne => hR.home ad hA (by rintro h0; rw [List.map_take, h0] at hne; simp at hne)⟩
  rw [List.map_take, List.getElem?_take] at hj
  split at hj
  · exact hR.cell j u hj
  · cases hj

/-- A slice's length. -/
def lenV : Value → Nat | .slice _ n _ => n | _ => 0

set_option maxHeartbeats 1000000 in
theorem fit_calls {e b0 : Nat} {v : Value} {data : List UInt8} (size : Nat) (w : World) (hv : Sl bv e w b0 v data) (hs : size ≤ 70368744177664) (hl : data.length ≤ 70368744177664) :
    Calls Try.prog 13 #[v, .int .i64 size] w fun e w' => ∃ v', e = .returned v' ∧ w'.ownsRow w.heap.size 5 1 v' (fitL data size).length ((fitL data size).map bv) ∧ Below w.heap.size w w' := by
  have HV := Aside0.mk hv
  obtain ⟨A, c, rfl, hc, hm, hR⟩ := hv
  clear hR
  have HB0 : Aside0 (∀ (w : World) o, Below w.heap.size w (w.alloc o)) := ⟨fun w o => (Below.refl _ _).alloc (Nat.le_refl _) _⟩
  rcases Nat.lt_trichotomy data.length size with hcase | hcase | hcase
  · have hd1 : decide ((data.length : Int) < (size : Int)) = true := by simpa using hcase
    have hd2 : decide (data.length < size) = true := by simpa using hcase
    go_enter Try.func13, Try.ntmps13
    go_wp2_with (at_builtin; go_must (refine append_row bv (fun _ => rfl) rfl (.tmp 6) (.tmp 12) 25 rfl w.heap.size 5 _ _ _ _ Try.underlying25 info_u8 rfl (by decide) _ [] data _ rfl rfl (World.ownsRow_made w #[] 0 (Nat.le_refl _) (by decide) rfl) (HV.out.below (HB0.out _ _)) (by simp; omega) (by simp) ?_); intro v' w' hown hg _)
    rw [List.nil_append] at hown
    have HS : Aside0 (w'.ownsRow w.heap.size 5 1 v' (data ++ List.replicate 0 0).length ((data ++ List.replicate 0 0).map bv) ∧ Below w.heap.size w w') := ⟨by simpa using hown, (HB0.out _ _).grown hg (by simp) (fun k hk => by cases hk; exact Nat.le_refl _)⟩
    obtain ⟨A', c', rfl, _⟩ := Sl.of_own (b := 0) hown
    clear hown hg
    go_loopw [5] (fun v wr => ∃ (j : Nat) (A : Option Addr) (c : Nat), data.length + j ≤ size ∧ v = .slice A (data.length + j) c ∧ Aside0 (wr.ownsRow w.heap.size 5 1 v (data ++ List.replicate j 0).length ((data ++ List.replicate j 0).map bv) ∧ Below w.heap.size w wr)) (fun v wr => size - lenV v)
    case atStart => exact ⟨0, A', c', by omega, rfl, HS⟩
    case round =>
      obtain ⟨j, A2, c2, hj, rfl, hs2⟩ := hrel
      have hlen : (data ++ List.replicate j (0 : UInt8)).length = data.length + j := by simp
      have HL := Aside0.mk hlen
      clear hlen HS
      by_cases hlt : data.length + j < size
      · have hd3 : decide (((data.length + j : Nat) : Int) < (size : Int)) = true := by simp; omega
        go_wp2_with (at_builtin; go_must (refine append_row (w := wr.alloc (.cells #[.int .u8 0] 5)) bv (fun _ => rfl) rfl (.tmp 18) (.tmp 19) 25 rfl w.heap.size 5 5 0 _ _ Try.underlying25 info_u8 rfl (by decide) _ (data ++ List.replicate j 0) [0] _ rfl rfl (own_below hs2.out.1 (HB0.out _ _)) (Sl.at (cur := #[.int .u8 0]) (fr := (0, 0)) (heap_new rfl) rfl rfl (by simp) (by simp)) (by rw [HL.out]; simp; omega) (by have := hs2.out.2.size; simp; omega) ?_); intro v3 w3 hown hg _)
        have hrep : data ++ List.replicate j (0 : UInt8) ++ [0] = data ++ List.replicate (j + 1) 0 := by rw [List.append_assoc, ← List.replicate_succ']
        rw [hrep] at hown
        clear hrep
        have H3 : Aside0 (w3.ownsRow w.heap.size 5 1 v3 (data ++ List.replicate (j + 1) 0).length ((data ++ List.replicate (j + 1) 0).map bv) ∧ Below w.heap.size w w3) := ⟨hown, (hs2.out.2.alloc hs2.out.2.size _).grown hg (by have := hs2.out.2.size; simp; omega) (own_base hs2.out.1)⟩
        obtain ⟨A3, c3, hv3, _⟩ := Sl.of_own (b := 0) hown
        rw [show (data ++ List.replicate (j + 1) (0 : UInt8)).length = data.length + (j + 1) from by simp] at hv3
        subst hv3
        clear hown hg
        go_roundw
        case rel => exact ⟨j + 1, A3, c3, by omega, rfl, H3⟩
        case measure => simp [lenV]; omega
      · have hd3 : decide (((data.length + j : Nat) : Int) < (size : Int)) = false := by simp; omega
        have hj2 : size = data.length + j := by omega
        have HF : Aside0 (fitL data size = data ++ List.replicate j 0) := ⟨by
          unfold fitL; rw [List.take_of_length_le (by omega), show size - data.length = j by omega]⟩
        clear hj2
        go_wp2_with fail
        go_ret
        exact ⟨_, rfl, by rw [HF.out]; exact hs2.out.1, hs2.out.2⟩
  · subst hcase
    have HF : Aside0 (fitL data data.length = data) := ⟨by unfold fitL; simp⟩
    go_enter Try.func13, Try.ntmps13
    go_wp2_with (at_builtin; go_must (refine append_row bv (fun _ => rfl) rfl (.tmp 6) (.tmp 12) 25 rfl w.heap.size 5 _ _ _ _ Try.underlying25 info_u8 rfl (by decide) _ [] data _ rfl rfl (World.ownsRow_made w #[] 0 (Nat.le_refl _) (by decide) rfl) (HV.out.below (HB0.out _ _)) (by simp; omega) (by simp) ?_); intro v' w' hown hg _)
    rw [List.nil_append] at hown
    have HS : Aside0 (w'.ownsRow w.heap.size 5 1 v' data.length (data.map bv) ∧ Below w.heap.size w w') := ⟨hown, (HB0.out _ _).grown hg (by simp) (fun k hk => by cases hk; exact Nat.le_refl _)⟩
    obtain ⟨A', c', rfl, _⟩ := Sl.of_own (b := 0) hown
    clear hown hg
    go_loopw [5] (fun v wr => v = .slice A' data.length c' ∧ wr = w') (fun v wr => 0)
    case atStart => exact ⟨rfl, rfl⟩
    case round =>
      obtain ⟨rfl, rfl⟩ := hrel
      go_wp2_with fail
      go_ret
      exact ⟨_, rfl, by rw [HF.out]; exact HS.out.1, HS.out.2⟩
  · have hd2 : decide (size < data.length) = true := by simpa using hcase
    have hlt' : (data.take size).length = size := by rw [List.length_take]; omega
    have HF : Aside0 (fitL data size = data.take size) := ⟨by unfold fitL; rw [show size - data.length = 0 by omega]; simp⟩
    go_enter Try.func13, Try.ntmps13
    go_wp2_with (at_builtin; go_must (refine append_row bv (fun _ => rfl) rfl (.tmp 6) (.tmp 12) 25 rfl w.heap.size 5 _ _ _ _ Try.underlying25 info_u8 rfl (by decide) _ [] (data.take size) _ rfl rfl (World.ownsRow_made w #[] 0 (Nat.le_refl _) (by decide) rfl) ((HV.out.first size (Nat.le_of_lt hcase)).below (HB0.out _ _)) (by simp; omega) (by simp) ?_); intro v' w' hown hg _)
    rw [List.nil_append] at hown
    have HS : Aside0 (w'.ownsRow w.heap.size 5 1 v' (data.take size).length ((data.take size).map bv) ∧ Below w.heap.size w w') := ⟨hown, (HB0.out _ _).grown hg (by simp) (fun k hk => by cases hk; exact Nat.le_refl _)⟩
    obtain ⟨A', c', hv', _⟩ := Sl.of_own (b := 0) hown
    rw [hlt'] at hv'
    subst hv'
    clear hown hg hlt'
    go_loopw [5] (fun v wr => v = .slice A' size c' ∧ wr = w') (fun v wr => 0)
    case atStart => exact ⟨rfl, rfl⟩
    case round =>
      obtain ⟨rfl, rfl⟩ := hrel
      go_wp2_with fail
      go_ret
      exact ⟨_, rfl, by rw [HF.out]; exact HS.out.1, HS.out.2⟩
end Go.Proofs.Ytdfhelefhhodhaa
