/-
  linnetalike.Words: lists whose texts together are short. No condition but that the texts can be read; their lengths are whole numbers.
-/
import Derived.Test.YtkalfkgnjmkjgaaDoorAlike
import Derived.Test.YtkalfkgnjmkjgaaDoorPathFns
namespace Go.Proofs.YtkalfkgnjmkjgaaDoor
open Go.RowKit
set_option linter.unusedVariables false
set_option linter.unusedSimpArgs false

/-- What the number says of the first k texts. -/
def WdI (L : List (List UInt8)) (k : Nat) (n : Int) : Prop := 0 ≤ n ∧ n ≤ 9223372036854775807 ∧ (n ≤ 1000000 → (k : Int) ≤ n ∧ ∀ S ∈ L.take k, (S.length : Int) ≤ n)
theorem sumI_bd : ∀ (xs : List Int) (n : Int), 0 ≤ n → n ≤ 9223372036854775807 → (∀ x ∈ xs, 0 ≤ x) → 0 ≤ sumI n xs ∧ sumI n xs ≤ 9223372036854775807
  | [], n, h0, h1, _ => ⟨h0, h1⟩
  | x :: xs, n, h0, h1, hx => by
    have hx0 := hx x (by simp)
    unfold sumI
    split
    · exact ⟨by decide, by decide⟩
    · split
      · exact ⟨by decide, by decide⟩
      · exact sumI_bd xs (n + x) (by omega) (by omega) (fun y hy => hx y (by simp [hy]))
theorem WdI.next {L : List (List UInt8)} {k : Nat} {n : Int} {S : List UInt8} (h : WdI L k n) (hS : L[k]? = some S) : WdI L (k + 1) (sumI n [(S.length : Int), 1]) := by
  obtain ⟨h0, h1, h2⟩ := h
  obtain ⟨b0, b1⟩ := sumI_bd [(S.length : Int), 1] n h0 h1 (by simp)
  refine ⟨b0, b1, fun hn => ?_⟩
  have h3 := sumI_le _ (by omega) [(S.length : Int), 1] n (Int.le_refl _)
  simp at h3
  obtain ⟨h4, h5⟩ := h2 (by omega)
  refine ⟨by omega, fun T hT => ?_⟩
  rw [List.take_add_one, hS] at hT
  rcases List.mem_append.1 hT with hT | hT
  · have := h5 T hT; omega
  · rw [show T = S by simpa using hT]; omega

set_option maxRecDepth 4000 in
set_option maxHeartbeats 2000000 in
theorem words_calls {b0 : Nat} {v : Value} {L : List (List UInt8)} (hi : Int) (w : World) (hv : SlS w b0 v L) (hl2 : ∀ S ∈ L, S.length ≤ 9223372036854775807) (hh : hi ≤ 1000000) :
    Calls Tryd.prog 16 #[v, .int .i64 hi] w fun e w' => ∃ n : Int, e = .returned (.int .i64 n) ∧ (n ≤ hi → (L.length : Int) ≤ hi ∧ ∀ S ∈ L, (S.length : Int) ≤ hi) ∧ Below w.heap.size w w' := by
  have HV := Aside0.mk hv
  have HL2 := Aside0.mk hl2
  have HH := Aside0.mk hh
  obtain ⟨A, c, rfl, hc, hm, _⟩ := hv
  clear hl2
  go_enter Tryd.func16, Tryd.ntmps16
  go_wp2_with fail
  go_loopw [5, 6] (fun n i wr => ∃ (k : Nat) (m : Int), k ≤ L.length ∧ i = .int .i64 k ∧ n = .int .i64 m ∧ Aside0 (WdI L k m ∧ Below w.heap.size w wr)) (fun n i wr => L.length - (intOf i).toNat)
  case atStart => exact ⟨0, 0, Nat.zero_le _, rfl, rfl, ⟨⟨by decide, by decide, fun _ => ⟨by decide, by simp⟩⟩, Below.refl _ _⟩⟩
  case round =>
    obtain ⟨k, m, hk, rfl, rfl, hs⟩ := hrel
    have HB := Aside0.mk hs.out.2
    have HI := Aside0.mk hs.out.1
    clear hs
    by_cases hlt : k < L.length
    · have e1 : decide ((k : Int) < L.length) = true := decide_eq_true (by omega)
      by_cases hmh : m ≤ hi
      · have e2 : decide (m ≤ hi) = true := decide_eq_true hmh
        obtain ⟨ad1, d1, he1, hcell1⟩ := HV.out.at k hlt
        cases he1
        have hcell1 := cell_keep HB.out hcell1
        have hS0 : L[k]? = some (L.getD k []) := by rw [List.getD_eq_getElem?_getD, List.getElem?_eq_getElem hlt]; rfl
        have HS1 := Aside0.mk hS0
        obtain ⟨S, hS⟩ : ∃ S, S = L.getD k [] := ⟨_, rfl⟩
        rw [← hS] at hcell1 HS1
        clear hS hS0
        have hSl : S.length ≤ 9223372036854775807 := HL2.out S (List.mem_of_getElem? HS1.out)
        obtain ⟨s, hs1⟩ : ∃ s, s = str S := ⟨_, rfl⟩
        rw [← hs1] at hcell1
        have hsz : s.size = S.length := by rw [← len_data, hs1, str_data]
        have HSZ := Aside0.mk hsz
        have hsz2 : s.size ≤ 9223372036854775807 := by omega
        have z1 : (0 : Int) ≤ (k : Int) := by omega
        have z2 : (k : Int) < L.length := by omega
        have HN := Aside0.mk (HI.out.next HS1.out)
        have HWB := Aside0.mk (show 0 ≤ m ∧ m ≤ 9223372036854775807 from ⟨HI.out.1, HI.out.2.1⟩)
        have HB3 : Aside0 (∀ o, Below w.heap.size w (wr.alloc o)) := ⟨fun o => HB.out.alloc HB.out.size o⟩
        clear hs1 hsz hSl
        go_wp2_with fail
        refine (sum_calls (e := 3) (b0 := 0) m _ [(s.size : Int), 1] _ HWB.out.1 HWB.out.2 (by intro x hx; simp at hx; rcases hx with rfl | rfl <;> omega) (Sl.at (heap_new rfl) rfl rfl (by simp) (by simp))).mono ?_
        rintro e w2 ⟨rfl, rfl⟩
        have hse : Aside0 (WdI L (k + 1) (sumI m [(s.size : Int), 1])) := ⟨by rw [HSZ.out]; exact HN.out⟩
        obtain ⟨m2, hm2⟩ : ∃ m2, m2 = sumI m [(s.size : Int), 1] := ⟨_, rfl⟩
        rw [← hm2] at hse ⊢
        clear hm2
        go_wp2_with fail
        go_roundw
        case rel => exact ⟨k + 1, m2, by omega, by go_num, rfl, ⟨hse.out, HB3.out _⟩⟩
        case measure => simp [intOf]; omega
      · have e2 : decide (m ≤ hi) = false := decide_eq_false hmh
        go_wp2_with fail
        go_ret
        exact ⟨m, rfl, fun h => absurd h (by omega), HB.out⟩
    · obtain rfl : k = L.length := by omega
      go_wp2_with fail
      go_ret
      refine ⟨m, rfl, fun h => ?_, HB.out⟩
      obtain ⟨_, _, h2⟩ := HI.out
      rw [List.take_length] at h2
      have hh2 := HH.out
      obtain ⟨h3, h4⟩ := h2 (by omega)
      exact ⟨by omega, fun S hS => by have := h4 S hS; omega⟩
end Go.Proofs.YtkalfkgnjmkjgaaDoor
