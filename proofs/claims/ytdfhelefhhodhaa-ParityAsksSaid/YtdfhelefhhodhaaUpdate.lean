/-
  parity.Update. No condition but that the slices can be read.
-/
import Derived.Test.YtdfhelefhhodhaaBuild
import Derived.Test.YtdfhelefhhodhaaCopy
namespace Go.Proofs.Ytdfhelefhhodhaa
open Go.RowKit
set_option linter.unusedVariables false
set_option linter.unusedSimpArgs false

theorem update1_calls (A : Option Addr) (n c : Nat) (g : Nat) (block : Int) (w : World) (hg : w.cell? ⟨g, 0, none⟩ = some (.int .i64 block)) :
    Calls Try.prog 28 #[.slice A n c, .pointer (some ⟨g, 0, none⟩)] w fun e w' => e = .returned (.bool ((n : Int) != block)) ∧ w = w' := by
  go_enter Try.func28, Try.ntmps28
  go_wp2
  go_ret
  exact ⟨rfl, rfl⟩

/-- All of a length. -/
def allLen (L : List (List UInt8)) (block : Int) : Bool := L.all fun x => (x.length : Int) == block
theorem allLen_take (L : List (List UInt8)) (block : Int) (k : Nat) (hk : k < L.length) (h : allLen (L.take k) block = true) (h2 : ((L.getD k []).length : Int) = block) : allLen (L.take (k + 1)) block = true := by
  rw [List.take_succ_eq_append_getElem hk]
  unfold allLen at *
  rw [List.all_append, h]
  simp [List.getElem?_eq_getElem hk] at h2
  simp [h2]

set_option maxHeartbeats 1000000 in
theorem indexfunc_calls {b0 : Nat} {v : Value} {L : List (List UInt8)} (g : Nat) (block : Int) (w : World) (hv : SlL w b0 v L) (hg : w.cell? ⟨g, 0, none⟩ = some (.int .i64 block)) :
    Calls Try.prog 37 #[v, .func (.func 28) #[] #[.pointer (some ⟨g, 0, none⟩)]] w fun e w' => ∃ r : Int, e = .returned (.int .i64 r) ∧ (0 ≤ r ↔ allLen L block = false) ∧ w = w' := by
  have HV := Aside0.mk hv
  obtain ⟨A, c, rfl, hc, hm⟩ := hv.shape
  have HGG := Aside0.mk hg
  go_enter Try.func37, Try.ntmps37
  go_wp2_with fail
  go_loop [8] (fun i => ∃ k : Nat, k ≤ L.length ∧ i = .int .i64 k ∧ Aside0 (allLen (L.take k) block = true)) (fun i => L.length - (intOf i).toNat)
  case atStart => exact ⟨0, Nat.zero_le _, rfl, ⟨rfl⟩⟩
  case round =>
    obtain ⟨k, hk, rfl, hs⟩ := hrel
    by_cases hlt : k < L.length
    · obtain ⟨ad, ca, u, Au, cu, he, hu, hcell, hsl⟩ := HV.out.at k hlt
      cases he
      obtain ⟨x, hxx⟩ : ∃ x, x = L.getD k [] := ⟨_, rfl⟩
      rw [← hxx] at hu
      have HXX := Aside0.mk hxx
      subst hu
      clear hsl hxx
      go_wp2_with fail
      refine (update1_calls _ _ _ _ _ _ HGG.out).mono ?_
      rintro e w' ⟨rfl, rfl⟩
      by_cases hx : (x.length : Int) = block
      · have h1 : ((x.length : Int) != block) = false := by simpa using hx
        rw [h1]
        have H2 : Aside0 (allLen (L.take (k + 1)) block = true) := ⟨allLen_take L block k hlt hs.out (by rw [← HXX.out]; exact hx)⟩
        clear hx h1
        go_wp2_with fail
        go_round
        case rel => exact ⟨k + 1, by omega, by go_num, H2⟩
        case measure => simp [intOf]; omega
      · have h1 : ((x.length : Int) != block) = true := by simpa using hx
        rw [h1]
        have H2 : Aside0 (allLen L block = false) := ⟨by
          cases hh : allLen L block with
          | false => rfl
          | true =>
            unfold allLen at hh
            rw [List.all_eq_true] at hh
            have := hh x (by rw [HXX.out]; simp [List.getElem?_eq_getElem hlt])
            simp at this
            exact absurd this hx⟩
        clear hx h1
        go_wp2_with fail
        go_ret
        exact ⟨_, rfl, ⟨fun _ => H2.out, fun _ => by simp⟩, rfl⟩
    · have H2 : Aside0 (allLen L block = true) := ⟨by have h := hs.out; rwa [List.take_of_length_le (by omega)] at h⟩
      go_wp2_with fail
      go_ret
      exact ⟨-1, rfl, ⟨fun h => by omega, fun h => by rw [H2.out] at h; cases h⟩, rfl⟩

set_option maxHeartbeats 1000000 in
theorem contains_calls {b0 : Nat} {v : Value} {L : List (List UInt8)} (g : Nat) (block : Int) (w : World) (hv : SlL w b0 v L) (hg : w.cell? ⟨g, 0, none⟩ = some (.int .i64 block)) :
    Calls Try.prog 27 #[v, .func (.func 28) #[] #[.pointer (some ⟨g, 0, none⟩)]] w fun e w' => e = .returned (.bool (!allLen L block)) ∧ w = w' := by
  have HV := Aside0.mk hv
  obtain ⟨A, c, rfl, hc, hm⟩ := hv.shape
  have HGG := Aside0.mk hg
  clear hg
  go_enter Try.func27, Try.ntmps27
  go_wp2_with fail
  refine (indexfunc_calls _ _ _ HV.out HGG.out).mono ?_
  rintro e w' ⟨r, rfl, hr, rfl⟩
  have HR := Aside0.mk hr
  clear hr
  go_wp2_with fail
  go_ret
  refine ⟨ret_b ?_, rfl⟩
  cases hh : allLen L block with
  | false => simpa using HR.out.2 hh
  | true =>
    have : ¬ 0 ≤ r := fun h => by rw [HR.out.1 h] at hh; cases hh
    simpa using this
end Go.Proofs.Ytdfhelefhhodhaa
