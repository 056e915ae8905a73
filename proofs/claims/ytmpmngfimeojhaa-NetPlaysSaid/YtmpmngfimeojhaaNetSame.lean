/-
  Two lists of frames that are the same. No condition but that the lists can be read.
-/
import Derived.Test.YtmpmngfimeojhaaNetRef3
namespace Go.Proofs.Ytmpmngfimeojhaa
open Go.RowKit Go.Joins
set_option linter.unusedVariables false
set_option linter.unusedSimpArgs false

set_option maxHeartbeats 2000000 in
theorem same_calls {e e' b b' bb bb' : Nat} {v v' : Value} {xs ys : List Fr} (w : World) (hx : SlC frC e w b v xs) (hy : SlC frC e' w b' v' ys) (hbx : ∀ f ∈ xs, Sl bv 5 w bb f.u f.b) (hby : ∀ f ∈ ys, Sl bv 5 w bb' f.u f.b) (hk : xs.map Fr.key = ys.map Fr.key) :
    Calls Try.prog 24 #[v, v'] w fun e w' => e = .returned (.bool true) ∧ Below w.heap.size w w' := by
  have hl : xs.length = ys.length := by have := congrArg List.length hk; simpa using this
  have HX := Aside0.mk (And.intro hx hbx)
  have HY := Aside0.mk (And.intro hy hby)
  have HK := Aside0.mk hk
  obtain ⟨A, c, rfl, hc, hm, _⟩ := hx
  obtain ⟨A', c', rfl, hc', hm', _⟩ := hy
  have HL := Aside0.mk hl
  rw [← hl] at hc' ⊢
  have hmx : xs.length ≤ 9223372036854775807 := by simp only [maxLen] at hm; omega
  clear hk hbx hby hl
  go_enter Try.func24, Try.ntmps24
  go_wp2_with fail
  go_loopw [5] (fun i wr => ∃ n : Nat, n ≤ xs.length ∧ i = .int .i64 n ∧ Aside0 (Below w.heap.size w wr)) (fun i wr => xs.length - (intOf i).toNat)
  case atStart => exact ⟨0, Nat.zero_le _, rfl, ⟨Below.refl _ _⟩⟩
  case round =>
    obtain ⟨n, hn, rfl, hs⟩ := hrel
    by_cases hlt : n < xs.length
    · have hlt' : n < ys.length := by have := HL.out; omega
      obtain ⟨ad, c1, he, c0, c1', c2, c3⟩ := frame_at (HX.out.1.below hs.out) n hlt
      cases he
      obtain ⟨ad', c1, he, d0, d1, d2, d3⟩ := frame_at (HY.out.1.below hs.out) n hlt'
      cases he
      have sx := (HX.out.2 _ (List.getElem_mem hlt)).below hs.out
      have sy := (HY.out.2 _ (List.getElem_mem hlt')).below hs.out
      have hkk : (xs[n]'hlt).key = (ys[n]'hlt').key := by
        have h1 := congrArg (fun l => l[n]?) HK.out
        simp only [List.getElem?_map, List.getElem?_eq_getElem hlt, List.getElem?_eq_getElem hlt', Option.map_some] at h1
        exact Option.some.inj h1
      obtain ⟨f, hf⟩ : ∃ f, f = xs[n]'hlt := ⟨_, rfl⟩
      obtain ⟨f', hf'⟩ : ∃ f', f' = ys[n]'hlt' := ⟨_, rfl⟩
      rw [← hf] at c0 c1' c2 c3 sx hkk
      rw [← hf'] at d0 d1 d2 d3 sy hkk
      clear hf hf'
      obtain ⟨fid, fwhom, fdue, fb, fu⟩ := f
      obtain ⟨gid, gwhom, gdue, gb, gu⟩ := f'
      simp only [Fr.key, Prod.mk.injEq] at hkk
      obtain ⟨rfl, rfl, rfl, rfl⟩ := hkk
      simp only at c0 c1' c2 c3 d0 d1 d2 d3 sx sy
      have k1 : ∀ n, _ := fun n => (sx.below (below_drewN (Below.refl _ _) n)).string (P := Try.prog) Try.underlying22 Try.underlying5 Try.underlying9
      have k2 : ∀ n, _ := fun n => (sy.below (below_drewN (Below.refl _ _) n)).string (P := Try.prog) Try.underlying22 Try.underlying5 Try.underlying9
      have h3 : ((str fb).toList != (str fb).toList) = false := by simp
      have hnI : (n : Int) < (xs.length : Int) := by omega
      obtain ⟨Af, cf, rfl, _⟩ := sx
      obtain ⟨Ag, cg, rfl, _⟩ := sy
      go_wp2_with fail
      go_quiet (fail)
      go_wp2_with fail
      go_roundw
      case rel => exact ⟨n + 1, by omega, by go_num, ⟨below_drewN hs.out nq⟩⟩
      case measure => simp [intOf]; omega
    · go_wp2_with fail
      go_ret
      exact ⟨rfl, hs.out⟩
end Go.Proofs.Ytmpmngfimeojhaa
