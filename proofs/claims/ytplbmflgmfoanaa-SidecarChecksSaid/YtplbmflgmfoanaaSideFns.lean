/-
  sidecar.may, long, Fit. No condition but that what comes in can be read.
-/
import Derived.Test.YtplbmflgmfoanaaSidePure
import Derived.Test.YtplbmflgmfoanaaCopy
namespace Go.Proofs.Ytplbmflgmfoanaa
open Go.RowKit
set_option linter.unusedVariables false
set_option linter.unusedSimpArgs false

theorem not_mayS {size block k : Int} (h : ¬ (0 ≤ size ∧ size ≤ 8192 ∧ 16 ≤ block ∧ block ≤ 4096 ∧ 1 ≤ k ∧ k ≤ 8)) : mayS size block k = false := by
  cases hh : mayS size block k with
  | false => rfl
  | true => exact absurd (mayS_iff.1 hh) h
set_option maxHeartbeats 1000000 in
theorem smay_calls (size block k : Int) (w : World) : Calls Try.prog 20 #[.int .i64 size, .int .i64 block, .int .i64 k] w fun e w' => e = .returned (.bool (mayS size block k)) ∧ w = w' := by
  by_cases h1 : 0 ≤ size
  · have d1 : decide (0 ≤ size) = true := decide_eq_true h1
    by_cases h2 : size ≤ 8192
    · have d2 : decide (size ≤ 8192) = true := decide_eq_true h2
      by_cases h3 : 16 ≤ block
      · have d3 : decide (16 ≤ block) = true := decide_eq_true h3
        by_cases h4 : block ≤ 4096
        · have d4 : decide (block ≤ 4096) = true := decide_eq_true h4
          by_cases h5 : 1 ≤ k
          · have d5 : decide (1 ≤ k) = true := decide_eq_true h5
            by_cases h6 : k ≤ 8
            · have d6 : decide (k ≤ 8) = true := decide_eq_true h6
              have HM : Aside0 (mayS size block k = true) := ⟨mayS_iff.2 ⟨h1, h2, h3, h4, h5, h6⟩⟩
              rw [HM.out]
              go_enter Try.func20, Try.ntmps20
              go_wp2
              go_ret
              exact ⟨rfl, rfl⟩
            · have d6 : decide (k ≤ 8) = false := decide_eq_false h6
              have HM : Aside0 (mayS size block k = false) := ⟨not_mayS (by omega)⟩
              rw [HM.out]
              go_enter Try.func20, Try.ntmps20
              go_wp2
              go_ret
              exact ⟨rfl, rfl⟩
          · have d5 : decide (1 ≤ k) = false := decide_eq_false h5
            have HM : Aside0 (mayS size block k = false) := ⟨not_mayS (by omega)⟩
            rw [HM.out]
            go_enter Try.func20, Try.ntmps20
            go_wp2
            go_ret
            exact ⟨rfl, rfl⟩
        · have d4 : decide (block ≤ 4096) = false := decide_eq_false h4
          have HM : Aside0 (mayS size block k = false) := ⟨not_mayS (by omega)⟩
          rw [HM.out]
          go_enter Try.func20, Try.ntmps20
          go_wp2
          go_ret
          exact ⟨rfl, rfl⟩
      · have d3 : decide (16 ≤ block) = false := decide_eq_false h3
        have HM : Aside0 (mayS size block k = false) := ⟨not_mayS (by omega)⟩
        rw [HM.out]
        go_enter Try.func20, Try.ntmps20
        go_wp2
        go_ret
        exact ⟨rfl, rfl⟩
    · have d2 : decide (size ≤ 8192) = false := decide_eq_false h2
      have HM : Aside0 (mayS size block k = false) := ⟨not_mayS (by omega)⟩
      rw [HM.out]
      go_enter Try.func20, Try.ntmps20
      go_wp2
      go_ret
      exact ⟨rfl, rfl⟩
  · have d1 : decide (0 ≤ size) = false := decide_eq_false h1
    have HM : Aside0 (mayS size block k = false) := ⟨not_mayS (by omega)⟩
    rw [HM.out]
    go_enter Try.func20, Try.ntmps20
    go_wp2
    go_ret
    exact ⟨rfl, rfl⟩

theorem long1_calls (A : Option Addr) (n c : Nat) (g : Nat) (size : Int) (w : World) (hg : w.cell? ⟨g, 0, none⟩ = some (.int .i64 size)) :
    Calls Try.prog 49 #[.slice A n c, .pointer (some ⟨g, 0, none⟩)] w fun e w' => e = .returned (.bool ((n : Int) != size)) ∧ w = w' := by
  go_enter Try.func49, Try.ntmps49
  go_wp2
  go_ret
  exact ⟨rfl, rfl⟩

set_option maxHeartbeats 1000000 in
theorem indexfunc_calls {b0 : Nat} {v : Value} {L : List (List UInt8)} (g : Nat) (block : Int) (w : World) (hv : SlL w b0 v L) (hg : w.cell? ⟨g, 0, none⟩ = some (.int .i64 block)) :
    Calls Try.prog 60 #[v, .func (.func 49) #[] #[.pointer (some ⟨g, 0, none⟩)]] w fun e w' => ∃ r : Int, e = .returned (.int .i64 r) ∧ (0 ≤ r ↔ allLen L block = false) ∧ w = w' := by
  have HV := Aside0.mk hv
  obtain ⟨A, c, rfl, hc, hm⟩ := hv.shape
  have HGG := Aside0.mk hg
  go_enter Try.func60, Try.ntmps60
  go_wp2_with fail
  go_loop [8] (fun i => ∃ k : Nat, k ≤ L.length ∧ i = .int .i64 k ∧ Aside0 (allLen (L.take k) block = true)) (fun i => L.length - (intOf i).toNat)
  case atStart => exact ⟨0, Nat.zero_le _, rfl, ⟨rfl⟩⟩
  case round =>
    obtain ⟨k, hk, rfl, hs⟩ := hrel
    by_cases hlt : k < L.length
    · obtain ⟨ad, ca, u, Au, cu, he, hu, hcell, hsl⟩ := HV.out.at k hlt
      cases he
      obtain ⟨x, hxx⟩ : ∃ x, x = L.getD k [] := ⟨_, rfl⟩
      rw [← hxx] at hu
      have HXX := Aside0.mk hxx
      subst hu
      clear hsl hxx
      go_wp2_with fail
      refine (long1_calls _ _ _ _ _ _ HGG.out).mono ?_
      rintro e w' ⟨rfl, rfl⟩
      by_cases hx : (x.length : Int) = block
      · have h1 : ((x.length : Int) != block) = false := by simpa using hx
        rw [h1]
        have H2 : Aside0 (allLen (L.take (k + 1)) block = true) := ⟨allLen_take L block k hlt hs.out (by rw [← HXX.out]; exact hx)⟩
        clear hx h1
        go_wp2_with fail
        go_round
        case rel => exact ⟨k + 1, by omega, by go_num, H2⟩
        case measure => simp [intOf]; omega
      · have h1 : ((x.length : Int) != block) = true := by simpa using hx
        rw [h1]
        have H2 : Aside0 (allLen L block = false) := ⟨allLen_not L block k hlt (by rw [← HXX.out]; exact hx)⟩
        clear hx h1
        go_wp2_with fail
        go_ret
        exact ⟨_, rfl, ⟨fun _ => H2.out, fun _ => by simp⟩, rfl⟩
    · have H2 : Aside0 (allLen L block = true) := ⟨by have h := hs.out; rwa [List.take_of_length_le (by omega)] at h⟩
      go_wp2_with fail
      go_ret
      exact ⟨-1, rfl, ⟨fun h => by omega, fun h => by rw [H2.out] at h; cases h⟩, rfl⟩

set_option maxHeartbeats 1000000 in
theorem contains_calls {b0 : Nat} {v : Value} {L : List (List UInt8)} (g : Nat) (block : Int) (w : World) (hv : SlL w b0 v L) (hg : w.cell? ⟨g, 0, none⟩ = some (.int .i64 block)) :
    Calls Try.prog 48 #[v, .func (.func 49) #[] #[.pointer (some ⟨g, 0, none⟩)]] w fun e w' => e = .returned (.bool (!allLen L block)) ∧ w = w' := by
  have HV := Aside0.mk hv
  obtain ⟨A, c, rfl, hc, hm⟩ := hv.shape
  have HGG := Aside0.mk hg
  clear hg
  go_enter Try.func48, Try.ntmps48
  go_wp2_with fail
  refine (indexfunc_calls _ _ _ HV.out HGG.out).mono ?_
  rintro e w' ⟨r, rfl, hr, rfl⟩
  have HR := Aside0.mk hr
  clear hr
  go_wp2_with fail
  go_ret
  refine ⟨ret_b ?_, rfl⟩
  cases hh : allLen L block with
  | false => simpa using HR.out.2 hh
  | true =>
    have : ¬ 0 ≤ r := fun h => by rw [HR.out.1 h] at hh; cases hh
    simpa using this

set_option maxHeartbeats 1000000 in
theorem long_calls {b0 : Nat} {v : Value} {L : List (List UInt8)} (many size : Int) (w : World) (hv : SlL w b0 v L) :
    Calls Try.prog 28 #[v, .int .i64 many, .int .i64 size] w fun e w' => e = .returned (.bool (longB L many size)) ∧ Below w.heap.size w w' := by
  have HV := Aside0.mk hv
  obtain ⟨A, c, rfl, hc, hm⟩ := hv.shape
  have HB : Aside0 (∀ o, Below w.heap.size w (w.alloc o)) := ⟨fun o => (Below.refl _ _).alloc (Nat.le_refl _) _⟩
  clear hv
  rcases hq : ((L.length : Int) == many) with _ | _
  · have HE : Aside0 (longB L many size = false) := ⟨by simp only [longB, hq, Bool.false_and]⟩
    rw [HE.out]
    go_enter Try.func28, Try.ntmps28
    go_wp2_with fail
    go_ret
    exact ⟨rfl, HB.out _⟩
  · have HE : Aside0 (longB L many size = allLen L size) := ⟨by simp only [longB, hq, Bool.true_and]⟩
    rw [HE.out]
    go_enter Try.func28, Try.ntmps28
    go_wp2_with (go_at_call 48; refine (contains_calls w.heap.size size _ (HV.out.below (HB.out _)) (by simp)).mono ?_; rintro e w' ⟨rfl, rfl⟩)
    go_ret
    exact ⟨by simp, HB.out _⟩

set_option maxHeartbeats 1000000 in
theorem fit_calls {e0 b0 : Nat} {v : Value} {data : List UInt8} (n : Nat) (w : World) (hv : Sl bv e0 w b0 v data) (hn : n ≤ 1000000) :
    Calls Try.prog 38 #[v, .int .i64 n] w fun e w' => ∃ v', e = .returned v' ∧ w'.ownsRow w.heap.size 5 1 v' (fitL data n).length ((fitL data n).map bv) ∧ Below w.heap.size w w' := by
  have HV := Aside0.mk hv
  obtain ⟨A, c, rfl, hc, hm, _⟩ := hv
  obtain ⟨i0, hi, hz0, hz1, hz2⟩ := info_parts info_u8
  have HFL := Aside0.mk (fitL_spl data n)
  go_enter Try.func38, Try.ntmps38
  go_wp2_with (first | (at_make; go_must (refine wpList_make_full _ rfl _ _ 22 rfl w.heap.size 5 i0 _ 1 Try.underlying22 hi hz0 hz1 _ _ _ _ n rfl rfl rfl rfl (by rw [hz2]; omega) (by simp only [maxLen]; omega) (Nat.le_refl _) ?_); intro w1 hown hgrow; have hz := made_bytes n; simp only [Value.cells, Nat.mul_one] at hown; rw [hz] at hown; clear hz; have H1 := Aside0.mk (show OwnB w1 w.heap.size (.slice (some ⟨w.heap.size, 0, none⟩) n n) (List.replicate n 0) ∧ Below w.heap.size w w1 from ⟨by unfold OwnB; simpa using hown, below_none hgrow⟩); clear hown hgrow) | ((with_reducible refine copy_bytes rfl ?hg (.tmp 8) (.tmp 9) ?ho (off := 0) (g := w.heap.size) (n := n) (cap := n) (x := List.replicate n 0) (u := .slice A data.length c) (y := data) (e := e0) (b0 := b0) (base := w.heap.size) (dp := some ⟨w.heap.size, 0, none⟩) (dLen := n) (dCap := n) ?hd ?hdp ?hown ?hoff ?hs ?hu ?hh); (case hg => rfl); (case ho => rfl); (case hd => rfl); (case hdp => intro _; rfl); (case hown => exact H1.out.1); (case hoff => simp); (case hs => rfl); (case hu => exact HV.out.below H1.out.2); intro m8 w8 ho8 hg8))
  rw [HFL.out] at ho8
  have H8 := Aside0.mk (And.intro ho8 (H1.out.2.grown hg8 H1.out.2.size (fun k hk => by cases hk; exact Nat.le_refl _)))
  clear ho8 hg8
  go_wp2_with fail
  go_ret
  exact ⟨_, rfl, H8.out.1, H8.out.2⟩
end Go.Proofs.Ytplbmflgmfoanaa
