/-
  strings.IndexRune of what is no ASCII in " \n": nothing.
-/
import Derived.Test.YtkalfkgnjmkjgaaDoorIgnShelf
import Derived.Test.YtkalfkgnjmkjgaaDoorBase
import Derived.Laws.Runes
import Derived.Laws.RangeAny
import Derived.RegionTactic
namespace Go.Proofs.YtkalfkgnjmkjgaaDoor
open Go.RowKit Go.Lib
set_option linter.unusedVariables false
set_option linter.unusedSimpArgs false

def wsS : ByteArray := ⟨#[32, 10]⟩
theorem enc_last (r : Int) (hv : Utf8.valid r = true) (h : 128 ≤ r) : ∃ n : Nat, (Utf8.encode r).size = n + 2 ∧ n ≤ 2 ∧ ∀ h : n + 1 < (Utf8.encode r).size, 128 ≤ ((Utf8.encode r)[n + 1]'h).toNat := by
  obtain ⟨h1, h2, h3⟩ := encode_facts r hv h
  obtain ⟨n, hn⟩ : ∃ n, (Utf8.encode r).size = n + 2 := ⟨(Utf8.encode r).size - 2, by omega⟩
  refine ⟨n, hn, by omega, fun h => ?_⟩
  have h4 : (Utf8.encode r).size - 1 = n + 1 := by omega
  have h5 := h3 (by omega)
  simp only [h4] at h5
  exact h5

set_option maxHeartbeats 2000000 in
set_option maxRecDepth 1000000 in
theorem irune_err (w : World) :
    Calls Tryd.prog 55 #[.string ⟨#[32, 10]⟩, .int .i32 65533] w fun e w' => e = .returned (.int .i64 (-1)) ∧ Below w.heap.size w w' := by
  obtain ⟨s, hs⟩ : ∃ s : ByteArray, s = ⟨#[32, 10]⟩ := ⟨_, rfl⟩
  rw [← hs]
  have hsz : s.size = 2 := by rw [hs]; rfl
  have HX : Aside0 (∀ i (h : i < s.size), s[i].toNat < 128) := ⟨fun i h => by
    subst hs
    have : i = 0 ∨ i = 1 := by have : (⟨#[32, 10]⟩ : ByteArray).size = 2 := rfl; omega
    rcases this with rfl | rfl
    · show (32 : UInt8).toNat < 128; decide
    · show (10 : UInt8).toNat < 128; decide⟩
  clear hs hsz
  go_enter Tryd.func55, Tryd.ntmps55
  go_wp2_with fail
  go_loopg [5, 6] s.size (fun g _ _ wx => ∃ i : Nat, i + g = s.size ∧ wx = w.iter s i)
  case atStart => exact ⟨0, by omega, rfl⟩
  case round =>
    obtain ⟨i, hig, rfl⟩ := hrel
    cases gk with
    | zero =>
      obtain rfl : i = s.size := by omega
      have hnx := run_next_end (P := Tryd.prog) w s s.size
      go_wp2
      try rw [Exit.noGoto_ret]
      go_ret
      exact ⟨rfl, (Below.refl _ _).alloc (Nat.le_refl _) _⟩
    | succ g =>
      have hi : i < s.size := by omega
      have hx128 := HX.out i hi
      obtain ⟨x, hx⟩ : ∃ x : UInt8, s[i]'hi = x := ⟨_, rfl⟩
      have hnx := fun ty => run_next_ascii (P := Tryd.prog) w s i ty hi hx128
      rw [hx] at hnx hx128
      have hne : ¬ ((x.toNat : Int) = 65533) := by omega
      have hnb : ((x.toNat : Int) == 65533) = false := by rw [beq_eq_false_iff_ne]; exact hne
      clear hx
      go_wp2
      go_roundg g
      case measure => omega
      case rel => exact ⟨i + 1, by omega, rfl⟩

set_option maxHeartbeats 4000000 in
set_option maxRecDepth 1000000 in
theorem irune_bad (r : Int) (w : World) (h0 : 128 ≤ r) (h1 : r ≠ 65533) (hv : Lib.validRune r = false) :
    Calls Tryd.prog 55 #[.string ⟨#[32, 10]⟩, .int .i32 r] w fun e w' => e = .returned (.int .i64 (-1)) ∧ Below w.heap.size w w' := by
  have h2 : (r == 65533) = false := beq_eq_false_iff_ne.2 h1
  have h3 : ¬ r < 128 := by omega
  have h4 : (0 : Int) ≤ r := by omega
  go_enter Tryd.func55, Tryd.ntmps55
  go_wp2_with (go_at_call 67; refine (Tryd.utf8_ValidRune r _).mono ?_; rintro e w' ⟨rfl, rfl⟩; rw [hv])
  go_ret
  exact ⟨rfl, Below.refl _ _⟩

set_option maxHeartbeats 4000000 in
set_option maxRecDepth 1000000 in
theorem irune_two (s : ByteArray) (hsz : s.size = 2) (hs1 : (s[1]'(by omega)).toNat = 10) (r : Int) (w : World) (u : ByteArray) (h0 : 128 ≤ r) (h1 : r ≠ 65533) (hv : Lib.validRune r = true) (hn : u.size = 2) (hl : 128 ≤ (u[1]'(by omega)).toNat) (HC : ∀ W, (convert 21 9 (.int .i32 r)).run Tryd.prog W = .ok (.string u) W) :
    Calls Tryd.prog 55 #[.string s, .int .i32 r] w fun e w' => e = .returned (.int .i64 (-1)) ∧ Below w.heap.size w w' := by
  have h2 : (r == 65533) = false := beq_eq_false_iff_ne.2 h1
  have h3 : ¬ r < 128 := by omega
  have h4 : (0 : Int) ≤ r := by omega
  obtain ⟨x, hx⟩ : ∃ x : UInt8, u[1]'(by omega) = x := ⟨_, rfl⟩
  rw [hx] at hl
  have e1 : ((10 : Int) == (x.toNat : Int)) = false := by rw [beq_eq_false_iff_ne]; omega
  have e2 : ¬ ((10 : Int) = (x.toNat : Int)) := by omega
  have e3 : (((s[1]'(by omega)).toNat : Int) != (x.toNat : Int)) = true := by
    rw [bne_iff_ne, hs1]; exact e2
  clear hs1
  have HIB : Aside0 (∀ (t : ByteArray) W, Calls Tryd.prog 66 #[.string t, .int .u8 (x.toNat : Int)] W fun e w' => e = .returned (.int .i64 (Lib.indexByte t.data.toList x)) ∧ w' = W) := ⟨fun t W => by
    refine (Tryd.strings_IndexByte t (x.toNat : Int) W).mono ?_
    rintro e w' ⟨rfl, rfl⟩
    exact ⟨by simp, rfl⟩⟩
  go_enter Tryd.func55, Tryd.ntmps55
  go_wp2_with (go_at_call 67; refine (Tryd.utf8_ValidRune r _).mono ?_; rintro e w' ⟨rfl, rfl⟩; rw [hv])
  go_step3
  go_wp2_with fail
  go_loopw [9] (fun i wr => i = .int .i64 1 ∧ wr = w') (fun i wr => 0)
  case atStart => exact ⟨rfl, rfl⟩
  case round =>
    obtain ⟨rfl, rfl⟩ := hrel
    go_wp2_with fail
    go_step3
    go_wp2_with fail
    go_quiet (fail)
    go_wp2_with fail
    have hw2 : IntKind.i64.wrap 2 = 2 := by decide
    have hib : Lib.indexByte [] x < 0 := by show (-1 : Int) < 0; decide
    go_region_law (go_simp; go_at_call 66; refine (HIB.out _ _).mono ?_; rintro e w9 ⟨rfl, rfl⟩)
    all_goals
      go_wp2_with fail
      rw [Exit.noGoto_ret]
      simp +zetaDelta only [Exit.noGoto_ret, Exit.inBlock, Exit.then]
      go_ret
      exact ⟨rfl, below_drewN (Below.refl _ _) _⟩
set_option maxHeartbeats 4000000 in
set_option maxRecDepth 1000000 in
theorem irune_more (r : Int) (w : World) (u : ByteArray) (h0 : 128 ≤ r) (h1 : r ≠ 65533) (hv : Lib.validRune r = true) (n : Nat) (hn : u.size = n + 3) (hn1 : n ≤ 1) (HC : ∀ W, (convert 21 9 (.int .i32 r)).run Tryd.prog W = .ok (.string u) W) :
    Calls Tryd.prog 55 #[.string ⟨#[32, 10]⟩, .int .i32 r] w fun e w' => e = .returned (.int .i64 (-1)) ∧ Below w.heap.size w w' := by
  have h2 : (r == 65533) = false := beq_eq_false_iff_ne.2 h1
  have h3 : ¬ r < 128 := by omega
  have h4 : (0 : Int) ≤ r := by omega
  go_enter Tryd.func55, Tryd.ntmps55
  go_wp2_with (go_at_call 67; refine (Tryd.utf8_ValidRune r _).mono ?_; rintro e w' ⟨rfl, rfl⟩; rw [hv])
  go_step3
  go_wp2_with fail
  go_loopw [9] (fun i wr => i = .int .i64 ((n : Int) + 2) ∧ wr = w') (fun i wr => 0)
  case atStart => exact ⟨by congr 1; omega, rfl⟩
  case round =>
    obtain ⟨rfl, rfl⟩ := hrel
    have hlt : ¬ ((n : Int) + 2 < 2) := by omega
    go_wp2_with fail
    try rw [Exit.noGoto_ret]
    go_ret
    exact ⟨rfl, Below.refl _ _⟩

/-- Nothing that is no ASCII stands in " \n". -/
theorem irune_calls (r : Int) (w : World) (h0 : 128 ≤ r) :
    Calls Tryd.prog 55 #[.string ⟨#[32, 10]⟩, .int .i32 r] w fun e w' => e = .returned (.int .i64 (-1)) ∧ Below w.heap.size w w' := by
  by_cases h1 : r = 65533
  · subst h1; exact irune_err w
  · cases hv : Lib.validRune r with
    | false => exact irune_bad r w h0 h1 hv
    | true =>
      obtain ⟨n, hn, hn2, hl⟩ := enc_last r (by rw [validRune_eq]; exact hv) h0
      have HC : ∀ W, (convert 21 9 (.int .i32 r)).run Tryd.prog W = .ok (.string (Utf8.encode r)) W := fun W => run_convert_int_string W _ _ _ _ (by rw [Tryd.underlying21]; rfl) Tryd.underlying9
      rcases Nat.eq_zero_or_pos n with hn0 | hn0
      · subst hn0
        exact irune_two ⟨#[32, 10]⟩ rfl rfl r w _ h0 h1 hv (by omega) (hl (by omega)) HC
      · exact irune_more r w _ h0 h1 hv (n - 1) (by omega) (by omega) HC
end Go.Proofs.YtkalfkgnjmkjgaaDoor
