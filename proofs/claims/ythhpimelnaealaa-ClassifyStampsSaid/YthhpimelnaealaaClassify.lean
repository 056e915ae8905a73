/-
  What classify's functions answer, each for every input. No condition but that a slice can be read.
-/
import Derived.Test.YthhpimelnaealaaProg
import Derived.Test.YthhpimelnaealaaBase
namespace Go.Proofs.Ythhpimelnaealaa
open Go.RowKit
set_option linter.unusedVariables false
set_option linter.unusedSimpArgs false

theorem bool_cases (b : Bool) : b = true ∨ b = false := by cases b <;> simp

def word (a : Int) : ByteArray := if a = 1 then ⟨#[115, 97, 109, 101]⟩ else if a = 2 then ⟨#[110, 101, 119]⟩ else if a = 3 then ⟨#[103, 111, 110, 101]⟩ else if a = 4 then ⟨#[101, 100, 105, 116]⟩ else if a = 5 then ⟨#[109, 101, 116, 97]⟩ else if a = 6 then ⟨#[114, 111, 116]⟩ else if a = 7 then ⟨#[111, 116, 104, 101, 114]⟩ else ⟨#[]⟩

theorem word_calls (a : Int) (w : World) : Calls Try.prog 6 #[.int .i64 a] w fun e w' => e = .returned (.string (word a)) ∧ w = w' := by
  by_cases h : a = 1 ∨ a = 2 ∨ a = 3 ∨ a = 4 ∨ a = 5 ∨ a = 6 ∨ a = 7
  · rcases h with rfl | rfl | rfl | rfl | rfl | rfl | rfl <;>
    · go_enter Try.func6, Try.ntmps6
      go_wp2
      go_ret
      exact ⟨rfl, rfl⟩
  · have h1 : (a == 1) = false := by simp; omega
    have h2 : (a == 2) = false := by simp; omega
    have h3 : (a == 3) = false := by simp; omega
    have h4 : (a == 4) = false := by simp; omega
    have h5 : (a == 5) = false := by simp; omega
    have h6 : (a == 6) = false := by simp; omega
    have h7 : (a == 7) = false := by simp; omega
    have hw : word a = ⟨#[]⟩ := by unfold word; repeat (rw [if_neg (by omega)])
    rw [hw]
    clear h hw
    go_enter Try.func6, Try.ntmps6
    go_wp2
    go_ret
    exact ⟨rfl, rfl⟩

theorem rotten_calls (a : Int) (w : World) : Calls Try.prog 7 #[.int .i64 a] w fun e w' => e = .returned (.bool (a == 6)) ∧ w = w' := by
  go_enter Try.func7, Try.ntmps7
  go_wp2
  go_ret
  exact ⟨rfl, rfl⟩

/-- What becomes of a directory. -/
def dirS (rm rt nm nt : Int) : Int := if (rm == nm) = true then (if (rt == nt) = true then 1 else 5) else 5

theorem dir_calls (rp : ByteArray) (rk rs rm rt : Int) (rv : Value) (np : ByteArray) (nk ns nm nt : Int) (hv : ∃ A n c, rv = .slice A n c) (w : World) :
    Calls Try.prog 13 #[.agg #[.string rp, .int .i64 rk, .int .i64 rs, .int .i64 rm, .int .u64 rt, rv], .agg #[.string np, .int .i64 nk, .int .i64 ns, .int .i64 nm, .int .u64 nt]] w
      fun e w' => e = .returned (.int .i64 (dirS rm rt nm nt)) ∧ Below w.heap.size w w' := by
  obtain ⟨A, n, c, rfl⟩ := hv
  rcases bool_cases (rm == nm) with h1 | h1 <;> rcases bool_cases (rt == nt) with h2 | h2
  all_goals
    have HS : Aside0 (dirS rm rt nm nt = if (rm == nm) = true then (if (rt == nt) = true then 1 else 5) else 5) := ⟨rfl⟩
    rw [HS.out]
    go_enter Try.func13, Try.ntmps13
    go_wp2
    go_ret
    refine ⟨ret_i ?_, ((Below.refl _ _).alloc (Nat.le_refl _) _).alloc (by simp) _⟩
    simp [h1, h2]

theorem equal_calls {e e' : Nat} {base base' : Nat} {v v' : Value} {x y : List UInt8} (w : World) (hx : Sl bv e w base v x) (hy : Sl bv e' w base' v' y) :
    Calls Try.prog 14 #[v, v'] w fun e w' => e = .returned (.bool (x == y)) ∧ w = w' := by
  have c1 := hx.string (P := Try.prog) Try.underlying29 Try.underlying5 Try.underlying9
  have c2 := hy.string (P := Try.prog) Try.underlying29 Try.underlying5 Try.underlying9
  obtain ⟨A, c, rfl, _, _, _⟩ := hx
  obtain ⟨A', c', rfl, _, _, _⟩ := hy
  go_enter Try.func14, Try.ntmps14
  go_wp2
  go_ret
  exact ⟨ret_b (by rw [str_toList, str_toList]), rfl⟩

/-- The class of what stands at a path. -/
def ofS (rk rs rm rt : Int) (rr : List UInt8) (has : Bool) (nk ns nm nt : Int) (is : Bool) (root : List UInt8) : Int :=
  if has = false then (if is = false then 0 else 2) else if is = false then 3 else if (rk != nk) = true then 7 else if (nk == 2) = true then dirS rm rt nm nt else
  if (rt == nt) = true then (if (rs == ns) = true then (if (rr == root) = true then (if (rm == nm) = true then 1 else 6) else 6) else 6)
  else if (rs == ns) = true then (if (rr == root) = true then 5 else 4) else 4

set_option maxHeartbeats 1000000 in
theorem of_calls {e e' : Nat} {base base' : Nat} (rp : ByteArray) (rk rs rm rt : Int) (rv : Value) (rr : List UInt8) (has : Bool) (np : ByteArray) (nk ns nm nt : Int) (is : Bool) (v : Value) (root : List UInt8) (w : World)
    (hr : Sl bv e w base rv rr) (hv : Sl bv e' w base' v root) :
    Calls Try.prog 11 #[.agg #[.string rp, .int .i64 rk, .int .i64 rs, .int .i64 rm, .int .u64 rt, rv], .bool has, .agg #[.string np, .int .i64 nk, .int .i64 ns, .int .i64 nm, .int .u64 nt], .bool is, v] w
      fun e w' => e = .returned (.int .i64 (ofS rk rs rm rt rr has nk ns nm nt is root)) ∧ Below w.heap.size w w' := by
  have HR := Aside0.mk hr
  have HV := Aside0.mk hv
  clear hr hv
  obtain ⟨A, c, rfl, _⟩ := HR.out
  have HS : Aside0 (ofS rk rs rm rt rr has nk ns nm nt is root = _) := ⟨rfl⟩
  have b2 : ∀ o o' : Obj, Below w.heap.size w ((w.alloc o).alloc o') := fun o o' => ((Below.refl _ _).alloc (Nat.le_refl _) _).alloc (by simp) _
  have B2 := Aside0.mk b2
  clear b2
  cases has <;> cases is
  case true.true =>
    rcases bool_cases (rk != nk) with h1 | h1
    · go_enter Try.func11, Try.ntmps11
      go_wp2_with fail
      go_ret
      exact ⟨ret_i (by simp [ofS, h1]), B2.out _ _⟩
    · rcases bool_cases (nk == 2) with h2 | h2
      · go_enter Try.func11, Try.ntmps11
        go_wp2_with fail
        refine (dir_calls _ _ _ _ _ _ _ _ _ _ _ ⟨_, _, _, rfl⟩ _).mono ?_
        rintro e w' ⟨rfl, hb⟩
        go_wp2_with fail
        go_ret
        exact ⟨ret_i (by simp [ofS, h1, h2]), below_step (B2.out _ _) hb⟩
      · rcases bool_cases (rs == ns) with h3 | h3
        · rcases bool_cases (rr == root) with h4 | h4 <;> rcases bool_cases (rt == nt) with h5 | h5 <;> rcases bool_cases (rm == nm) with h6 | h6
          all_goals
            go_enter Try.func11, Try.ntmps11
            go_wp2_with fail
            refine (equal_calls _ (HR.out.below (B2.out _ _)) (HV.out.below (B2.out _ _))).mono ?_
            rintro e w' ⟨rfl, rfl⟩
            go_wp2_with fail
            go_ret
            exact ⟨ret_i (by simp [ofS, h1, h2, h3, h4, h5, h6]), B2.out _ _⟩
        · rcases bool_cases (rt == nt) with h5 | h5
          all_goals
            go_enter Try.func11, Try.ntmps11
            go_wp2_with fail
            go_ret
            exact ⟨ret_i (by simp [ofS, h1, h2, h3, h5]), B2.out _ _⟩
  all_goals
    go_enter Try.func11, Try.ntmps11
    go_wp2_with fail
    go_ret
    exact ⟨ret_i (by simp [ofS]), B2.out _ _⟩
end Go.Proofs.Ythhpimelnaealaa
