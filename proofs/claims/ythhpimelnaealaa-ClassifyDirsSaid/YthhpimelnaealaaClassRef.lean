/-
  What classify.Ref answers, and that the chapter's closed examples hold. No condition but that the slice can be read.
-/
import Derived.Test.YthhpimelnaealaaClassify
import Derived.Test.YthhpimelnaealaaClone
namespace Go.Proofs.Ythhpimelnaealaa
open Go.RowKit
set_option linter.unusedVariables false
set_option linter.unusedSimpArgs false

set_option maxHeartbeats 400000 in
theorem ref_calls {e b0 : Nat} (p : ByteArray) (k s m t : Int) (v : Value) (x : List UInt8) (w : World) (hv : Sl bv e w b0 v x) (hl : x.length ≤ 140737488355328) :
    Calls Try.prog 10 #[.agg #[.string p, .int .i64 k, .int .i64 s, .int .i64 m, .int .u64 t], v] w
      fun e w' => ∃ rv, e = .returned (.agg #[.string p, .int .i64 k, .int .i64 s, .int .i64 m, .int .u64 t, rv]) ∧ Sl bv 5 w' w.heap.size rv (if (k != 2) = true then x else []) ∧ Below w.heap.size w w' := by
  have HV := Aside0.mk hv
  obtain ⟨A, c, rfl, _⟩ := hv
  have b3 : ∀ o o' o'' : Obj, Below w.heap.size w (((w.alloc o).alloc o').alloc o'') := fun o o' o'' => (((Below.refl _ _).alloc (Nat.le_refl _) _).alloc (by simp) _).alloc (by simp; omega) _
  have B3 := Aside0.mk b3
  clear b3
  rcases bool_cases (k != 2) with h1 | h1
  · go_enter Try.func10, Try.ntmps10
    go_wp2_with fail
    refine (clone_calls _ (HV.out.below (B3.out _ _ _)) hl).mono ?_
    rintro e w1 ⟨rv, rfl, hown, hb⟩
    have HO := Aside0.mk hown
    obtain ⟨A2, c2, rfl, _⟩ := Sl.of_own (b := w.heap.size) hown
    have HB := Aside0.mk hb
    obtain ⟨hc, hf⟩ := bcell hb
    have hz : w.heap.size + 1 + 1 + 1 ≤ w1.heap.size := by have := hb.size; simp at this; omega
    clear hown hb
    go_wp2_with fail
    refine bodyPost_ret (v := .agg #[.string p, .int .i64 k, .int .i64 s, .int .i64 m, .int .u64 t, .slice A2 x.length c2]) (by simp [results, Try.results10, go_sem, hc, hf, hz]) rfl ⟨_, rfl, ?_, ?_⟩
    · refine Sl.of_own (base := w.heap.size + 1 + 1 + 1) ?_
      repeat (with_reducible refine ownsRow_setCell_below ?_ ?_ _)
      · exact own_mono HO.out (by simp)
      all_goals simp
    · repeat (with_reducible refine Below.setCell ?_ ?_ _)
      · exact below_step (B3.out _ _ _) HB.out
      all_goals (simp <;> omega)
  · go_enter Try.func10, Try.ntmps10
    go_wp2_with fail
    refine bodyPost_ret (v := .agg #[.string p, .int .i64 k, .int .i64 s, .int .i64 m, .int .u64 t, .slice none 0 0]) (by simp [results, Try.results10, go_sem]) rfl ⟨_, rfl, ?_, B3.out _ _ _⟩
    exact Sl.nil _ _ _ _
end Go.Proofs.Ythhpimelnaealaa
