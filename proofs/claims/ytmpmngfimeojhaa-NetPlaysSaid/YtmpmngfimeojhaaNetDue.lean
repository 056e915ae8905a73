/-
  What is due, what waits. No condition but that the net can be read, and that it is not more than memory.
-/
import Derived.Test.YtmpmngfimeojhaaNetSome
namespace Go.Proofs.Ytmpmngfimeojhaa
open Go.RowKit Go.Joins
set_option linter.unusedVariables false
set_option linter.unusedSimpArgs false

theorem due1_enters : ∀ args w, (callFunc 32 args).run Try.prog w = .ok (.enter 32 args) w := enters_of Try.func32 (by kernel_rfl) rfl
theorem waiting1_enters : ∀ args w, (callFunc 33 args).run Try.prog w = .ok (.enter 33 args) w := enters_of Try.func33 (by kernel_rfl) rfl
theorem take1_enters : ∀ args w, (callFunc 29 args).run Try.prog w = .ok (.enter 29 args) w := enters_of Try.func29 (by kernel_rfl) rfl

/-- A frame is due. -/
def dueF (to' now : Int) (f : Fr) : Bool := f.whom == to' && decide (f.due ≤ now)

set_option maxHeartbeats 1000000 in
theorem due1_calls (f : Fr) (to' now : Int) (B C : Nat) (w : World) (hB : w.cell? ⟨B, 0, none⟩ = some (.int .i64 to')) (hC : w.cell? ⟨C, 0, none⟩ = some (.int .i64 now)) :
    Calls Try.prog 32 #[.agg #[.int .i64 f.id, .int .i64 f.whom, .int .i64 f.due, f.u], .pointer (some ⟨B, 0, none⟩), .pointer (some ⟨C, 0, none⟩)] w fun e w' => e = .returned (.bool (dueF to' now f)) ∧ Below w.heap.size w w' := by
  have hlt : B < w.heap.size := World.block_lt_of_cell? w _ hB
  have hltC : C < w.heap.size := World.block_lt_of_cell? w _ hC
  have hne : B ≠ w.heap.size := by omega
  have hneC : C ≠ w.heap.size := by omega
  cases h1 : (f.whom == to') with
  | true =>
    have hd : dueF to' now f = decide (f.due ≤ now) := by unfold dueF; rw [h1]; rfl
    rw [hd]
    go_enter Try.func32, Try.ntmps32
    go_wp2
    go_ret
    exact ⟨rfl, (Below.refl _ _).alloc (Nat.le_refl _) _⟩
  | false =>
    have hd : dueF to' now f = false := by unfold dueF; rw [h1]; rfl
    rw [hd]
    go_enter Try.func32, Try.ntmps32
    go_wp2
    go_ret
    exact ⟨rfl, (Below.refl _ _).alloc (Nat.le_refl _) _⟩
set_option maxHeartbeats 1000000 in
theorem take1_calls (f : Fr) (to' now : Int) (B C : Nat) (w : World) (hB : w.cell? ⟨B, 0, none⟩ = some (.int .i64 to')) (hC : w.cell? ⟨C, 0, none⟩ = some (.int .i64 now)) :
    Calls Try.prog 29 #[.agg #[.int .i64 f.id, .int .i64 f.whom, .int .i64 f.due, f.u], .pointer (some ⟨B, 0, none⟩), .pointer (some ⟨C, 0, none⟩)] w fun e w' => e = .returned (.bool (dueF to' now f)) ∧ Below w.heap.size w w' := by
  have hlt : B < w.heap.size := World.block_lt_of_cell? w _ hB
  have hltC : C < w.heap.size := World.block_lt_of_cell? w _ hC
  have hne : B ≠ w.heap.size := by omega
  have hneC : C ≠ w.heap.size := by omega
  cases h1 : (f.whom == to') with
  | true =>
    have hd : dueF to' now f = decide (f.due ≤ now) := by unfold dueF; rw [h1]; rfl
    rw [hd]
    go_enter Try.func29, Try.ntmps29
    go_wp2
    go_ret
    exact ⟨rfl, (Below.refl _ _).alloc (Nat.le_refl _) _⟩
  | false =>
    have hd : dueF to' now f = false := by unfold dueF; rw [h1]; rfl
    rw [hd]
    go_enter Try.func29, Try.ntmps29
    go_wp2
    go_ret
    exact ⟨rfl, (Below.refl _ _).alloc (Nat.le_refl _) _⟩
theorem waiting1_calls (f : Fr) (w : World) :
    Calls Try.prog 33 #[.agg #[.int .i64 f.id, .int .i64 f.whom, .int .i64 f.due, f.u]] w fun e w' => e = .returned (.bool true) ∧ Below w.heap.size w w' := by
  go_enter Try.func33, Try.ntmps33
  go_wp2
  go_ret
  exact ⟨rfl, (Below.refl _ _).alloc (Nat.le_refl _) _⟩

theorem OwnF.base {w : World} {b b' : Nat} {v : Value} {fs : List Fr} (h : OwnF w b v fs) (hb : b' ≤ b) : OwnF w b' v fs := ⟨own_mono h.1 hb, h.2⟩

set_option maxHeartbeats 1000000 in
theorem waiting_calls {base g : Nat} {v : Value} {s : NetS} (w : World) (N : NetR w base g v s) (hn : s.fs.length ≤ 1099511627776) (hbl : ∀ f ∈ s.fs, f.b.length ≤ 140737488355328) :
    Calls Try.prog 13 #[.pointer (some ⟨g, 0, none⟩)] w fun e w' => (∃ v' fs', e = .returned v' ∧ OwnF w' w.heap.size v' fs' ∧ fs'.map Fr.key = s.fs.map Fr.key) ∧ Below w.heap.size w w' := by
  have hh := some_calls (fun _ => true) 33 #[] w N waiting1_enters (fun W f _ => waiting1_calls f W) hn hbl
  have hfl : s.fs.filter (fun _ => true) = s.fs := List.filter_eq_self.2 (by simp)
  rw [hfl] at hh
  clear N hn hbl hfl
  go_enter Try.func13, Try.ntmps13
  go_wp2_with fail
  refine hh.mono ?_
  rintro e w1 ⟨⟨v', fs', rfl, h1, h2⟩, h3⟩
  go_wp2_with fail
  go_ret
  exact ⟨⟨_, _, rfl, h1, h2⟩, h3⟩
set_option maxHeartbeats 1000000 in
theorem some_nil (f : Value) (w : World) : Calls Try.prog 31 #[.pointer none, f] w fun e w' => e = .returned (.slice none 0 0) ∧ w = w' := by
  go_enter Try.func31, Try.ntmps31
  go_wp2_with fail
  go_step3
  go_wp2_with fail
  rw [Exit.noGoto_ret]
  go_ret
  exact ⟨rfl, rfl⟩
theorem waiting_nil (w : World) : Calls Try.prog 13 #[.pointer none] w fun e w' => e = .returned (.slice none 0 0) ∧ Below w.heap.size w w' := by
  go_enter Try.func13, Try.ntmps13
  go_wp2_with fail
  refine (some_nil _ w).mono ?_
  rintro e w1 ⟨rfl, rfl⟩
  go_wp2_with fail
  go_ret
  exact ⟨rfl, Below.refl _ _⟩
theorem due_nil (to' now : Int) (w : World) : Calls Try.prog 12 #[.pointer none, .int .i64 to', .int .i64 now] w fun e w' => e = .returned (.slice none 0 0) ∧ Below w.heap.size w w' := by
  have HB0 : Aside0 (∀ (w : World) o, Below w.heap.size w (w.alloc o)) := ⟨fun w o => (Below.refl _ _).alloc (Nat.le_refl _) _⟩
  go_enter Try.func12, Try.ntmps12
  go_wp2_with fail
  refine (some_nil _ _).mono ?_
  rintro e w1 ⟨rfl, rfl⟩
  go_wp2_with fail
  go_ret
  exact ⟨rfl, below_step (HB0.out _ _) (HB0.out _ _)⟩

set_option maxHeartbeats 1000000 in
theorem due_calls {base g : Nat} {v : Value} {s : NetS} (to' now : Int) (w : World) (N : NetR w base g v s) (hn : s.fs.length ≤ 1099511627776) (hbl : ∀ f ∈ s.fs, f.b.length ≤ 140737488355328) :
    Calls Try.prog 12 #[.pointer (some ⟨g, 0, none⟩), .int .i64 to', .int .i64 now] w fun e w' => (∃ v' fs', e = .returned v' ∧ OwnF w' w.heap.size v' fs' ∧ fs'.map Fr.key = (s.fs.filter (dueF to' now)).map Fr.key) ∧ Below w.heap.size w w' := by
  have HB0 : Aside0 (∀ (w : World) o, Below w.heap.size w (w.alloc o)) := ⟨fun w o => (Below.refl _ _).alloc (Nat.le_refl _) _⟩
  have hB := below_step (HB0.out w (.cells #[.int .i64 to'] 3)) (HB0.out _ (.cells #[.int .i64 now] 3))
  have hh := some_calls (dueF to' now) 32 #[.pointer (some ⟨w.heap.size, 0, none⟩), .pointer (some ⟨w.heap.size + 1, 0, none⟩)] ((w.alloc (.cells #[.int .i64 to'] 3)).alloc (.cells #[.int .i64 now] 3)) (N.below hB) due1_enters
    (fun W f hW => due1_calls f to' now w.heap.size (w.heap.size + 1) W (cell_keep hW ((blk (heap_old (heap_new rfl))).1 0)) (cell_keep hW ((blk (heap_new (by simp))).1 0))) hn hbl
  have HX := Aside0.mk (show w.heap.size ≤ ((w.alloc (.cells #[.int .i64 to'] 3)).alloc (.cells #[.int .i64 now] 3)).heap.size from by simp; omega)
  have HBX := Aside0.mk hB
  clear N hn hbl hB
  go_enter Try.func12, Try.ntmps12
  go_wp2_with fail
  refine hh.mono ?_
  rintro e w1 ⟨⟨v', fs', rfl, h1, h2⟩, h3⟩
  have H1 := Aside0.mk (show OwnF w1 w.heap.size v' fs' ∧ Below w.heap.size w w1 from ⟨h1.base HX.out, below_step HBX.out h3⟩)
  clear h1 h3
  go_wp2_with fail
  go_ret
  exact ⟨⟨_, _, rfl, H1.out.1, h2⟩, H1.out.2⟩
end Go.Proofs.Ytmpmngfimeojhaa
