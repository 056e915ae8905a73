/-
  A net's Send, Double, New, Lost, on a net and on nothing. No condition but that the net, and the bytes, can be read, and that they are not more than memory.
-/
import Derived.Test.YtmpmngfimeojhaaNetAdds
namespace Go.Proofs.Ytmpmngfimeojhaa
open Go.RowKit Go.Joins
set_option linter.unusedVariables false
set_option linter.unusedSimpArgs false

theorem or6 : ∀ a b c d e f : Bool, (a || b || c || d || e || f) = true → a = true ∨ (a = false ∧ b = true) ∨ (a = false ∧ b = false ∧ c = true) ∨ (a = false ∧ b = false ∧ c = false ∧ d = true) ∨ (a = false ∧ b = false ∧ c = false ∧ d = false ∧ e = true) ∨ (a = false ∧ b = false ∧ c = false ∧ d = false ∧ e = false ∧ f = true) := by decide
/-- A call's bounds are met. -/
def sendOk (to' delay now : Int) : Bool := !(decide (to' < 0) || decide (1 < to') || decide (delay < 0) || decide (1000000 < delay) || decide (now < 0) || decide (1099511627776 < now))

set_option maxHeartbeats 1000000 in
theorem send_bad {v u : Value} (to' delay now : Int) (w : World) (h : sendOk to' delay now = false) :
    Calls Try.prog 8 #[v, .int .i64 to', u, .int .i64 delay, .int .i64 now] w fun e w' => e = .returned (.tuple #[.int .i64 0, .int .i64 1]) ∧ w = w' := by
  unfold sendOk at h
  simp only [Bool.not_eq_false', Bool.or_eq_true, decide_eq_true_eq] at h
  by_cases h1 : to' < 0
  · clear h; go_enter Try.func8, Try.ntmps8
    go_wp2_with fail
    go_ret2
    exact ⟨rfl, rfl⟩
  by_cases h2 : 1 < to'
  · clear h; go_enter Try.func8, Try.ntmps8
    go_wp2_with fail
    go_ret2
    exact ⟨rfl, rfl⟩
  by_cases h3 : delay < 0
  · clear h; go_enter Try.func8, Try.ntmps8
    go_wp2_with fail
    go_ret2
    exact ⟨rfl, rfl⟩
  by_cases h4 : 1000000 < delay
  · clear h; go_enter Try.func8, Try.ntmps8
    go_wp2_with fail
    go_ret2
    exact ⟨rfl, rfl⟩
  by_cases h5 : now < 0
  · clear h; go_enter Try.func8, Try.ntmps8
    go_wp2_with fail
    go_ret2
    exact ⟨rfl, rfl⟩
  have h6 : 1099511627776 < now := by omega
  clear h; go_enter Try.func8, Try.ntmps8
  go_wp2_with fail
  go_ret2
  exact ⟨rfl, rfl⟩

set_option maxHeartbeats 1000000 in
theorem send_nil {u : Value} (to' delay now : Int) (w : World) (h : sendOk to' delay now = true) :
    Calls Try.prog 8 #[.pointer none, .int .i64 to', u, .int .i64 delay, .int .i64 now] w fun e w' => e = .returned (.tuple #[.int .i64 0, .int .i64 5]) ∧ w = w' := by
  unfold sendOk at h
  simp only [Bool.not_eq_true', Bool.or_eq_false_iff, decide_eq_false_iff_not] at h
  obtain ⟨⟨⟨⟨⟨h1, h2⟩, h3⟩, h4⟩, h5⟩, h6⟩ := h
  go_enter Try.func8, Try.ntmps8
  go_wp2_with fail
  go_ret2
  exact ⟨rfl, rfl⟩

set_option maxHeartbeats 1000000 in
theorem send_calls {base g : Nat} {v u : Value} {s : NetS} {b : List UInt8} (to' delay now : Int) (w : World) (N : NetR w base g v s) (hu : Sl bv 5 w base u b) (hl : 0 ≤ s.last ∧ s.last ≤ 1099511627776) (hn : s.fs.length ≤ 1099511627776) (hb : b.length ≤ 140737488355328) (h : sendOk to' delay now = true) :
    Calls Try.prog 8 #[.pointer (some ⟨g, 0, none⟩), .int .i64 to', u, .int .i64 delay, .int .i64 now] w fun e w' => e = .returned (.tuple #[.int .i64 (s.last + 1), .int .i64 0]) ∧ (∃ v' u', NetR w' base g v' ⟨s.last + 1, s.lost, s.fs ++ [⟨s.last + 1, to', now + delay, b, u'⟩]⟩ ∧ ∀ ad n c, u' = .slice (some ad) n c → w.heap.size ≤ ad.block) ∧ Keeps netT base w w' := by
  unfold sendOk at h
  simp only [Bool.not_eq_true', Bool.or_eq_false_iff, decide_eq_false_iff_not] at h
  obtain ⟨⟨⟨⟨⟨h1, h2⟩, h3⟩, h4⟩, h5⟩, h6⟩ := h
  have h1' : 0 ≤ to' := by omega
  have h3' : 0 ≤ delay := by omega
  have h4' : delay ≤ 1000000 := by omega
  have h5' : 0 ≤ now := by omega
  have h6' : now ≤ 1099511627776 := by omega
  have hh := adds_calls 0 to' (now + delay) w N hu hl hn hb
  obtain ⟨Au, cu, rfl, _⟩ := hu
  clear N hl hn hb
  go_enter Try.func8, Try.ntmps8
  go_wp2_with fail
  refine hh.mono ?_
  rintro e w1 ⟨rfl, ⟨v', u', N'⟩, K'⟩
  go_wp2_with fail
  go_ret2
  exact ⟨rfl, ⟨v', u', N'⟩, K'⟩

theorem lost_calls {base g : Nat} {v : Value} {s : NetS} (w : World) (N : NetR w base g v s) :
    Calls Try.prog 14 #[.pointer (some ⟨g, 0, none⟩)] w fun e w' => e = .returned (.int .i64 s.lost) ∧ w = w' := by
  obtain ⟨c0, c1, c2, c3⟩ := N.cells
  clear N
  go_enter Try.func14, Try.ntmps14
  go_wp2_with fail
  go_ret
  exact ⟨rfl, rfl⟩
theorem lost_nil (w : World) : Calls Try.prog 14 #[.pointer none] w fun e w' => e = .returned (.int .i64 0) ∧ w = w' := by
  go_enter Try.func14, Try.ntmps14
  go_wp2_with fail
  go_ret
  exact ⟨rfl, rfl⟩
theorem new_calls (w : World) : Calls Try.prog 7 #[] w fun e w' => e = .returned (.pointer (some ⟨w.heap.size, 0, none⟩)) ∧ NetR w' w.heap.size w.heap.size (.slice none 0 0) ⟨0, 0, []⟩ ∧ Below w.heap.size w w' := by
  go_enter Try.func7, Try.ntmps7
  go_wp2_with fail
  go_ret
  exact ⟨rfl, ⟨Nat.le_refl _, heap_new rfl, World.ownsRow_nil _ _ _ _, fun f hf => by cases hf⟩, (Below.refl _ _).alloc (Nat.le_refl _) _⟩

theorem idxI_cases {α : Type} (p : α → Bool) (xs : List α) : (idxI p xs = -1 ∧ xs.any p = false) ∨ ∃ i : Nat, ∃ hi : i < xs.length, idxI p xs = i ∧ p (xs[i]'hi) = true := by
  unfold idxI
  cases h : xs.any p with
  | false => exact .inl ⟨rfl, rfl⟩
  | true =>
    obtain ⟨x, hx, hp⟩ := List.any_eq_true.1 h
    have hlt := List.findIdx_lt_length_of_exists ⟨x, hx, hp⟩
    exact .inr ⟨_, hlt, rfl, List.findIdx_getElem (w := hlt)⟩

set_option maxHeartbeats 1000000 in
theorem double_bad {base g : Nat} {v : Value} {s : NetS} (id : Int) (w : World) (N : NetR w base g v s) (h : idxI (fun f => f.id == id) s.fs = -1) :
    Calls Try.prog 9 #[.pointer (some ⟨g, 0, none⟩), .int .i64 id] w fun e w' => e = .returned (.tuple #[.int .i64 0, .int .i64 5]) ∧ Below w.heap.size w w' := by
  go_enter Try.func9, Try.ntmps9
  go_wp2_with fail
  refine (find_calls id w N).mono ?_
  rintro e w1 ⟨rfl, hb⟩
  rw [h]
  go_wp2_with fail
  go_ret2
  exact ⟨rfl, hb⟩
set_option maxHeartbeats 1000000 in
theorem double_nil (id : Int) (w : World) :
    Calls Try.prog 9 #[.pointer none, .int .i64 id] w fun e w' => e = .returned (.tuple #[.int .i64 0, .int .i64 5]) ∧ Below w.heap.size w w' := by
  go_enter Try.func9, Try.ntmps9
  go_wp2_with fail
  refine (find_nil id w).mono ?_
  rintro e w1 ⟨rfl, hb⟩
  go_wp2_with fail
  go_ret2
  exact ⟨rfl, hb⟩

set_option maxHeartbeats 1000000 in
theorem double_calls {base g : Nat} {v : Value} {s : NetS} (id : Int) (w : World) (N : NetR w base g v s) (i : Nat) (f : Fr) (hf : s.fs[i]? = some f) (h : idxI (fun f => f.id == id) s.fs = i) (hl : 0 ≤ s.last ∧ s.last ≤ 1099511627776) (hn : s.fs.length ≤ 1099511627776) (hb : f.b.length ≤ 140737488355328) :
    Calls Try.prog 9 #[.pointer (some ⟨g, 0, none⟩), .int .i64 id] w fun e w' => e = .returned (.tuple #[.int .i64 (s.last + 1), .int .i64 0]) ∧ (∃ v' u', NetR w' base g v' ⟨s.last + 1, s.lost, s.fs ++ [⟨s.last + 1, f.whom, f.due, f.b, u'⟩]⟩) ∧ Keeps netT base w w' := by
  have HN := Aside0.mk N
  obtain ⟨hi, hf⟩ := List.getElem?_eq_some_iff.1 hf
  have hx := find_calls id w N
  rw [h] at hx
  clear h N
  go_enter Try.func9, Try.ntmps9
  go_wp2_with fail
  refine hx.mono ?_
  rintro e w1 ⟨rfl, hb1⟩
  have N1 := Aside0.mk (HN.out.below hb1)
  have HB1 := Aside0.mk hb1
  obtain ⟨c0, c1, c2, c3⟩ := N1.out.cells
  obtain ⟨ad, c, rfl, d0, d1, d2, d3⟩ := frame_at (SlC.of_own N1.out.row 0) i hi
  have hbf := Aside0.mk (N1.out.bytes _ (List.getElem_mem hi))
  rw [hf] at d0 d1 d2 d3 hbf
  clear hb1 hf
  have hii : (i : Int) < (s.fs.length : Int) := by omega
  have hh := adds_calls f.id f.whom f.due w1 N1.out hbf.out hl hn hb
  clear hl hn hb hx
  go_wp2_with fail
  refine hh.mono ?_
  rintro e w2 ⟨rfl, ⟨v', u', N', _⟩, K'⟩
  go_wp2_with fail
  go_ret2
  exact ⟨rfl, ⟨v', u', N'⟩, (Keeps.of_below HB1.out).trans K'⟩
end Go.Proofs.Ytmpmngfimeojhaa
