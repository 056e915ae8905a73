/-
  path's functions: Hidden, Parts, Parent, Name, Join, Under. No condition but lengths.
-/
import Derived.Test.YtoigmepkhiknbaaDoorPathFns
namespace Go.Proofs.YtoigmepkhiknbaaDoor
open Go.RowKit
set_option linter.unusedVariables false
set_option linter.unusedSimpArgs false

theorem str_of (s : ByteArray) : str s.data.toList = s := by rw [← toList_eq, str_of_toList]
theorem last_split (s : List UInt8) : (lastI s 47 s.length = -1 ∧ splitP s = [s]) ∨ (∃ k : Nat, lastI s 47 s.length = k ∧ k < s.length ∧ splitP s = splitP (s.take k) ++ [s.drop (k + 1)]) := by
  by_cases h : lastI s 47 s.length = -1
  · refine .inl ⟨h, splitP_no fun hm => ?_⟩
    obtain ⟨j, hj, he⟩ := List.getElem_of_mem hm
    exact lastI_none s 47 _ h j hj (by rw [List.getD_eq_getElem?_getD, List.getElem?_eq_getElem hj]; exact he)
  · obtain ⟨k, h1, h2, h3, h4⟩ := lastI_some s 47 _ h
    refine .inr ⟨k, h2, h1, ?_⟩
    have e : s = s.take k ++ 47 :: s.drop (k + 1) := by
      have := List.take_append_drop k s
      rw [List.drop_eq_getElem_cons h1] at this
      rw [List.getD_eq_getElem?_getD, List.getElem?_eq_getElem h1] at h3
      simp only [Option.getD_some] at h3
      rw [h3] at this
      exact this.symm
    have hn : 47 ∉ s.drop (k + 1) := by
      intro hm
      obtain ⟨j, hj, he⟩ := List.getElem_of_mem hm
      rw [List.length_drop] at hj
      refine h4 (k + 1 + j) (by omega) (by omega) ?_
      rw [List.getElem_drop] at he
      rw [List.getD_eq_getElem?_getD, List.getElem?_eq_getElem (by omega)]
      exact he
    have := splitP_app (s.take k) (s.drop (k + 1))
    rw [← e, splitP_no hn] at this
    exact this
theorem parent_none {s : List UInt8} (h : lastI s 47 s.length = -1) : parentL s = [] := by
  unfold parentL
  split
  · rcases last_split s with ⟨_, h2⟩ | ⟨k, h2, _⟩
    · rw [h2]; rfl
    · omega
  · rfl
theorem parent_some {s : List UInt8} {k : Nat} (h : lastI s 47 s.length = k) (hv : validB s = true) : parentL s = s.take k := by
  rw [parentL, if_pos hv]
  rcases last_split s with ⟨h1, _⟩ | ⟨j, h1, _, h2⟩
  · omega
  · have : j = k := by omega
    subst this
    rw [h2, List.dropLast_concat, join_split]
theorem name_some {s : List UInt8} (hv : validB s = true) : nameL s = s.drop (lastI s 47 s.length + 1).toNat := by
  rw [nameL, if_pos hv]
  rcases last_split s with ⟨h1, h2⟩ | ⟨j, h1, _, h2⟩
  · rw [h1, h2]; rfl
  · rw [h1, h2]
    have : ((j : Int) + 1).toNat = j + 1 := by omega
    rw [this]; simp [List.getLastD_eq_getLast?]
theorem lastI_lt (s : List UInt8) (c : UInt8) : ∀ k, -1 ≤ lastI s c k ∧ lastI s c k < k
  | 0 => by simp [lastI]
  | k + 1 => by
    have := lastI_lt s c k
    rw [lastI]; split <;> omega

set_option maxHeartbeats 1000000 in
theorem parts_no (s : ByteArray) (w : World) (hs : s.size ≤ 1000000000) (hv : validB s.data.toList = false) : Calls Tryd.prog 41 #[.string s] w fun e w' => e = .returned (.slice none 0 0) ∧ Below w.heap.size w w' := by
  have HV := Aside0.mk hv
  clear hv
  go_enter Tryd.func41, Tryd.ntmps41
  go_wp2_with fail
  refine (valid_calls s w hs).mono ?_
  rintro e w1 ⟨rfl, hb⟩
  rw [HV.out]
  have HB := Aside0.mk hb
  clear hb
  go_wp2_with fail
  go_ret
  exact ⟨rfl, HB.out⟩
set_option maxHeartbeats 1000000 in
theorem parts_yes (s : ByteArray) (w : World) (hs : s.size ≤ 1000000000) (hv : validB s.data.toList = true) : Calls Tryd.prog 41 #[.string s] w fun e w' => ∃ v, e = .returned v ∧ SlS w' 0 v (splitP s.data.toList) ∧ (∃ g n c, v = .slice (some ⟨g, 0, none⟩) n c) ∧ Below w.heap.size w w' := by
  have HV := Aside0.mk hv
  clear hv
  go_enter Tryd.func41, Tryd.ntmps41
  go_wp2_with fail
  refine (valid_calls s w hs).mono ?_
  rintro e w1 ⟨rfl, hb⟩
  rw [HV.out]
  have HB := Aside0.mk hb
  clear hb
  go_wp2_with fail
  refine (split_calls s w1 hs).mono ?_
  rintro e w2 ⟨v, rfl, hsl, hv, hb2⟩
  have H := Aside0.mk (And.intro hsl (And.intro hv (below_step HB.out hb2)))
  clear hsl hv hb2
  go_wp2_with fail
  go_ret
  exact ⟨_, rfl, H.out.1, H.out.2⟩

end Go.Proofs.YtoigmepkhiknbaaDoor
