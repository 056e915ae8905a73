/-
  path's functions: Hidden, Parts, Parent, Name, Join, Under. No condition but lengths.
-/
import Derived.Test.YtkalfkgnjmkjgaaDoorPathFns
namespace Go.Proofs.YtkalfkgnjmkjgaaDoor
open Go.RowKit
set_option linter.unusedVariables false
set_option linter.unusedSimpArgs false

theorem str_of (s : ByteArray) : str s.data.toList = s := by rw [← toList_eq, str_of_toList]
theorem last_split (s : List UInt8) : (lastI s 47 s.length = -1 ∧ splitP s = [s]) ∨ (∃ k : Nat, lastI s 47 s.length = k ∧ k < s.length ∧ splitP s = splitP (s.take k) ++ [s.drop (k + 1)]) := by
  by_cases h : lastI s 47 s.length = -1
  · refine .inl ⟨h, splitP_no fun hm => ?_⟩
    obtain ⟨j, hj, he⟩ := List.getElem_of_mem hm
    exact lastI_none s 47 _ h j hj (by rw [List.getD_eq_getElem?_getD, List.getElem?_eq_getElem hj]; exact he)
  · obtain ⟨k, h1, h2, h3, h4⟩ := lastI_some s 47 _ h
    refine .inr ⟨k, h2, h1, ?_⟩
    have e : s = s.take k ++ 47 :: s.drop (k + 1) := by
      have := List.take_append_drop k s
      rw [List.drop_eq_getElem_cons h1] at this
      rw [List.getD_eq_getElem?_getD, List.getElem?_eq_getElem h1] at h3
      simp only [Option.getD_some] at h3
      rw [h3] at this
      exact this.symm
    have hn : 47 ∉ s.drop (k + 1) := by
      intro hm
      obtain ⟨j, hj, he⟩ := List.getElem_of_mem hm
      rw [List.length_drop] at hj
      refine h4 (k + 1 + j) (by omega) (by omega) ?_
      rw [List.getElem_drop] at he
      rw [List.getD_eq_getElem?_getD, List.getElem?_eq_getElem (by omega)]
      exact he
    have := splitP_app (s.take k) (s.drop (k + 1))
    rw [← e, splitP_no hn] at this
    exact this
theorem parent_none {s : List UInt8} (h : lastI s 47 s.length = -1) : parentL s = [] := by
  unfold parentL
  split
  · rcases last_split s with ⟨_, h2⟩ | ⟨k, h2, _⟩
    · rw [h2]; rfl
    · omega
  · rfl
theorem parent_some {s : List UInt8} {k : Nat} (h : lastI s 47 s.length = k) (hv : validB s = true) : parentL s = s.take k := by
  rw [parentL, if_pos hv]
  rcases last_split s with ⟨h1, _⟩ | ⟨j, h1, _, h2⟩
  · omega
  · have : j = k := by omega
    subst this
    rw [h2, List.dropLast_concat, join_split]
theorem name_some {s : List UInt8} (hv : validB s = true) : nameL s = s.drop (lastI s 47 s.length + 1).toNat := by
  rw [nameL, if_pos hv]
  rcases last_split s with ⟨h1, h2⟩ | ⟨j, h1, _, h2⟩
  · rw [h1, h2]; rfl
  · rw [h1, h2]
    have : ((j : Int) + 1).toNat = j + 1 := by omega
    rw [this]; simp [List.getLastD_eq_getLast?]
theorem lastI_lt (s : List UInt8) (c : UInt8) : ∀ k, -1 ≤ lastI s c k ∧ lastI s c k < k
  | 0 => by simp [lastI]
  | k + 1 => by
    have := lastI_lt s c k
    rw [lastI]; split <;> omega

set_option maxHeartbeats 1000000 in
theorem parent_calls (s : ByteArray) (w : World) (hs : s.size ≤ 1000000000) : Calls Tryd.prog 30 #[.string s] w fun e w' => e = .returned (.string (str (parentL s.data.toList))) ∧ Below w.heap.size w w' := by
  have hl := lastI_lt s.data.toList 47 s.size
  have HPN := Aside0.mk (parent_none (s := s.data.toList))
  have HPS := Aside0.mk (fun k => parent_some (s := s.data.toList) (k := k))
  rw [len_data] at HPN HPS
  obtain ⟨i, hi⟩ : ∃ i, i = lastI s.data.toList 47 s.size := ⟨_, rfl⟩
  rw [← hi] at hl HPN HPS
  have HI := Aside0.mk hi
  clear hi
  obtain ⟨hl1, hl2⟩ := hl
  rcases hv : validB s.data.toList with _ | _
  · have HE : Aside0 (parentL s.data.toList = []) := ⟨by rw [parentL, hv]; rfl⟩
    have HV := Aside0.mk hv
    clear hv
    by_cases h0 : 0 ≤ i
    · have d1 : decide (0 ≤ i) = true := decide_eq_true h0
      go_enter Tryd.func30, Tryd.ntmps30
      go_wp2_with fail
      refine (lastindex_one s 47 w (by omega)).mono ?_
      rintro e w' ⟨rfl, rfl⟩
      rw [← HI.out]
      go_wp2_with fail
      refine (valid_calls s w hs).mono ?_
      rintro e w1 ⟨rfl, hb⟩
      rw [HV.out]
      have HB := Aside0.mk hb
      clear hb
      go_wp2_with fail
      go_ret
      exact ⟨by rw [HE.out]; rfl, HB.out⟩
    · have d1 : decide (0 ≤ i) = false := decide_eq_false h0
      go_enter Tryd.func30, Tryd.ntmps30
      go_wp2_with fail
      refine (lastindex_one s 47 w (by omega)).mono ?_
      rintro e w' ⟨rfl, rfl⟩
      rw [← HI.out]
      go_wp2_with fail
      go_ret
      exact ⟨by rw [HE.out]; rfl, Below.refl _ _⟩
  · have HV := Aside0.mk hv
    clear hv
    by_cases h0 : 0 ≤ i
    · have d1 : decide (0 ≤ i) = true := decide_eq_true h0
      obtain ⟨k, rfl⟩ : ∃ k : Nat, i = (k : Int) := ⟨i.toNat, by omega⟩
      have hk : k ≤ s.size := by omega
      have HE : Aside0 (.string (s.extract 0 k) = Value.string (str (parentL s.data.toList))) := ⟨by rw [HPS.out k rfl HV.out, ext_str]; simp⟩
      go_enter Tryd.func30, Tryd.ntmps30
      go_wp2_with fail
      refine (lastindex_one s 47 w (by omega)).mono ?_
      rintro e w' ⟨rfl, rfl⟩
      rw [← HI.out]
      go_wp2_with fail
      refine (valid_calls s w hs).mono ?_
      rintro e w1 ⟨rfl, hb⟩
      rw [HV.out]
      have HB := Aside0.mk hb
      clear hb
      go_wp2_with fail
      go_ret
      exact ⟨ret_v HE.out, HB.out⟩
    · have d1 : decide (0 ≤ i) = false := decide_eq_false h0
      have HE : Aside0 (parentL s.data.toList = []) := ⟨HPN.out (by omega)⟩
      go_enter Tryd.func30, Tryd.ntmps30
      go_wp2_with fail
      refine (lastindex_one s 47 w (by omega)).mono ?_
      rintro e w' ⟨rfl, rfl⟩
      rw [← HI.out]
      go_wp2_with fail
      go_ret
      exact ⟨by rw [HE.out]; rfl, Below.refl _ _⟩

set_option maxHeartbeats 1000000 in
theorem name_calls (s : ByteArray) (w : World) (hs : s.size ≤ 1000000000) : Calls Tryd.prog 42 #[.string s] w fun e w' => e = .returned (.string (str (nameL s.data.toList))) ∧ Below w.heap.size w w' := by
  have hl := lastI_lt s.data.toList 47 s.size
  have HNS := Aside0.mk (name_some (s := s.data.toList))
  rw [len_data] at HNS
  obtain ⟨i, hi⟩ : ∃ i, i = lastI s.data.toList 47 s.size := ⟨_, rfl⟩
  rw [← hi] at hl HNS
  have HI := Aside0.mk hi
  clear hi
  obtain ⟨hl1, hl2⟩ := hl
  rcases hv : validB s.data.toList with _ | _
  · have HE : Aside0 (nameL s.data.toList = []) := ⟨by rw [nameL, hv]; rfl⟩
    have HV := Aside0.mk hv
    clear hv
    go_enter Tryd.func42, Tryd.ntmps42
    go_wp2_with fail
    refine (valid_calls s w hs).mono ?_
    rintro e w1 ⟨rfl, hb⟩
    rw [HV.out]
    have HB := Aside0.mk hb
    clear hb
    go_wp2_with fail
    go_ret
    exact ⟨by rw [HE.out]; rfl, HB.out⟩
  · have HV := Aside0.mk hv
    clear hv
    obtain ⟨k, hk⟩ : ∃ k : Nat, i + 1 = (k : Int) := ⟨(i + 1).toNat, by omega⟩
    obtain rfl : i = (k : Int) - 1 := by omega
    have hk2 : k ≤ s.size := by omega
    have z1 : (k : Int) - 1 + 1 = (k : Int) := by omega
    have HE : Aside0 (.string (s.extract k s.size) = Value.string (str (nameL s.data.toList))) := ⟨by
      rw [HNS.out HV.out, z1, ext_str, Int.toNat_natCast, List.take_of_length_le (by rw [List.length_drop, len_data]; omega)]⟩
    clear hk
    go_enter Tryd.func42, Tryd.ntmps42
    go_wp2_with fail
    refine (valid_calls s w hs).mono ?_
    rintro e w1 ⟨rfl, hb⟩
    rw [HV.out]
    have HB := Aside0.mk hb
    clear hb
    go_wp2_with fail
    refine (lastindex_one s 47 w1 (by omega)).mono ?_
    rintro e w' ⟨rfl, rfl⟩
    rw [← HI.out]
    go_wp2_with fail
    go_ret
    exact ⟨ret_v HE.out, HB.out⟩
end Go.Proofs.YtkalfkgnjmkjgaaDoor
