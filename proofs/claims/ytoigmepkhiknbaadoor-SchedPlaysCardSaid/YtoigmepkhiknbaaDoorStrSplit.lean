/-
  strings.Split at a slash. No condition but the length.
-/
import Derived.Test.YtoigmepkhiknbaaDoorStrLib
import Derived.ChangeAlike
namespace Go.Proofs.YtoigmepkhiknbaaDoor
open Go.RowKit
set_option linter.unusedVariables false
set_option linter.unusedSimpArgs false

/-- A text's value, by its bytes. -/
def tv (x : List UInt8) : Value := .string (str x)
/-- A slice of texts that reads. -/
def SlS (w : World) (base : Nat) (v : Value) (l : List (List UInt8)) : Prop := Sl tv 9 w base v l
theorem info_str : (Tryd.prog.info? 9).map (fun i => (i.zero, i.size, i.bytes)) = some (some (.string ⟨#[]⟩), 1, 16) := by kernel_rfl
theorem ext_str (s : ByteArray) (a b : Nat) : s.extract a b = str ((s.data.toList.drop a).take (b - a)) := by
  rw [← ext_list, ← toList_eq, str_of_toList]
theorem str_data (x : List UInt8) : (str x).data.toList = x := by rw [← toList_eq, str_toList]
theorem index_some : ∀ (l : List UInt8) (c : UInt8), 0 < l.count c → ∃ m : Nat, Lib.indexByte l c = m ∧ m < l.length ∧ l = l.take m ++ c :: l.drop (m + 1) ∧ c ∉ l.take m
  | [], c, h => by simp at h
  | b :: l, c, h => by
    by_cases hb : b = c
    · subst hb
      exact ⟨0, by simp [Lib.indexByte], by simp, by simp, by simp⟩
    · have h' : 0 < l.count c := by rw [List.count_cons_of_ne hb] at h; exact h
      obtain ⟨m, h1, h2, h3, h4⟩ := index_some l c h'
      refine ⟨m + 1, ?_, by simp; omega, ?_, ?_⟩
      · rw [Lib.indexByte, h1]
        have : (b == c) = false := by simpa using hb
        rw [this]
        have h5 : ((m : Int) == -1) = false := by rw [beq_eq_false_iff_ne]; omega
        simp only [Bool.false_eq_true, if_false, h5]
        omega
      · simp only [List.take_succ_cons, List.drop_succ_cons, List.cons_append]
        rw [← h3]
      · simp only [List.take_succ_cons, List.mem_cons, not_or]
        exact ⟨fun e => hb e.symm, h4⟩
theorem arr_put {w : World} {g e i : Nat} {cur : Array Value} {fr : Nat × Nat} {u : Value} (h : w.heap[g]? = some (.cells cur e fr)) : (w.setCell ⟨g, i, none⟩ u).heap[g]? = some (.cells (cur.setIfInBounds i u) e fr) := by
  simp [World.setCell, Array.getElem?_modify, h]
/-- The row while it is filled. -/
def fillL (done : List (List UInt8)) (n : Nat) : List Value := done.map tv ++ List.replicate n (.string ⟨#[]⟩)
theorem fill_set (done : List (List UInt8)) (n : Nat) (x : List UInt8) : (fillL done (n + 1)).toArray.setIfInBounds done.length (tv x) = (fillL (done ++ [x]) n).toArray := by
  apply Array.toList_inj.1
  rw [Array.toList_setIfInBounds]
  show (fillL done (n + 1)).set done.length (tv x) = fillL (done ++ [x]) n
  unfold fillL
  rw [List.set_append_right _ _ (by simp)]
  simp [List.replicate_succ]
theorem fill_at (done : List (List UInt8)) (n : Nat) : (fillL done (n + 1)).toArray[done.length]? = some (.string ⟨#[]⟩) := by
  simp [fillL, List.getElem?_append_right, List.replicate_succ]
/-- Where the loop stands. -/
def SplS (w wr : World) (g C : Nat) (s t : ByteArray) (i : Nat) : Prop :=
  ∃ done : List (List UInt8), done.length = i ∧ splitP s.data.toList = done ++ splitP t.data.toList ∧ t.data.toList.count 47 + i = C ∧ wr.heap[g]? = some (.cells (fillL done (C + 1 - i)).toArray 9 (0, 0)) ∧ Below w.heap.size w wr
theorem splitP_zero {s : List UInt8} (h : s.count 47 = 0) : splitP s = [s] := splitP_no (fun hm => by have := List.count_pos_iff.2 hm; omega)

set_option maxRecDepth 10000 in
set_option maxHeartbeats 4000000 in
theorem gsplit_calls (s : ByteArray) (w : World) (hs : s.size ≤ 1000000000) :
    Calls Tryd.prog 44 #[.string s, .string ⟨#[47]⟩, .int .i64 0, .int .i64 (-1)] w fun e w' => ∃ v, e = .returned v ∧ SlS w' 0 v (splitP s.data.toList) ∧ (∃ g n c, v = .slice (some ⟨g, 0, none⟩) n c) ∧ Below w.heap.size w w' := by
  have hcl : s.data.toList.count 47 ≤ s.size := by have := List.count_le_length (a := (47 : UInt8)) (l := s.data.toList); rwa [Array.length_toList] at this
  obtain ⟨C, hC⟩ : ∃ C, C = s.data.toList.count 47 := ⟨_, rfl⟩
  rw [← hC] at hcl
  have HC := Aside0.mk hC
  clear hC
  obtain ⟨i0, hi, hz0, hz1, hz2⟩ := info_parts info_str
  have hmin : min (C : Int) (s.size : Int) = (C : Int) := by omega
  go_enter Tryd.func44, Tryd.ntmps44
  go_wp2_with fail
  refine (count_one s 47 w).mono ?_
  rintro e w' ⟨rfl, rfl⟩
  rw [← HC.out]
  go_wp2_with (at_make; go_must (refine wpList_make_full _ rfl _ _ 26 rfl w.heap.size 9 i0 _ 1 Tryd.underlying26 hi hz0 hz1 _ _ _ _ (C + 1) rfl rfl rfl rfl (by rw [hz2]; omega) (by simp only [maxLen]; omega) (Nat.le_refl _) ?_); intro w1 hown hgrow)
  have H0 := Aside0.mk (show SplS w w1 w.heap.size C s s 0 from by
    refine ⟨[], rfl, rfl, HC.out.symm, ?_, below_none hgrow⟩
    rcases hown.2 with ⟨h, _⟩ | ⟨g, cap, cur, h1, h2, h3, h4, h5, h6, h7⟩
    · cases h
    · cases h1
      rw [h3]
      congr 2
      apply Array.toList_inj.1
      have hl : cur.toList.length = C + 1 := by rw [Array.length_toList]; simpa using h6
      rw [List.take_of_length_le (by omega)] at h7
      rw [h7]
      apply List.ext_getElem
      · simp [madeCells, fillL]
      · intro i h1 h2
        simp [madeCells, fillL, Nat.mod_one, Value.cells])
  clear hown hgrow
  go_loopw [0, 10] (fun t i wr => ∃ (j : Nat) (u : ByteArray), t = .string u ∧ i = .int .i64 j ∧ j ≤ C ∧ u.size ≤ 1000000000 ∧ Aside0 (SplS w wr w.heap.size C s u j)) (fun t i wr => C - (intOf i).toNat)
  case atStart => exact ⟨0, s, rfl, rfl, Nat.zero_le _, hs, H0⟩
  case round =>
    obtain ⟨j, u, rfl, rfl, hj, hu, hs2⟩ := hrel
    clear H0
    have hu' : u.size ≤ 9223372036854775807 := by omega
    obtain ⟨done, hd1, hd2, hd3, hd4, hd5⟩ := hs2.out
    have HD := Aside0.mk (And.intro hd2 (And.intro hd3 hd5))
    by_cases hlt : j < C
    · obtain ⟨m, hm1, hm2, hm3, hm4⟩ := index_some u.data.toList 47 (by omega)
      rw [Array.length_toList] at hm2
      have HM := Aside0.mk (And.intro hm3 hm4)
      rw [show C + 1 - j = (C - j) + 1 by omega] at hd4
      have hc1 := (blk hd4).1 j
      have hf1 := (blk hd4).2 j
      rw [← hd1, fill_at, hd1] at hc1
      have HH := Aside0.mk (And.intro hd1 hd4)
      have hm5 : m < u.size := hm2
      have HI := Aside0.mk hm1
      have z1 : (j : Int) < C := by omega
      clear hd1 hd2 hd3 hd4 hd5 hs2 hm1 hm2 hm3 hm4
      go_wp2_with fail
      refine (index_one u 47 wr).mono ?_
      rintro e w' ⟨rfl, rfl⟩
      rw [HI.out]
      have H3 := Aside0.mk (show SplS w (wr.setCell ⟨w.heap.size, j, none⟩ (.string (u.extract 0 m))) w.heap.size C s (u.extract (m + 1) u.size) (j + 1) from by
        obtain ⟨hm3, hm4⟩ := HM.out
        obtain ⟨h2, h3, h5⟩ := HD.out
        obtain ⟨h1, h4⟩ := HH.out
        have e1 : u.extract 0 m = str (u.data.toList.take m) := by rw [ext_str]; simp
        have hul : u.data.toList.length = u.size := by rw [Array.length_toList]; rfl
        have e2 : (u.extract (m + 1) u.size).data.toList = u.data.toList.drop (m + 1) := by
          rw [ext_list, List.take_of_length_le (by rw [List.length_drop]; omega)]
        have e3 : splitP u.data.toList = [u.data.toList.take m] ++ splitP (u.data.toList.drop (m + 1)) := by
          have := splitP_app (u.data.toList.take m) (u.data.toList.drop (m + 1))
          rw [← hm3] at this
          rw [this, splitP_no hm4]
        have e4 : u.data.toList.count 47 = 1 + (u.data.toList.drop (m + 1)).count 47 := by
          have := congrArg (List.count 47) hm3
          rw [List.count_append, List.count_eq_zero.2 hm4, List.count_cons_self] at this
          omega
        refine ⟨done ++ [u.data.toList.take m], by simp [h1], ?_, ?_, ?_, h5.setCell (Nat.le_refl _) _⟩
        · rw [h2, e3, e2]; simp
        · rw [e2]; omega
        · have := arr_put (i := j) (u := .string (u.extract 0 m)) h4
          rw [this, show C + 1 - (j + 1) = C - j by omega, e1]
          have h6 := fill_set done (C - j) (u.data.toList.take m)
          rw [h1] at h6
          unfold tv at h6
          rw [h6])
      have hsz : (u.extract (m + 1) u.size).size ≤ 1000000000 := by rw [ByteArray.size_extract]; omega
      clear HM HD HH
      go_wp2_with fail
      go_roundw
      case rel => exact ⟨j + 1, _, rfl, by go_num, by omega, hsz, H3⟩
      case measure => simp [intOf]; omega
    · have hjC : j = C := by omega
      subst hjC
      have e0 : u.data.toList.count 47 = 0 := by omega
      rw [show j + 1 - j = 0 + 1 by omega] at hd4
      have hc1 := (blk hd4).1 j
      have hf1 := (blk hd4).2 j
      rw [← hd1, fill_at, hd1] at hc1
      have H3 := Aside0.mk (show SlS (wr.setCell ⟨w.heap.size, j, none⟩ (.string u)) 0 (.slice (some ⟨w.heap.size, 0, none⟩) (j + 1) (j + 1)) (splitP s.data.toList) ∧ Below w.heap.size w (wr.setCell ⟨w.heap.size, j, none⟩ (.string u)) from by
        obtain ⟨h2, h3, h5⟩ := HD.out
        refine ⟨?_, h5.setCell (Nat.le_refl _) _⟩
        rw [h2, splitP_zero e0]
        have h4 := arr_put (i := j) (u := .string u) hd4
        have h6 := fill_set done 0 u.data.toList
        rw [hd1] at h6
        unfold tv at h6
        rw [show str u.data.toList = u by rw [← toList_eq, str_of_toList]] at h6
        rw [h6] at h4
        refine Sl.at h4 ?_ (by simp [hd1]) (Nat.le_refl _) (by omega)
        rw [List.take_of_length_le (by simp [fillL])]
        simp [fillL])
      clear hd1 hd2 hd3 hd4 hd5 hs2 HD
      go_wp2_with fail
      go_ret
      exact ⟨_, rfl, H3.out.1, ⟨_, _, _, rfl⟩, H3.out.2⟩

theorem split_calls (s : ByteArray) (w : World) (hs : s.size ≤ 1000000000) :
    Calls Tryd.prog 34 #[.string s, .string ⟨#[47]⟩] w fun e w' => ∃ v, e = .returned v ∧ SlS w' 0 v (splitP s.data.toList) ∧ (∃ g n c, v = .slice (some ⟨g, 0, none⟩) n c) ∧ Below w.heap.size w w' := by
  go_enter Tryd.func34, Tryd.ntmps34
  go_wp2_with fail
  refine (gsplit_calls s w hs).mono ?_
  rintro e w1 ⟨v, rfl, hsl, hv, hb⟩
  have H := Aside0.mk (And.intro hsl (And.intro hv hb))
  clear hsl hv hb
  go_wp2_with fail
  go_ret
  exact ⟨_, rfl, H.out⟩
end Go.Proofs.YtoigmepkhiknbaaDoor
