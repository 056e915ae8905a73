/-
  path's functions: letter, part, Valid, Hidden, Parts, Parent, Name, Join, Under, Compare, Less. No condition but lengths.
-/
import Derived.Test.YtoigmepkhiknbaaDoorStrSplit
import Derived.Test.YtoigmepkhiknbaaDoorPathLaws
import Derived.Lib.ConvBytes
import Derived.Lib.AppendZeros
namespace Go.Proofs.YtoigmepkhiknbaaDoor
open Go.RowKit
set_option linter.unusedVariables false
set_option linter.unusedSimpArgs false

theorem let_cases (n : Nat) : (n < 45) ∨ (n = 45) ∨ (n = 46) ∨ (n = 47) ∨ (48 ≤ n ∧ n ≤ 57) ∨ (58 ≤ n ∧ n ≤ 94) ∨ (n = 95) ∨ (n = 96) ∨ (97 ≤ n ∧ n ≤ 122) ∨ (122 < n) := by omega
set_option maxHeartbeats 1000000 in
theorem letter_calls (c : UInt8) (w : World) : Calls Tryd.prog 45 #[.int .u8 (c.toNat : Int)] w fun e w' => e = .returned (.bool (letB c)) ∧ w = w' := by
  have hlt := c.toNat_lt
  have HL : Aside0 (letB c = ((decide (97 ≤ c.toNat) && decide (c.toNat ≤ 122)) || ((decide (48 ≤ c.toNat) && decide (c.toNat ≤ 57)) || (decide (c.toNat = 46) || (decide (c.toNat = 45) || decide (c.toNat = 95)))))) := ⟨rfl⟩
  rw [HL.out]
  obtain ⟨n, hn⟩ : ∃ n, n = c.toNat := ⟨_, rfl⟩
  rw [← hn] at hlt ⊢
  clear hn HL
  rcases let_cases n with h | h | h | h | h | h | h | h | h | h
  · have g : ((decide (97 ≤ n) && decide (n ≤ 122)) || ((decide (48 ≤ n) && decide (n ≤ 57)) || (decide (n = 46) || (decide (n = 45) || decide (n = 95))))) = false := by
      rw [decide_eq_false (show ¬ (97 ≤ n) by omega), decide_eq_true (show (n ≤ 122) by omega), decide_eq_false (show ¬ (48 ≤ n) by omega), decide_eq_true (show (n ≤ 57) by omega), decide_eq_false (show ¬ (n = 46) by omega), decide_eq_false (show ¬ (n = 45) by omega), decide_eq_false (show ¬ (n = 95) by omega)]; rfl
    rw [g]
    have d0 : decide (97 ≤ (n : Int)) = false := decide_eq_false (by omega)
    have d0' : decide (97 ≤ n) = false := decide_eq_false (by omega)
    have d1 : decide ((n : Int) ≤ 122) = true := decide_eq_true (by omega)
    have d1' : decide (n ≤ 122) = true := decide_eq_true (by omega)
    have d2 : decide (48 ≤ (n : Int)) = false := decide_eq_false (by omega)
    have d2' : decide (48 ≤ n) = false := decide_eq_false (by omega)
    have d3 : decide ((n : Int) ≤ 57) = true := decide_eq_true (by omega)
    have d3' : decide (n ≤ 57) = true := decide_eq_true (by omega)
    have d4 : ((n : Int) == 46) = false := by rw [beq_eq_false_iff_ne]; omega
    have d5 : ((n : Int) == 45) = false := by rw [beq_eq_false_iff_ne]; omega
    have d6 : ((n : Int) == 95) = false := by rw [beq_eq_false_iff_ne]; omega
    clear h g
    go_enter Tryd.func45, Tryd.ntmps45
    go_wp2
    go_ret
    exact ⟨rfl, rfl⟩
  · have g : ((decide (97 ≤ n) && decide (n ≤ 122)) || ((decide (48 ≤ n) && decide (n ≤ 57)) || (decide (n = 46) || (decide (n = 45) || decide (n = 95))))) = true := by
      rw [decide_eq_false (show ¬ (97 ≤ n) by omega), decide_eq_true (show (n ≤ 122) by omega), decide_eq_false (show ¬ (48 ≤ n) by omega), decide_eq_true (show (n ≤ 57) by omega), decide_eq_false (show ¬ (n = 46) by omega), decide_eq_true (show (n = 45) by omega), decide_eq_false (show ¬ (n = 95) by omega)]; rfl
    rw [g]
    have d0 : decide (97 ≤ (n : Int)) = false := decide_eq_false (by omega)
    have d0' : decide (97 ≤ n) = false := decide_eq_false (by omega)
    have d1 : decide ((n : Int) ≤ 122) = true := decide_eq_true (by omega)
    have d1' : decide (n ≤ 122) = true := decide_eq_true (by omega)
    have d2 : decide (48 ≤ (n : Int)) = false := decide_eq_false (by omega)
    have d2' : decide (48 ≤ n) = false := decide_eq_false (by omega)
    have d3 : decide ((n : Int) ≤ 57) = true := decide_eq_true (by omega)
    have d3' : decide (n ≤ 57) = true := decide_eq_true (by omega)
    have d4 : ((n : Int) == 46) = false := by rw [beq_eq_false_iff_ne]; omega
    have d5 : ((n : Int) == 45) = true := by rw [beq_iff_eq]; omega
    have d6 : ((n : Int) == 95) = false := by rw [beq_eq_false_iff_ne]; omega
    clear h g
    go_enter Tryd.func45, Tryd.ntmps45
    go_wp2
    go_ret
    exact ⟨rfl, rfl⟩
  · have g : ((decide (97 ≤ n) && decide (n ≤ 122)) || ((decide (48 ≤ n) && decide (n ≤ 57)) || (decide (n = 46) || (decide (n = 45) || decide (n = 95))))) = true := by
      rw [decide_eq_false (show ¬ (97 ≤ n) by omega), decide_eq_true (show (n ≤ 122) by omega), decide_eq_false (show ¬ (48 ≤ n) by omega), decide_eq_true (show (n ≤ 57) by omega), decide_eq_true (show (n = 46) by omega), decide_eq_false (show ¬ (n = 45) by omega), decide_eq_false (show ¬ (n = 95) by omega)]; rfl
    rw [g]
    have d0 : decide (97 ≤ (n : Int)) = false := decide_eq_false (by omega)
    have d0' : decide (97 ≤ n) = false := decide_eq_false (by omega)
    have d1 : decide ((n : Int) ≤ 122) = true := decide_eq_true (by omega)
    have d1' : decide (n ≤ 122) = true := decide_eq_true (by omega)
    have d2 : decide (48 ≤ (n : Int)) = false := decide_eq_false (by omega)
    have d2' : decide (48 ≤ n) = false := decide_eq_false (by omega)
    have d3 : decide ((n : Int) ≤ 57) = true := decide_eq_true (by omega)
    have d3' : decide (n ≤ 57) = true := decide_eq_true (by omega)
    have d4 : ((n : Int) == 46) = true := by rw [beq_iff_eq]; omega
    have d5 : ((n : Int) == 45) = false := by rw [beq_eq_false_iff_ne]; omega
    have d6 : ((n : Int) == 95) = false := by rw [beq_eq_false_iff_ne]; omega
    clear h g
    go_enter Tryd.func45, Tryd.ntmps45
    go_wp2
    go_ret
    exact ⟨rfl, rfl⟩
  · have g : ((decide (97 ≤ n) && decide (n ≤ 122)) || ((decide (48 ≤ n) && decide (n ≤ 57)) || (decide (n = 46) || (decide (n = 45) || decide (n = 95))))) = false := by
      rw [decide_eq_false (show ¬ (97 ≤ n) by omega), decide_eq_true (show (n ≤ 122) by omega), decide_eq_false (show ¬ (48 ≤ n) by omega), decide_eq_true (show (n ≤ 57) by omega), decide_eq_false (show ¬ (n = 46) by omega), decide_eq_false (show ¬ (n = 45) by omega), decide_eq_false (show ¬ (n = 95) by omega)]; rfl
    rw [g]
    have d0 : decide (97 ≤ (n : Int)) = false := decide_eq_false (by omega)
    have d0' : decide (97 ≤ n) = false := decide_eq_false (by omega)
    have d1 : decide ((n : Int) ≤ 122) = true := decide_eq_true (by omega)
    have d1' : decide (n ≤ 122) = true := decide_eq_true (by omega)
    have d2 : decide (48 ≤ (n : Int)) = false := decide_eq_false (by omega)
    have d2' : decide (48 ≤ n) = false := decide_eq_false (by omega)
    have d3 : decide ((n : Int) ≤ 57) = true := decide_eq_true (by omega)
    have d3' : decide (n ≤ 57) = true := decide_eq_true (by omega)
    have d4 : ((n : Int) == 46) = false := by rw [beq_eq_false_iff_ne]; omega
    have d5 : ((n : Int) == 45) = false := by rw [beq_eq_false_iff_ne]; omega
    have d6 : ((n : Int) == 95) = false := by rw [beq_eq_false_iff_ne]; omega
    clear h g
    go_enter Tryd.func45, Tryd.ntmps45
    go_wp2
    go_ret
    exact ⟨rfl, rfl⟩
  · have g : ((decide (97 ≤ n) && decide (n ≤ 122)) || ((decide (48 ≤ n) && decide (n ≤ 57)) || (decide (n = 46) || (decide (n = 45) || decide (n = 95))))) = true := by
      rw [decide_eq_false (show ¬ (97 ≤ n) by omega), decide_eq_true (show (n ≤ 122) by omega), decide_eq_true (show (48 ≤ n) by omega), decide_eq_true (show (n ≤ 57) by omega), decide_eq_false (show ¬ (n = 46) by omega), decide_eq_false (show ¬ (n = 45) by omega), decide_eq_false (show ¬ (n = 95) by omega)]; rfl
    rw [g]
    have d0 : decide (97 ≤ (n : Int)) = false := decide_eq_false (by omega)
    have d0' : decide (97 ≤ n) = false := decide_eq_false (by omega)
    have d1 : decide ((n : Int) ≤ 122) = true := decide_eq_true (by omega)
    have d1' : decide (n ≤ 122) = true := decide_eq_true (by omega)
    have d2 : decide (48 ≤ (n : Int)) = true := decide_eq_true (by omega)
    have d2' : decide (48 ≤ n) = true := decide_eq_true (by omega)
    have d3 : decide ((n : Int) ≤ 57) = true := decide_eq_true (by omega)
    have d3' : decide (n ≤ 57) = true := decide_eq_true (by omega)
    have d4 : ((n : Int) == 46) = false := by rw [beq_eq_false_iff_ne]; omega
    have d5 : ((n : Int) == 45) = false := by rw [beq_eq_false_iff_ne]; omega
    have d6 : ((n : Int) == 95) = false := by rw [beq_eq_false_iff_ne]; omega
    clear h g
    go_enter Tryd.func45, Tryd.ntmps45
    go_wp2
    go_ret
    exact ⟨rfl, rfl⟩
  · have g : ((decide (97 ≤ n) && decide (n ≤ 122)) || ((decide (48 ≤ n) && decide (n ≤ 57)) || (decide (n = 46) || (decide (n = 45) || decide (n = 95))))) = false := by
      rw [decide_eq_false (show ¬ (97 ≤ n) by omega), decide_eq_true (show (n ≤ 122) by omega), decide_eq_true (show (48 ≤ n) by omega), decide_eq_false (show ¬ (n ≤ 57) by omega), decide_eq_false (show ¬ (n = 46) by omega), decide_eq_false (show ¬ (n = 45) by omega), decide_eq_false (show ¬ (n = 95) by omega)]; rfl
    rw [g]
    have d0 : decide (97 ≤ (n : Int)) = false := decide_eq_false (by omega)
    have d0' : decide (97 ≤ n) = false := decide_eq_false (by omega)
    have d1 : decide ((n : Int) ≤ 122) = true := decide_eq_true (by omega)
    have d1' : decide (n ≤ 122) = true := decide_eq_true (by omega)
    have d2 : decide (48 ≤ (n : Int)) = true := decide_eq_true (by omega)
    have d2' : decide (48 ≤ n) = true := decide_eq_true (by omega)
    have d3 : decide ((n : Int) ≤ 57) = false := decide_eq_false (by omega)
    have d3' : decide (n ≤ 57) = false := decide_eq_false (by omega)
    have d4 : ((n : Int) == 46) = false := by rw [beq_eq_false_iff_ne]; omega
    have d5 : ((n : Int) == 45) = false := by rw [beq_eq_false_iff_ne]; omega
    have d6 : ((n : Int) == 95) = false := by rw [beq_eq_false_iff_ne]; omega
    clear h g
    go_enter Tryd.func45, Tryd.ntmps45
    go_wp2
    go_ret
    exact ⟨rfl, rfl⟩
  · have g : ((decide (97 ≤ n) && decide (n ≤ 122)) || ((decide (48 ≤ n) && decide (n ≤ 57)) || (decide (n = 46) || (decide (n = 45) || decide (n = 95))))) = true := by
      rw [decide_eq_false (show ¬ (97 ≤ n) by omega), decide_eq_true (show (n ≤ 122) by omega), decide_eq_true (show (48 ≤ n) by omega), decide_eq_false (show ¬ (n ≤ 57) by omega), decide_eq_false (show ¬ (n = 46) by omega), decide_eq_false (show ¬ (n = 45) by omega), decide_eq_true (show (n = 95) by omega)]; rfl
    rw [g]
    have d0 : decide (97 ≤ (n : Int)) = false := decide_eq_false (by omega)
    have d0' : decide (97 ≤ n) = false := decide_eq_false (by omega)
    have d1 : decide ((n : Int) ≤ 122) = true := decide_eq_true (by omega)
    have d1' : decide (n ≤ 122) = true := decide_eq_true (by omega)
    have d2 : decide (48 ≤ (n : Int)) = true := decide_eq_true (by omega)
    have d2' : decide (48 ≤ n) = true := decide_eq_true (by omega)
    have d3 : decide ((n : Int) ≤ 57) = false := decide_eq_false (by omega)
    have d3' : decide (n ≤ 57) = false := decide_eq_false (by omega)
    have d4 : ((n : Int) == 46) = false := by rw [beq_eq_false_iff_ne]; omega
    have d5 : ((n : Int) == 45) = false := by rw [beq_eq_false_iff_ne]; omega
    have d6 : ((n : Int) == 95) = true := by rw [beq_iff_eq]; omega
    clear h g
    go_enter Tryd.func45, Tryd.ntmps45
    go_wp2
    go_ret
    exact ⟨rfl, rfl⟩
  · have g : ((decide (97 ≤ n) && decide (n ≤ 122)) || ((decide (48 ≤ n) && decide (n ≤ 57)) || (decide (n = 46) || (decide (n = 45) || decide (n = 95))))) = false := by
      rw [decide_eq_false (show ¬ (97 ≤ n) by omega), decide_eq_true (show (n ≤ 122) by omega), decide_eq_true (show (48 ≤ n) by omega), decide_eq_false (show ¬ (n ≤ 57) by omega), decide_eq_false (show ¬ (n = 46) by omega), decide_eq_false (show ¬ (n = 45) by omega), decide_eq_false (show ¬ (n = 95) by omega)]; rfl
    rw [g]
    have d0 : decide (97 ≤ (n : Int)) = false := decide_eq_false (by omega)
    have d0' : decide (97 ≤ n) = false := decide_eq_false (by omega)
    have d1 : decide ((n : Int) ≤ 122) = true := decide_eq_true (by omega)
    have d1' : decide (n ≤ 122) = true := decide_eq_true (by omega)
    have d2 : decide (48 ≤ (n : Int)) = true := decide_eq_true (by omega)
    have d2' : decide (48 ≤ n) = true := decide_eq_true (by omega)
    have d3 : decide ((n : Int) ≤ 57) = false := decide_eq_false (by omega)
    have d3' : decide (n ≤ 57) = false := decide_eq_false (by omega)
    have d4 : ((n : Int) == 46) = false := by rw [beq_eq_false_iff_ne]; omega
    have d5 : ((n : Int) == 45) = false := by rw [beq_eq_false_iff_ne]; omega
    have d6 : ((n : Int) == 95) = false := by rw [beq_eq_false_iff_ne]; omega
    clear h g
    go_enter Tryd.func45, Tryd.ntmps45
    go_wp2
    go_ret
    exact ⟨rfl, rfl⟩
  · have g : ((decide (97 ≤ n) && decide (n ≤ 122)) || ((decide (48 ≤ n) && decide (n ≤ 57)) || (decide (n = 46) || (decide (n = 45) || decide (n = 95))))) = true := by
      rw [decide_eq_true (show (97 ≤ n) by omega), decide_eq_true (show (n ≤ 122) by omega), decide_eq_true (show (48 ≤ n) by omega), decide_eq_false (show ¬ (n ≤ 57) by omega), decide_eq_false (show ¬ (n = 46) by omega), decide_eq_false (show ¬ (n = 45) by omega), decide_eq_false (show ¬ (n = 95) by omega)]; rfl
    rw [g]
    have d0 : decide (97 ≤ (n : Int)) = true := decide_eq_true (by omega)
    have d0' : decide (97 ≤ n) = true := decide_eq_true (by omega)
    have d1 : decide ((n : Int) ≤ 122) = true := decide_eq_true (by omega)
    have d1' : decide (n ≤ 122) = true := decide_eq_true (by omega)
    have d2 : decide (48 ≤ (n : Int)) = true := decide_eq_true (by omega)
    have d2' : decide (48 ≤ n) = true := decide_eq_true (by omega)
    have d3 : decide ((n : Int) ≤ 57) = false := decide_eq_false (by omega)
    have d3' : decide (n ≤ 57) = false := decide_eq_false (by omega)
    have d4 : ((n : Int) == 46) = false := by rw [beq_eq_false_iff_ne]; omega
    have d5 : ((n : Int) == 45) = false := by rw [beq_eq_false_iff_ne]; omega
    have d6 : ((n : Int) == 95) = false := by rw [beq_eq_false_iff_ne]; omega
    clear h g
    go_enter Tryd.func45, Tryd.ntmps45
    go_wp2
    go_ret
    exact ⟨rfl, rfl⟩
  · have g : ((decide (97 ≤ n) && decide (n ≤ 122)) || ((decide (48 ≤ n) && decide (n ≤ 57)) || (decide (n = 46) || (decide (n = 45) || decide (n = 95))))) = false := by
      rw [decide_eq_true (show (97 ≤ n) by omega), decide_eq_false (show ¬ (n ≤ 122) by omega), decide_eq_true (show (48 ≤ n) by omega), decide_eq_false (show ¬ (n ≤ 57) by omega), decide_eq_false (show ¬ (n = 46) by omega), decide_eq_false (show ¬ (n = 45) by omega), decide_eq_false (show ¬ (n = 95) by omega)]; rfl
    rw [g]
    have d0 : decide (97 ≤ (n : Int)) = true := decide_eq_true (by omega)
    have d0' : decide (97 ≤ n) = true := decide_eq_true (by omega)
    have d1 : decide ((n : Int) ≤ 122) = false := decide_eq_false (by omega)
    have d1' : decide (n ≤ 122) = false := decide_eq_false (by omega)
    have d2 : decide (48 ≤ (n : Int)) = true := decide_eq_true (by omega)
    have d2' : decide (48 ≤ n) = true := decide_eq_true (by omega)
    have d3 : decide ((n : Int) ≤ 57) = false := decide_eq_false (by omega)
    have d3' : decide (n ≤ 57) = false := decide_eq_false (by omega)
    have d4 : ((n : Int) == 46) = false := by rw [beq_eq_false_iff_ne]; omega
    have d5 : ((n : Int) == 45) = false := by rw [beq_eq_false_iff_ne]; omega
    have d6 : ((n : Int) == 95) = false := by rw [beq_eq_false_iff_ne]; omega
    clear h g
    go_enter Tryd.func45, Tryd.ntmps45
    go_wp2
    go_ret
    exact ⟨rfl, rfl⟩

/-- []byte(s). -/
theorem conv_bytes (s : ByteArray) (w : World) : ∃ G w', (convert 9 28 (.string s)).run Tryd.prog w = .ok (.slice (some ⟨w.heap.size, 0, none⟩) s.size G) w' ∧ s.size ≤ G ∧ (∀ j, j < s.size → w'.cell? ⟨w.heap.size, j, none⟩ = some (.int .u8 ((s.data.toList.getD j 0).toNat : Int))) ∧ Below w.heap.size w w' := by
  refine ⟨_, _, Lib.run_convert_string_bytes w 9 28 5 s Tryd.underlying9 Tryd.underlying28 Tryd.underlying5, grownCap_ge w s.size 0 5, fun j hj => Lib.bytesWorld_cell w 5 s j hj, ?_⟩
  refine ⟨?_, ?_, ?_, by rw [Lib.bytesWorld_size]; omega, fun j hj => Lib.bytesWorld_at_old w 5 s j hj⟩
  · rfl
  · rfl
  · rfl
theorem take_all {l : List UInt8} {k : Nat} (h : k < l.length) : (l.take (k + 1)).all letB = ((l.take k).all letB && letB (l.getD k 0)) := by
  rw [List.take_succ_eq_append_getElem h, List.all_append]
  simp [List.getElem?_eq_getElem h]

set_option maxRecDepth 100000 in
set_option maxHeartbeats 2000000 in
theorem part_calls (s : ByteArray) (w : World) (hs : s.size ≤ 1000000000) : Calls Tryd.prog 35 #[.string s] w fun e w' => e = .returned (.bool (partB s.data.toList)) ∧ Below w.heap.size w w' := by
  obtain ⟨G, w1, hconv, hG, hcells, hb1⟩ := conv_bytes s w
  have HC := Aside0.mk hcells
  have HB := Aside0.mk hb1
  have hlen : s.data.toList.length = s.size := by rw [Array.length_toList]; rfl
  have HLEN := Aside0.mk hlen
  clear hcells hb1 hlen
  go_enter Tryd.func35, Tryd.ntmps35
  go_wp2_with fail
  go_loopw [8] (fun i wr => ∃ k : Nat, k ≤ s.size ∧ i = .int .i64 k ∧ wr = w1 ∧ Aside0 ((s.data.toList.take k).all letB = true)) (fun i wr => s.size - (intOf i).toNat)
  case atStart => exact ⟨0, Nat.zero_le _, rfl, rfl, ⟨rfl⟩⟩
  case round =>
    obtain ⟨k, hk, rfl, rfl, hs2⟩ := hrel
    by_cases hlt : k < s.size
    · have hc := HC.out k hlt
      have HT := Aside0.mk (take_all (l := s.data.toList) (k := k) (by rw [HLEN.out]; exact hlt))
      obtain ⟨c, hcc⟩ : ∃ c, c = s.data.toList.getD k 0 := ⟨_, rfl⟩
      have hmem : c ∈ s.data.toList := by
        have h : k < s.data.toList.length := by rw [HLEN.out]; exact hlt
        rw [hcc, List.getD_eq_getElem?_getD, List.getElem?_eq_getElem h]
        exact List.getElem_mem h
      have HMEM := Aside0.mk hmem
      rw [← hcc] at hc HT
      clear hcc hmem
      go_wp2_with fail
      refine (letter_calls c _).mono ?_
      rintro e w' ⟨rfl, rfl⟩
      rcases hl : letB c with _ | _
      · have HE : Aside0 (false = partB s.data.toList) := ⟨by
          unfold partB
          have : s.data.toList.all letB = false := by
            rw [List.all_eq_false]
            exact ⟨c, HMEM.out, by rw [hl]; decide⟩
          rw [this]; rfl⟩
        clear hl
        go_wp2_with fail
        go_ret
        exact ⟨ret_b HE.out, HB.out⟩
      · have H2 : Aside0 ((s.data.toList.take (k + 1)).all letB = true) := ⟨by rw [HT.out, hs2.out, hl]; rfl⟩
        clear hl
        go_wp2_with fail
        go_roundw
        case rel => exact ⟨k + 1, by omega, by go_num, trivial, H2⟩
        case measure => simp [intOf]; omega
    · have HA : Aside0 (s.data.toList.all letB = true) := ⟨by
        have := hs2.out
        rwa [List.take_of_length_le (by rw [HLEN.out]; omega)] at this⟩
      have HP : Aside0 (partB s.data.toList = (decide (1 ≤ s.size) && (decide (s.size ≤ 20) && (s.data.toList != [46] && s.data.toList != [46, 46])))) := ⟨by
        unfold partB; rw [HA.out, HLEN.out]; rfl⟩
      clear hs2
      by_cases h1 : 1 ≤ s.size
      · have d1 : decide (1 ≤ s.size) = true := decide_eq_true h1
        by_cases h2 : s.size ≤ 20
        · have d2 : decide (s.size ≤ 20) = true := decide_eq_true h2
          rcases h3 : (s.toList == [46]) with _ | _
          · have HE : Aside0 ((s.toList != [46, 46]) = partB s.data.toList) := ⟨by rw [HP.out, ← toList_eq, d1, d2, bne, bne, h3]; rfl⟩
            rcases h4 : (s.toList == [46, 46]) with _ | _
            · have HF : Aside0 (true = partB s.data.toList) := ⟨by rw [← HE.out, bne, h4]; rfl⟩
              go_wp2_with fail
              go_ret
              exact ⟨ret_b HF.out, HB.out⟩
            · have HF : Aside0 (false = partB s.data.toList) := ⟨by rw [← HE.out, bne, h4]; rfl⟩
              go_wp2_with fail
              go_ret
              exact ⟨ret_b HF.out, HB.out⟩
          · have HE : Aside0 (false = partB s.data.toList) := ⟨by rw [HP.out, ← toList_eq, d1, d2, bne, bne, h3]; rfl⟩
            go_wp2_with fail
            go_ret
            exact ⟨ret_b HE.out, HB.out⟩
        · have d2 : decide (s.size ≤ 20) = false := decide_eq_false h2
          have HE : Aside0 (false = partB s.data.toList) := ⟨by rw [HP.out, d1, d2]; rfl⟩
          go_wp2_with fail
          go_ret
          exact ⟨ret_b HE.out, HB.out⟩
      · have d1 : decide (1 ≤ s.size) = false := decide_eq_false h1
        have HE : Aside0 (false = partB s.data.toList) := ⟨by rw [HP.out, d1]; rfl⟩
        go_wp2_with fail
        go_ret
        exact ⟨ret_b HE.out, HB.out⟩

theorem len_data (s : ByteArray) : s.data.toList.length = s.size := by rw [Array.length_toList]; rfl
/-- An element of a slice of texts. -/
theorem SlS.at {w : World} {base : Nat} {v : Value} {l : List (List UInt8)} (h : SlS w base v l) (i : Nat) (hi : i < l.length) : ∃ (ad : Addr) (c : Nat), v = .slice (some ad) l.length c ∧ w.cell? (ad.add i) = some (.string (str (l.getD i []))) := by
  obtain ⟨A, c, h1, h2, h3, h4⟩ := h
  obtain ⟨ad, rfl, hc⟩ := h4.cell i (tv l[i]) (by simp [List.getElem?_eq_getElem hi])
  exact ⟨ad, c, h1, by rw [hc]; simp [tv, List.getElem?_eq_getElem hi]⟩
theorem split_size : ∀ (s p : List UInt8), p ∈ splitP s → p.length ≤ s.length
  | [], p, h => by simp [splitP] at h; subst h; simp
  | c :: cs, p, h => by
    rw [splitP] at h
    by_cases hc : c = 47
    · rw [if_pos hc] at h
      rcases List.mem_cons.1 h with rfl | h
      · simp
      · have := split_size cs p h; simp; omega
    · rw [if_neg hc] at h
      cases hs : splitP cs with
      | nil => exact absurd hs (splitP_ne cs)
      | cons q ps =>
        rw [hs] at h
        simp only at h
        rcases List.mem_cons.1 h with rfl | h
        · have := split_size cs q (by rw [hs]; simp); simp; omega
        · have := split_size cs p (by rw [hs]; simp [h]); simp; omega
theorem take_allP {l : List (List UInt8)} {k : Nat} (h : k < l.length) : (l.take (k + 1)).all partB = ((l.take k).all partB && partB (l.getD k [])) := by
  rw [List.take_succ_eq_append_getElem h, List.all_append]
  simp [List.getElem?_eq_getElem h]

set_option maxHeartbeats 2000000 in
theorem valid_calls (s : ByteArray) (w : World) (hs : s.size ≤ 1000000000) : Calls Tryd.prog 25 #[.string s] w fun e w' => e = .returned (.bool (validB s.data.toList)) ∧ Below w.heap.size w w' := by
  by_cases h1 : 60 < s.size
  · have HE : Aside0 (false = validB s.data.toList) := ⟨by unfold validB; rw [decide_eq_false (by rw [len_data]; omega)]; rfl⟩
    have d1 : decide ((60 : Int) < s.size) = true := decide_eq_true (by omega)
    have d2 : decide (60 < s.size) = true := decide_eq_true h1
    go_enter Tryd.func25, Tryd.ntmps25
    go_wp2_with fail
    go_ret
    exact ⟨ret_b HE.out, Below.refl _ _⟩
  · have HE : Aside0 (validB s.data.toList = (splitP s.data.toList).all partB) := ⟨by unfold validB; rw [decide_eq_true (by rw [len_data]; omega)]; rfl⟩
    have d1 : decide ((60 : Int) < s.size) = false := decide_eq_false (by omega)
    have d2 : decide (60 < s.size) = false := decide_eq_false h1
    go_enter Tryd.func25, Tryd.ntmps25
    go_wp2_with fail
    refine (split_calls s w hs).mono ?_
    rintro e w1 ⟨v, rfl, hsl, _, hb1⟩
    have HSL := Aside0.mk hsl
    have HB := Aside0.mk hb1
    have HSZ := Aside0.mk (split_size s.data.toList)
    obtain ⟨L, hL⟩ : ∃ L, L = splitP s.data.toList := ⟨_, rfl⟩
    rw [← hL] at HSL HE HSZ
    obtain ⟨A, c, rfl, hc, hm, _⟩ := HSL.out
    clear hsl hb1 hL
    go_wp2_with fail
    go_loopw [11] (fun i wr => ∃ k : Nat, k ≤ L.length ∧ i = .int .i64 k ∧ Aside0 ((L.take k).all partB = true ∧ Below w1.heap.size w1 wr)) (fun i wr => L.length - (intOf i).toNat)
    case atStart => exact ⟨0, Nat.zero_le _, rfl, ⟨rfl, Below.refl _ _⟩⟩
    case round =>
      obtain ⟨k, hk, rfl, hs2⟩ := hrel
      by_cases hlt : k < L.length
      · obtain ⟨ad, c2, he, hcell⟩ := HSL.out.at k hlt
        cases he
        have hcell := cell_keep hs2.out.2 hcell
        have HT := Aside0.mk (take_allP hlt)
        have hmem : L.getD k [] ∈ L := by rw [List.getD_eq_getElem?_getD, List.getElem?_eq_getElem hlt]; exact List.getElem_mem hlt
        have HMEM := Aside0.mk hmem
        have HPS := Aside0.mk (HSZ.out _ hmem)
        obtain ⟨p, hp⟩ : ∃ p, p = L.getD k [] := ⟨_, rfl⟩
        rw [← hp] at hcell HT HMEM HPS
        clear hmem hp
        go_wp2_with fail
        refine (part_calls (str p) wr (by have := HPS.out; rw [len_data] at this; rw [str_size]; omega)).mono ?_
        rintro e w2 ⟨rfl, hb2⟩
        have HB2 := Aside0.mk (below_step hs2.out.2 hb2)
        have HE2 : Aside0 (partB (str p).data.toList = partB p) := ⟨by rw [str_data]⟩
        rw [HE2.out]
        rcases hp2 : partB p with _ | _
        · have HF : Aside0 (false = validB s.data.toList) := ⟨by
            rw [HE.out, eq_comm, List.all_eq_false]
            exact ⟨p, HMEM.out, by rw [hp2]; decide⟩⟩
          clear hp2 hb2
          go_wp2_with fail
          go_ret
          exact ⟨ret_b HF.out, below_step HB.out HB2.out⟩
        · have H3 : Aside0 ((L.take (k + 1)).all partB = true) := ⟨by rw [HT.out, hs2.out.1, hp2]; rfl⟩
          clear hp2 hb2
          go_wp2_with fail
          go_roundw
          case rel => exact ⟨k + 1, by omega, by go_num, ⟨H3.out, HB2.out⟩⟩
          case measure => simp [intOf]; omega
      · have HF : Aside0 (true = validB s.data.toList) := ⟨by
          have := hs2.out.1
          rw [List.take_of_length_le (by omega)] at this
          rw [HE.out, this]⟩
        have HB3 := Aside0.mk (below_step HB.out hs2.out.2)
        clear hs2
        go_wp2_with fail
        go_ret
        exact ⟨ret_b HF.out, HB3.out⟩
end Go.Proofs.YtoigmepkhiknbaaDoor
