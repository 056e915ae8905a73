/-
  Parts have one to twenty bytes, paths sixty at most. No condition.
-/
import Derived.Test.YtfjjaepchidcoaaDoorPathAwake
import Derived.Deep.DeepCutAuto
namespace Go.Proofs.YtfjjaepchidcoaaDoor
open Go.RowKit
set_option linter.unusedVariables false
set_option linter.unusedSimpArgs false

theorem str_app (x y : List UInt8) : str x ++ str y = str (x ++ y) := by
  rw [← str_of (str x ++ str y), data_app, str_data, str_data]
theorem str_x : (⟨#[120]⟩ : ByteArray) = str [120] := rfl
theorem str_s : (⟨#[47]⟩ : ByteArray) = str [47] := rfl
def baseX (n i : Nat) : List UInt8 := if i = 0 then [] else xpath n i ++ [47]
theorem xpath_succ (n i : Nat) : xpath n (i + 1) = baseX n i ++ xs n := by
  unfold baseX xpath
  rcases Nat.eq_zero_or_pos i with rfl | h
  · rw [if_pos rfl]; rfl
  · rw [if_neg (by omega), List.replicate_succ', joinP_app _ _ (by cases i with | zero => omega | succ i => simp [List.replicate_succ]) (by simp)]
    simp [joinP]

theorem xpath_le {n k : Nat} (hn : n ≤ 30) (hk : k ≤ 40) : (xpath n k).length ≤ 1240 := by
  rcases Nat.eq_zero_or_pos k with rfl | h
  · exact Nat.zero_le _
  · have := xpath_len n k h
    have h2 : k * (n + 1) ≤ 40 * 31 := Nat.mul_le_mul hk (by omega)
    omega
theorem baseX_le {n k : Nat} (hn : n ≤ 30) (hk : k ≤ 40) : (baseX n k).length ≤ 1241 := by
  unfold baseX
  split
  · exact Nat.zero_le _
  · have := xpath_le hn hk
    simp; omega

set_option maxHeartbeats 2000000 in
theorem limits_out (n m : Int) (c : UInt8) (w : World) (hn : -9223372036854775808 ≤ n ∧ n ≤ 9223372036854775807) (hm : -9223372036854775808 ≤ m ∧ m ≤ 9223372036854775807) (hout : ¬ ((1 ≤ n ∧ n ≤ 30) ∧ (1 ≤ m ∧ m ≤ 40))) :
    Calls Tryd.prog 7 #[.int .i64 n, .int .i64 m, .int .u8 (c.toNat : Int)] w fun e w' => e = .returned (.bool true) ∧ Below w.heap.size w w' := by
  by_cases h1 : n < 1
  · have d1 : decide (n < 1) = true := decide_eq_true h1
    clear hout
    go_enter Tryd.func7, Tryd.ntmps7
    go_wp2_with (go_at_call 9; refine (awake4_calls _).mono ?_; rintro e w2 ⟨rfl, hb2⟩; have HB := Aside0.mk hb2; clear hb2)
    go_ret
    exact ⟨rfl, HB.out⟩
  · have d1 : decide (n < 1) = false := decide_eq_false h1
    by_cases h2 : 30 < n
    · have d2 : decide (30 < n) = true := decide_eq_true h2
      clear hout
      go_enter Tryd.func7, Tryd.ntmps7
      go_wp2_with (go_at_call 9; refine (awake4_calls _).mono ?_; rintro e w2 ⟨rfl, hb2⟩; have HB := Aside0.mk hb2; clear hb2)
      go_ret
      exact ⟨rfl, HB.out⟩
    · have d2 : decide (30 < n) = false := decide_eq_false h2
      by_cases h3 : m < 1
      · have d3 : decide (m < 1) = true := decide_eq_true h3
        clear hout
        go_enter Tryd.func7, Tryd.ntmps7
        go_wp2_with (go_at_call 9; refine (awake4_calls _).mono ?_; rintro e w2 ⟨rfl, hb2⟩; have HB := Aside0.mk hb2; clear hb2)
        go_ret
        exact ⟨rfl, HB.out⟩
      · have d3 : decide (m < 1) = false := decide_eq_false h3
        have d4 : decide (40 < m) = true := decide_eq_true (by omega)
        clear hout
        go_enter Tryd.func7, Tryd.ntmps7
        go_wp2_with (go_at_call 9; refine (awake4_calls _).mono ?_; rintro e w2 ⟨rfl, hb2⟩; have HB := Aside0.mk hb2; clear hb2)
        go_ret
        exact ⟨rfl, HB.out⟩

set_option maxHeartbeats 8000000 in
set_option maxRecDepth 100000 in
theorem limits_in (N m : Nat) (c : UInt8) (w : World) (hn : 1 ≤ N ∧ N ≤ 30) (hm : 1 ≤ m ∧ m ≤ 40) :
    Calls Tryd.prog 7 #[.int .i64 (N : Int), .int .i64 (m : Int), .int .u8 (c.toNat : Int)] w fun e w' => e = .returned (.bool true) ∧ Below w.heap.size w w' := by
  obtain ⟨hn1, hn2⟩ := hn
  obtain ⟨hm1, hm2⟩ := hm
  have d1 : decide ((N : Int) < 1) = false := decide_eq_false (by omega)
  have d2 : decide ((30 : Int) < N) = false := decide_eq_false (by omega)
  have d3 : decide ((m : Int) < 1) = false := decide_eq_false (by omega)
  have d4 : decide ((40 : Int) < m) = false := decide_eq_false (by omega)
  have hlt := c.toNat_lt
  obtain ⟨n, hnc⟩ : ∃ n, n = c.toNat := ⟨_, rfl⟩
  have HN := Aside0.mk hnc
  rw [← hnc] at hlt ⊢
  clear hnc
  go_enter Tryd.func7, Tryd.ntmps7
  go_wp2_with fail
  go_loop [7, 8] (fun s i => ∃ (k : Nat) (u : ByteArray), k ≤ m ∧ i = .int .i64 k ∧ s = .string u ∧ Aside0 (u = str (xpath N k))) (fun s i => m - (intOf i).toNat)
  case atStart => exact ⟨0, _, Nat.zero_le _, rfl, rfl, ⟨rfl⟩⟩
  case round =>
    obtain ⟨k, u, hk, rfl, rfl, hs⟩ := hrel
    have hus : u.size ≤ 1240 := by rw [hs.out, str_size]; exact xpath_le hn2 (by omega)
    by_cases hlt2 : k < m
    · by_cases hk0 : 0 < k
      · have d5 : decide ((0 : Int) < k) = true := decide_eq_true (by omega)
        have H0 := Aside0.mk (show u ++ ⟨#[47]⟩ = str (baseX N k ++ List.replicate 0 120) by rw [hs.out, str_s, str_app, baseX, if_neg (by omega)]; simp)
        go_wp2_with fail
        go_loop [7, 9] (fun s i => ∃ (j : Nat) (v : ByteArray), j ≤ N ∧ i = .int .i64 j ∧ s = .string v ∧ Aside0 (v = str (baseX N k ++ List.replicate j 120))) (fun s i => N - (intOf i).toNat)
        case atStart => exact ⟨0, _, Nat.zero_le _, rfl, rfl, H0⟩
        case round =>
          obtain ⟨j, v, hj, rfl, rfl, hs2⟩ := hrel
          have hvs : v.size ≤ 1271 := by rw [hs2.out, str_size, List.length_append, List.length_replicate]; have := baseX_le (n := N) (k := k) hn2 (by omega); omega
          by_cases hlt3 : j < N
          · have H3 := Aside0.mk (show v ++ ⟨#[120]⟩ = str (baseX N k ++ List.replicate (j + 1) 120) by rw [hs2.out, str_x, str_app, List.append_assoc, ← List.replicate_succ'])
            go_wp2_with fail
            go_round
            case rel => exact ⟨j + 1, _, by omega, by go_num, rfl, H3⟩
            case measure => simp [intOf]; omega
          · have H3 := Aside0.mk (show v = str (xpath N (k + 1)) by rw [hs2.out, show j = N by omega, xpath_succ]; rfl)
            go_wp2_with fail
            go_round
            case rel => exact ⟨k + 1, _, by omega, by go_num, rfl, H3⟩
            case measure => simp [intOf]; omega
      · obtain rfl : k = 0 := by omega
        have H0 := Aside0.mk (show u = str (baseX N 0 ++ List.replicate 0 120) by rw [hs.out]; rfl)
        go_wp2_with fail
        go_loop [7, 9] (fun s i => ∃ (j : Nat) (v : ByteArray), j ≤ N ∧ i = .int .i64 j ∧ s = .string v ∧ Aside0 (v = str (baseX N 0 ++ List.replicate j 120))) (fun s i => N - (intOf i).toNat)
        case atStart => exact ⟨0, _, Nat.zero_le _, rfl, rfl, H0⟩
        case round =>
          obtain ⟨j, v, hj, rfl, rfl, hs2⟩ := hrel
          have hvs : v.size ≤ 1271 := by rw [hs2.out, str_size, List.length_append, List.length_replicate]; have := baseX_le (n := N) (k := 0) hn2 (by omega); omega
          by_cases hlt3 : j < N
          · have H3 := Aside0.mk (show v ++ ⟨#[120]⟩ = str (baseX N 0 ++ List.replicate (j + 1) 120) by rw [hs2.out, str_x, str_app, List.append_assoc, ← List.replicate_succ'])
            go_wp2_with fail
            go_round
            case rel => exact ⟨j + 1, _, by omega, by go_num, rfl, H3⟩
            case measure => simp [intOf]; omega
          · have H3 := Aside0.mk (show v = str (xpath N (0 + 1)) by rw [hs2.out, show j = N by omega, xpath_succ]; rfl)
            go_wp2_with fail
            go_round
            case rel => exact ⟨0 + 1, _, by omega, by go_num, rfl, H3⟩
            case measure => simp [intOf]; omega
    · have HU := Aside0.mk (show u = str (xpath N m) by rw [hs.out, show k = m by omega])
      clear hs
      go_upto_region 13 with fail
      go_cut [10] from 43 to 68 (fun v wx => v = .bool (letB c) ∧ Aside0 (Below w.heap.size w wx))
      case first =>
        have HL : Aside0 (letB c = ((decide (97 ≤ c.toNat) && decide (c.toNat ≤ 122)) || ((decide (48 ≤ c.toNat) && decide (c.toNat ≤ 57)) || (decide (c.toNat = 46) || (decide (c.toNat = 45) || decide (c.toNat = 95)))))) := ⟨rfl⟩
        rw [← HN.out] at HL
        rcases let_cases n with h | h | h | h | h | h | h | h | h | h
        · have g : ((decide (97 ≤ n) && decide (n ≤ 122)) || ((decide (48 ≤ n) && decide (n ≤ 57)) || (decide (n = 46) || (decide (n = 45) || decide (n = 95))))) = false := by
            rw [decide_eq_false (show ¬ (97 ≤ n) by omega), decide_eq_true (show (n ≤ 122) by omega), decide_eq_false (show ¬ (48 ≤ n) by omega), decide_eq_true (show (n ≤ 57) by omega), decide_eq_false (show ¬ (n = 46) by omega), decide_eq_false (show ¬ (n = 45) by omega), decide_eq_false (show ¬ (n = 95) by omega)]; rfl
          have HG := Aside0.mk (HL.out.trans g)
          have q0 : decide (97 ≤ (n : Int)) = false := decide_eq_false (by omega)
          have q0' : decide (97 ≤ n) = false := decide_eq_false (by omega)
          have q1 : decide ((n : Int) ≤ 122) = true := decide_eq_true (by omega)
          have q1' : decide (n ≤ 122) = true := decide_eq_true (by omega)
          have q2 : decide (48 ≤ (n : Int)) = false := decide_eq_false (by omega)
          have q2' : decide (48 ≤ n) = false := decide_eq_false (by omega)
          have q3 : decide ((n : Int) ≤ 57) = true := decide_eq_true (by omega)
          have q3' : decide (n ≤ 57) = true := decide_eq_true (by omega)
          have q4 : ((n : Int) == 46) = false := by rw [beq_eq_false_iff_ne]; omega
          have q5 : ((n : Int) == 45) = false := by rw [beq_eq_false_iff_ne]; omega
          have q6 : ((n : Int) == 95) = false := by rw [beq_eq_false_iff_ne]; omega
          clear h g
          go_wp2_with fail
          go_meet
          exact ⟨by rw [HG.out], ⟨Below.refl _ _⟩⟩
        · have g : ((decide (97 ≤ n) && decide (n ≤ 122)) || ((decide (48 ≤ n) && decide (n ≤ 57)) || (decide (n = 46) || (decide (n = 45) || decide (n = 95))))) = true := by
            rw [decide_eq_false (show ¬ (97 ≤ n) by omega), decide_eq_true (show (n ≤ 122) by omega), decide_eq_false (show ¬ (48 ≤ n) by omega), decide_eq_true (show (n ≤ 57) by omega), decide_eq_false (show ¬ (n = 46) by omega), decide_eq_true (show (n = 45) by omega), decide_eq_false (show ¬ (n = 95) by omega)]; rfl
          have HG := Aside0.mk (HL.out.trans g)
          have q0 : decide (97 ≤ (n : Int)) = false := decide_eq_false (by omega)
          have q0' : decide (97 ≤ n) = false := decide_eq_false (by omega)
          have q1 : decide ((n : Int) ≤ 122) = true := decide_eq_true (by omega)
          have q1' : decide (n ≤ 122) = true := decide_eq_true (by omega)
          have q2 : decide (48 ≤ (n : Int)) = false := decide_eq_false (by omega)
          have q2' : decide (48 ≤ n) = false := decide_eq_false (by omega)
          have q3 : decide ((n : Int) ≤ 57) = true := decide_eq_true (by omega)
          have q3' : decide (n ≤ 57) = true := decide_eq_true (by omega)
          have q4 : ((n : Int) == 46) = false := by rw [beq_eq_false_iff_ne]; omega
          have q5 : ((n : Int) == 45) = true := by rw [beq_iff_eq]; omega
          have q6 : ((n : Int) == 95) = false := by rw [beq_eq_false_iff_ne]; omega
          clear h g
          go_wp2_with fail
          go_meet
          exact ⟨by rw [HG.out], ⟨Below.refl _ _⟩⟩
        · have g : ((decide (97 ≤ n) && decide (n ≤ 122)) || ((decide (48 ≤ n) && decide (n ≤ 57)) || (decide (n = 46) || (decide (n = 45) || decide (n = 95))))) = true := by
            rw [decide_eq_false (show ¬ (97 ≤ n) by omega), decide_eq_true (show (n ≤ 122) by omega), decide_eq_false (show ¬ (48 ≤ n) by omega), decide_eq_true (show (n ≤ 57) by omega), decide_eq_true (show (n = 46) by omega), decide_eq_false (show ¬ (n = 45) by omega), decide_eq_false (show ¬ (n = 95) by omega)]; rfl
          have HG := Aside0.mk (HL.out.trans g)
          have q0 : decide (97 ≤ (n : Int)) = false := decide_eq_false (by omega)
          have q0' : decide (97 ≤ n) = false := decide_eq_false (by omega)
          have q1 : decide ((n : Int) ≤ 122) = true := decide_eq_true (by omega)
          have q1' : decide (n ≤ 122) = true := decide_eq_true (by omega)
          have q2 : decide (48 ≤ (n : Int)) = false := decide_eq_false (by omega)
          have q2' : decide (48 ≤ n) = false := decide_eq_false (by omega)
          have q3 : decide ((n : Int) ≤ 57) = true := decide_eq_true (by omega)
          have q3' : decide (n ≤ 57) = true := decide_eq_true (by omega)
          have q4 : ((n : Int) == 46) = true := by rw [beq_iff_eq]; omega
          have q5 : ((n : Int) == 45) = false := by rw [beq_eq_false_iff_ne]; omega
          have q6 : ((n : Int) == 95) = false := by rw [beq_eq_false_iff_ne]; omega
          clear h g
          go_wp2_with fail
          go_meet
          exact ⟨by rw [HG.out], ⟨Below.refl _ _⟩⟩
        · have g : ((decide (97 ≤ n) && decide (n ≤ 122)) || ((decide (48 ≤ n) && decide (n ≤ 57)) || (decide (n = 46) || (decide (n = 45) || decide (n = 95))))) = false := by
            rw [decide_eq_false (show ¬ (97 ≤ n) by omega), decide_eq_true (show (n ≤ 122) by omega), decide_eq_false (show ¬ (48 ≤ n) by omega), decide_eq_true (show (n ≤ 57) by omega), decide_eq_false (show ¬ (n = 46) by omega), decide_eq_false (show ¬ (n = 45) by omega), decide_eq_false (show ¬ (n = 95) by omega)]; rfl
          have HG := Aside0.mk (HL.out.trans g)
          have q0 : decide (97 ≤ (n : Int)) = false := decide_eq_false (by omega)
          have q0' : decide (97 ≤ n) = false := decide_eq_false (by omega)
          have q1 : decide ((n : Int) ≤ 122) = true := decide_eq_true (by omega)
          have q1' : decide (n ≤ 122) = true := decide_eq_true (by omega)
          have q2 : decide (48 ≤ (n : Int)) = false := decide_eq_false (by omega)
          have q2' : decide (48 ≤ n) = false := decide_eq_false (by omega)
          have q3 : decide ((n : Int) ≤ 57) = true := decide_eq_true (by omega)
          have q3' : decide (n ≤ 57) = true := decide_eq_true (by omega)
          have q4 : ((n : Int) == 46) = false := by rw [beq_eq_false_iff_ne]; omega
          have q5 : ((n : Int) == 45) = false := by rw [beq_eq_false_iff_ne]; omega
          have q6 : ((n : Int) == 95) = false := by rw [beq_eq_false_iff_ne]; omega
          clear h g
          go_wp2_with fail
          go_meet
          exact ⟨by rw [HG.out], ⟨Below.refl _ _⟩⟩
        · have g : ((decide (97 ≤ n) && decide (n ≤ 122)) || ((decide (48 ≤ n) && decide (n ≤ 57)) || (decide (n = 46) || (decide (n = 45) || decide (n = 95))))) = true := by
            rw [decide_eq_false (show ¬ (97 ≤ n) by omega), decide_eq_true (show (n ≤ 122) by omega), decide_eq_true (show (48 ≤ n) by omega), decide_eq_true (show (n ≤ 57) by omega), decide_eq_false (show ¬ (n = 46) by omega), decide_eq_false (show ¬ (n = 45) by omega), decide_eq_false (show ¬ (n = 95) by omega)]; rfl
          have HG := Aside0.mk (HL.out.trans g)
          have q0 : decide (97 ≤ (n : Int)) = false := decide_eq_false (by omega)
          have q0' : decide (97 ≤ n) = false := decide_eq_false (by omega)
          have q1 : decide ((n : Int) ≤ 122) = true := decide_eq_true (by omega)
          have q1' : decide (n ≤ 122) = true := decide_eq_true (by omega)
          have q2 : decide (48 ≤ (n : Int)) = true := decide_eq_true (by omega)
          have q2' : decide (48 ≤ n) = true := decide_eq_true (by omega)
          have q3 : decide ((n : Int) ≤ 57) = true := decide_eq_true (by omega)
          have q3' : decide (n ≤ 57) = true := decide_eq_true (by omega)
          have q4 : ((n : Int) == 46) = false := by rw [beq_eq_false_iff_ne]; omega
          have q5 : ((n : Int) == 45) = false := by rw [beq_eq_false_iff_ne]; omega
          have q6 : ((n : Int) == 95) = false := by rw [beq_eq_false_iff_ne]; omega
          clear h g
          go_wp2_with fail
          go_meet
          exact ⟨by rw [HG.out], ⟨Below.refl _ _⟩⟩
        · have g : ((decide (97 ≤ n) && decide (n ≤ 122)) || ((decide (48 ≤ n) && decide (n ≤ 57)) || (decide (n = 46) || (decide (n = 45) || decide (n = 95))))) = false := by
            rw [decide_eq_false (show ¬ (97 ≤ n) by omega), decide_eq_true (show (n ≤ 122) by omega), decide_eq_true (show (48 ≤ n) by omega), decide_eq_false (show ¬ (n ≤ 57) by omega), decide_eq_false (show ¬ (n = 46) by omega), decide_eq_false (show ¬ (n = 45) by omega), decide_eq_false (show ¬ (n = 95) by omega)]; rfl
          have HG := Aside0.mk (HL.out.trans g)
          have q0 : decide (97 ≤ (n : Int)) = false := decide_eq_false (by omega)
          have q0' : decide (97 ≤ n) = false := decide_eq_false (by omega)
          have q1 : decide ((n : Int) ≤ 122) = true := decide_eq_true (by omega)
          have q1' : decide (n ≤ 122) = true := decide_eq_true (by omega)
          have q2 : decide (48 ≤ (n : Int)) = true := decide_eq_true (by omega)
          have q2' : decide (48 ≤ n) = true := decide_eq_true (by omega)
          have q3 : decide ((n : Int) ≤ 57) = false := decide_eq_false (by omega)
          have q3' : decide (n ≤ 57) = false := decide_eq_false (by omega)
          have q4 : ((n : Int) == 46) = false := by rw [beq_eq_false_iff_ne]; omega
          have q5 : ((n : Int) == 45) = false := by rw [beq_eq_false_iff_ne]; omega
          have q6 : ((n : Int) == 95) = false := by rw [beq_eq_false_iff_ne]; omega
          clear h g
          go_wp2_with fail
          go_meet
          exact ⟨by rw [HG.out], ⟨Below.refl _ _⟩⟩
        · have g : ((decide (97 ≤ n) && decide (n ≤ 122)) || ((decide (48 ≤ n) && decide (n ≤ 57)) || (decide (n = 46) || (decide (n = 45) || decide (n = 95))))) = true := by
            rw [decide_eq_false (show ¬ (97 ≤ n) by omega), decide_eq_true (show (n ≤ 122) by omega), decide_eq_true (show (48 ≤ n) by omega), decide_eq_false (show ¬ (n ≤ 57) by omega), decide_eq_false (show ¬ (n = 46) by omega), decide_eq_false (show ¬ (n = 45) by omega), decide_eq_true (show (n = 95) by omega)]; rfl
          have HG := Aside0.mk (HL.out.trans g)
          have q0 : decide (97 ≤ (n : Int)) = false := decide_eq_false (by omega)
          have q0' : decide (97 ≤ n) = false := decide_eq_false (by omega)
          have q1 : decide ((n : Int) ≤ 122) = true := decide_eq_true (by omega)
          have q1' : decide (n ≤ 122) = true := decide_eq_true (by omega)
          have q2 : decide (48 ≤ (n : Int)) = true := decide_eq_true (by omega)
          have q2' : decide (48 ≤ n) = true := decide_eq_true (by omega)
          have q3 : decide ((n : Int) ≤ 57) = false := decide_eq_false (by omega)
          have q3' : decide (n ≤ 57) = false := decide_eq_false (by omega)
          have q4 : ((n : Int) == 46) = false := by rw [beq_eq_false_iff_ne]; omega
          have q5 : ((n : Int) == 45) = false := by rw [beq_eq_false_iff_ne]; omega
          have q6 : ((n : Int) == 95) = true := by rw [beq_iff_eq]; omega
          clear h g
          go_wp2_with fail
          go_meet
          exact ⟨by rw [HG.out], ⟨Below.refl _ _⟩⟩
        · have g : ((decide (97 ≤ n) && decide (n ≤ 122)) || ((decide (48 ≤ n) && decide (n ≤ 57)) || (decide (n = 46) || (decide (n = 45) || decide (n = 95))))) = false := by
            rw [decide_eq_false (show ¬ (97 ≤ n) by omega), decide_eq_true (show (n ≤ 122) by omega), decide_eq_true (show (48 ≤ n) by omega), decide_eq_false (show ¬ (n ≤ 57) by omega), decide_eq_false (show ¬ (n = 46) by omega), decide_eq_false (show ¬ (n = 45) by omega), decide_eq_false (show ¬ (n = 95) by omega)]; rfl
          have HG := Aside0.mk (HL.out.trans g)
          have q0 : decide (97 ≤ (n : Int)) = false := decide_eq_false (by omega)
          have q0' : decide (97 ≤ n) = false := decide_eq_false (by omega)
          have q1 : decide ((n : Int) ≤ 122) = true := decide_eq_true (by omega)
          have q1' : decide (n ≤ 122) = true := decide_eq_true (by omega)
          have q2 : decide (48 ≤ (n : Int)) = true := decide_eq_true (by omega)
          have q2' : decide (48 ≤ n) = true := decide_eq_true (by omega)
          have q3 : decide ((n : Int) ≤ 57) = false := decide_eq_false (by omega)
          have q3' : decide (n ≤ 57) = false := decide_eq_false (by omega)
          have q4 : ((n : Int) == 46) = false := by rw [beq_eq_false_iff_ne]; omega
          have q5 : ((n : Int) == 45) = false := by rw [beq_eq_false_iff_ne]; omega
          have q6 : ((n : Int) == 95) = false := by rw [beq_eq_false_iff_ne]; omega
          clear h g
          go_wp2_with fail
          go_meet
          exact ⟨by rw [HG.out], ⟨Below.refl _ _⟩⟩
        · have g : ((decide (97 ≤ n) && decide (n ≤ 122)) || ((decide (48 ≤ n) && decide (n ≤ 57)) || (decide (n = 46) || (decide (n = 45) || decide (n = 95))))) = true := by
            rw [decide_eq_true (show (97 ≤ n) by omega), decide_eq_true (show (n ≤ 122) by omega), decide_eq_true (show (48 ≤ n) by omega), decide_eq_false (show ¬ (n ≤ 57) by omega), decide_eq_false (show ¬ (n = 46) by omega), decide_eq_false (show ¬ (n = 45) by omega), decide_eq_false (show ¬ (n = 95) by omega)]; rfl
          have HG := Aside0.mk (HL.out.trans g)
          have q0 : decide (97 ≤ (n : Int)) = true := decide_eq_true (by omega)
          have q0' : decide (97 ≤ n) = true := decide_eq_true (by omega)
          have q1 : decide ((n : Int) ≤ 122) = true := decide_eq_true (by omega)
          have q1' : decide (n ≤ 122) = true := decide_eq_true (by omega)
          have q2 : decide (48 ≤ (n : Int)) = true := decide_eq_true (by omega)
          have q2' : decide (48 ≤ n) = true := decide_eq_true (by omega)
          have q3 : decide ((n : Int) ≤ 57) = false := decide_eq_false (by omega)
          have q3' : decide (n ≤ 57) = false := decide_eq_false (by omega)
          have q4 : ((n : Int) == 46) = false := by rw [beq_eq_false_iff_ne]; omega
          have q5 : ((n : Int) == 45) = false := by rw [beq_eq_false_iff_ne]; omega
          have q6 : ((n : Int) == 95) = false := by rw [beq_eq_false_iff_ne]; omega
          clear h g
          go_wp2_with fail
          go_meet
          exact ⟨by rw [HG.out], ⟨Below.refl _ _⟩⟩
        · have g : ((decide (97 ≤ n) && decide (n ≤ 122)) || ((decide (48 ≤ n) && decide (n ≤ 57)) || (decide (n = 46) || (decide (n = 45) || decide (n = 95))))) = false := by
            rw [decide_eq_true (show (97 ≤ n) by omega), decide_eq_false (show ¬ (n ≤ 122) by omega), decide_eq_true (show (48 ≤ n) by omega), decide_eq_false (show ¬ (n ≤ 57) by omega), decide_eq_false (show ¬ (n = 46) by omega), decide_eq_false (show ¬ (n = 45) by omega), decide_eq_false (show ¬ (n = 95) by omega)]; rfl
          have HG := Aside0.mk (HL.out.trans g)
          have q0 : decide (97 ≤ (n : Int)) = true := decide_eq_true (by omega)
          have q0' : decide (97 ≤ n) = true := decide_eq_true (by omega)
          have q1 : decide ((n : Int) ≤ 122) = false := decide_eq_false (by omega)
          have q1' : decide (n ≤ 122) = false := decide_eq_false (by omega)
          have q2 : decide (48 ≤ (n : Int)) = true := decide_eq_true (by omega)
          have q2' : decide (48 ≤ n) = true := decide_eq_true (by omega)
          have q3 : decide ((n : Int) ≤ 57) = false := decide_eq_false (by omega)
          have q3' : decide (n ≤ 57) = false := decide_eq_false (by omega)
          have q4 : ((n : Int) == 46) = false := by rw [beq_eq_false_iff_ne]; omega
          have q5 : ((n : Int) == 45) = false := by rw [beq_eq_false_iff_ne]; omega
          have q6 : ((n : Int) == 95) = false := by rw [beq_eq_false_iff_ne]; omega
          clear h g
          go_wp2_with fail
          go_meet
          exact ⟨by rw [HG.out], ⟨Below.refl _ _⟩⟩
      case rest =>
        obtain ⟨rfl, hbc⟩ := hcut
        have KS := (Sl.at (enc := bv) (e := 5) (b := 0) (xs := [c]) (c := 1) (heap_new (w := wc) (o := .cells #[.int .u8 (c.toNat : Int)] 5) rfl) rfl rfl (show 0 + [c].length ≤ 1 from Nat.le_refl _) (show [c].length ≤ 9223372036854775807 from (by show 1 ≤ _; decide))).string (P := Tryd.prog) (src := 32) (dst := 9) Tryd.underlying32 Tryd.underlying5 Tryd.underlying9
        rw [← HN.out, show [c].length = 1 from rfl] at KS
        obtain ⟨q, hq⟩ : ∃ q : Nat, q = m * (N + 1) := ⟨_, rfl⟩
        have hq9 : q ≤ 1240 := by rw [hq]; exact Nat.mul_le_mul hm2 (show N + 1 ≤ 31 by omega)
        have hmul : (m : Int) * ((N : Int) + 1) = (q : Int) := by rw [hq]; simp
        have hsl := xpath_len N m hm1
        rw [← hq] at hsl
        have HV1 : Aside0 (validB u.data.toList = (decide (N ≤ 20) && decide (q - 1 ≤ 60))) := ⟨by rw [HU.out, str_data, limits_valid hn1 hm1, hq]⟩
        have HV2 := Aside0.mk (show validB (str [c]).data.toList = (letB c && (c != 46)) by rw [str_data, one_valid])
        have HV3 := Aside0.mk (show validB ((⟨#[97]⟩ : ByteArray) ++ str [c] ++ ⟨#[98]⟩).data.toList = (letB c || decide (c = 47)) by rw [data_app, data_app, str_data]; exact mid_valid c)
        have HV4 := Aside0.mk (show validB (u ++ ⟨#[47]⟩).data.toList = false by rw [data_app]; exact end_valid _)
        have HV5 := Aside0.mk (show validB ((⟨#[47]⟩ : ByteArray) ++ u).data.toList = false by rw [data_app]; exact front_valid _)
        have hs1 : (str [c]).size = 1 := by rw [str_size]; rfl
        have hsa : (⟨#[97]⟩ : ByteArray).size = 1 := rfl
        have hsb : (⟨#[98]⟩ : ByteArray).size = 1 := rfl
        have hs3 : ((⟨#[97]⟩ : ByteArray) ++ str [c] ++ ⟨#[98]⟩).size ≤ 1000000000 := by rw [size_app, size_app, hs1, hsa, hsb]; decide
        have hs4 : (u ++ ⟨#[47]⟩).size ≤ 1000000000 := by rw [size_app, show (ByteArray.mk #[47]).size = 1 from rfl]; omega
        have hs5 : ((⟨#[47]⟩ : ByteArray) ++ u).size ≤ 1000000000 := by rw [size_app, show (ByteArray.mk #[47]).size = 1 from rfl]; omega
        have hs2 : (str [c]).size ≤ 1000000000 := by rw [hs1]; omega
        have hs6 : u.size ≤ 1000000000 := by omega
        have HB := Aside0.mk (show Below w.heap.size w (wc.alloc (.cells #[.int .u8 (n : Int)] 5)) from below_step hbc.out ((Below.refl _ _).alloc (Nat.le_refl _) _))
        have hcc : (letB c = true ∧ c ≠ 46 ∧ c ≠ 47) ∨ (letB c = true ∧ c = 46) ∨ (letB c = false ∧ c ≠ 46 ∧ c ≠ 47) ∨ (letB c = false ∧ c = 47) := by
          by_cases h6 : c = 46
          · subst h6; exact .inr (.inl ⟨by decide, rfl⟩)
          · by_cases h7 : c = 47
            · subst h7; exact .inr (.inr (.inr ⟨by decide, rfl⟩))
            · rcases h8 : letB c with _ | _
              · exact .inr (.inr (.inl ⟨rfl, h6, h7⟩))
              · exact .inl ⟨rfl, h6, h7⟩
        have t46 : (46 : UInt8).toNat = 46 := rfl
        have t47 : (47 : UInt8).toNat = 47 := rfl
        have HCC := Aside0.mk hcc
        have HQ := Aside0.mk (And.intro hq hsl)
        clear hcc hbc hq hsl
        rcases HCC.out with ⟨hl, h6, h7⟩ | ⟨hl, h6⟩ | ⟨hl, h6, h7⟩ | ⟨hl, h7⟩
        · have n6 : ((n : Int) == 46) = false := by rw [beq_eq_false_iff_ne, HN.out]; intro h; exact h6 (UInt8.toNat_inj.mp (by omega))
          have n6' : ((n : Int) != 46) = true := by rw [bne, n6]; rfl
          have n7 : ((n : Int) == 47) = false := by rw [beq_eq_false_iff_ne, HN.out]; intro h; exact h7 (UInt8.toNat_inj.mp (by omega))
          have HW2 : Aside0 (validB (str [c]).data.toList = true) := ⟨by rw [HV2.out, hl]; simp [h6]⟩
          have HW3 : Aside0 (validB ((⟨#[97]⟩ : ByteArray) ++ str [c] ++ ⟨#[98]⟩).data.toList = true) := ⟨by rw [HV3.out, hl]; rfl⟩
          simp only [hl]
          clear HV2 HV3 h6 h7
          rcases Nat.lt_or_ge 20 N with hN | hN
          · skip
            have HW1 : Aside0 (validB u.data.toList = false) := ⟨by rw [HV1.out, decide_eq_false (show ¬ N ≤ 20 by omega)]; rfl⟩
            have e1 : decide ((N : Int) ≤ 20) = false := decide_eq_false (by omega)
            have e1' : decide (N ≤ 20) = false := decide_eq_false (by omega)
            go_wp2_with (first
              | (go_at_call 10; refine (valid_calls _ _ (by assumption)).mono ?_; rintro e w1 ⟨rfl, hb1⟩; (first | rw [HW1.out] | rw [HW2.out] | rw [HW3.out] | rw [HV4.out] | rw [HV5.out]); have HB := Aside0.mk (below_step HB.out hb1); clear hb1)
              | (go_at_call 9; refine (awake4_calls _).mono ?_; rintro e w1 ⟨rfl, hb1⟩; have HB := Aside0.mk (below_step HB.out hb1); clear hb1))
            go_ret
            exact ⟨rfl, HB.out⟩
          · rcases Nat.lt_or_ge 60 (q - 1) with hQ | hQ
            · skip
              have HW1 : Aside0 (validB u.data.toList = false) := ⟨by rw [HV1.out, decide_eq_true (show N ≤ 20 by omega), decide_eq_false (show ¬ q - 1 ≤ 60 by omega)]; rfl⟩
              have e1 : decide ((N : Int) ≤ 20) = true := decide_eq_true (by omega)
              have e1' : decide (N ≤ 20) = true := decide_eq_true (by omega)
              have e2 : decide ((q : Int) - 1 ≤ 60) = false := decide_eq_false (by omega)
              go_wp2_with (first
                | (go_at_call 10; refine (valid_calls _ _ (by assumption)).mono ?_; rintro e w1 ⟨rfl, hb1⟩; (first | rw [HW1.out] | rw [HW2.out] | rw [HW3.out] | rw [HV4.out] | rw [HV5.out]); have HB := Aside0.mk (below_step HB.out hb1); clear hb1)
                | (go_at_call 9; refine (awake4_calls _).mono ?_; rintro e w1 ⟨rfl, hb1⟩; have HB := Aside0.mk (below_step HB.out hb1); clear hb1))
              go_ret
              exact ⟨rfl, HB.out⟩
            · skip
              have HW1 : Aside0 (validB u.data.toList = true) := ⟨by rw [HV1.out, decide_eq_true (show N ≤ 20 by omega), decide_eq_true (show q - 1 ≤ 60 by omega)]; rfl⟩
              have e1 : decide ((N : Int) ≤ 20) = true := decide_eq_true (by omega)
              have e1' : decide (N ≤ 20) = true := decide_eq_true (by omega)
              have e2 : decide ((q : Int) - 1 ≤ 60) = true := decide_eq_true (by omega)
              go_wp2_with (first
                | (go_at_call 10; refine (valid_calls _ _ (by assumption)).mono ?_; rintro e w1 ⟨rfl, hb1⟩; (first | rw [HW1.out] | rw [HW2.out] | rw [HW3.out] | rw [HV4.out] | rw [HV5.out]); have HB := Aside0.mk (below_step HB.out hb1); clear hb1)
                | (go_at_call 9; refine (awake4_calls _).mono ?_; rintro e w1 ⟨rfl, hb1⟩; have HB := Aside0.mk (below_step HB.out hb1); clear hb1))
              go_ret
              exact ⟨rfl, HB.out⟩
        · have n6 : ((n : Int) == 46) = true := by rw [HN.out, h6]; rfl
          have n6' : ((n : Int) != 46) = false := by rw [bne, n6]; rfl
          have n7 : ((n : Int) == 47) = false := by rw [beq_eq_false_iff_ne, HN.out]; intro h; exact absurd h (by rw [h6]; decide)
          have HW2 : Aside0 (validB (str [c]).data.toList = false) := ⟨by rw [HV2.out, hl]; rw [h6]; rfl⟩
          have HW3 : Aside0 (validB ((⟨#[97]⟩ : ByteArray) ++ str [c] ++ ⟨#[98]⟩).data.toList = true) := ⟨by rw [HV3.out, hl]; rfl⟩
          simp only [hl]
          clear HV2 HV3 h6
          rcases Nat.lt_or_ge 20 N with hN | hN
          · skip
            have HW1 : Aside0 (validB u.data.toList = false) := ⟨by rw [HV1.out, decide_eq_false (show ¬ N ≤ 20 by omega)]; rfl⟩
            have e1 : decide ((N : Int) ≤ 20) = false := decide_eq_false (by omega)
            have e1' : decide (N ≤ 20) = false := decide_eq_false (by omega)
            go_wp2_with (first
              | (go_at_call 10; refine (valid_calls _ _ (by assumption)).mono ?_; rintro e w1 ⟨rfl, hb1⟩; (first | rw [HW1.out] | rw [HW2.out] | rw [HW3.out] | rw [HV4.out] | rw [HV5.out]); have HB := Aside0.mk (below_step HB.out hb1); clear hb1)
              | (go_at_call 9; refine (awake4_calls _).mono ?_; rintro e w1 ⟨rfl, hb1⟩; have HB := Aside0.mk (below_step HB.out hb1); clear hb1))
            go_ret
            exact ⟨rfl, HB.out⟩
          · rcases Nat.lt_or_ge 60 (q - 1) with hQ | hQ
            · skip
              have HW1 : Aside0 (validB u.data.toList = false) := ⟨by rw [HV1.out, decide_eq_true (show N ≤ 20 by omega), decide_eq_false (show ¬ q - 1 ≤ 60 by omega)]; rfl⟩
              have e1 : decide ((N : Int) ≤ 20) = true := decide_eq_true (by omega)
              have e1' : decide (N ≤ 20) = true := decide_eq_true (by omega)
              have e2 : decide ((q : Int) - 1 ≤ 60) = false := decide_eq_false (by omega)
              go_wp2_with (first
                | (go_at_call 10; refine (valid_calls _ _ (by assumption)).mono ?_; rintro e w1 ⟨rfl, hb1⟩; (first | rw [HW1.out] | rw [HW2.out] | rw [HW3.out] | rw [HV4.out] | rw [HV5.out]); have HB := Aside0.mk (below_step HB.out hb1); clear hb1)
                | (go_at_call 9; refine (awake4_calls _).mono ?_; rintro e w1 ⟨rfl, hb1⟩; have HB := Aside0.mk (below_step HB.out hb1); clear hb1))
              go_ret
              exact ⟨rfl, HB.out⟩
            · skip
              have HW1 : Aside0 (validB u.data.toList = true) := ⟨by rw [HV1.out, decide_eq_true (show N ≤ 20 by omega), decide_eq_true (show q - 1 ≤ 60 by omega)]; rfl⟩
              have e1 : decide ((N : Int) ≤ 20) = true := decide_eq_true (by omega)
              have e1' : decide (N ≤ 20) = true := decide_eq_true (by omega)
              have e2 : decide ((q : Int) - 1 ≤ 60) = true := decide_eq_true (by omega)
              go_wp2_with (first
                | (go_at_call 10; refine (valid_calls _ _ (by assumption)).mono ?_; rintro e w1 ⟨rfl, hb1⟩; (first | rw [HW1.out] | rw [HW2.out] | rw [HW3.out] | rw [HV4.out] | rw [HV5.out]); have HB := Aside0.mk (below_step HB.out hb1); clear hb1)
                | (go_at_call 9; refine (awake4_calls _).mono ?_; rintro e w1 ⟨rfl, hb1⟩; have HB := Aside0.mk (below_step HB.out hb1); clear hb1))
              go_ret
              exact ⟨rfl, HB.out⟩
        · have n6 : ((n : Int) == 46) = false := by rw [beq_eq_false_iff_ne, HN.out]; intro h; exact h6 (UInt8.toNat_inj.mp (by omega))
          have n6' : ((n : Int) != 46) = true := by rw [bne, n6]; rfl
          have n7 : ((n : Int) == 47) = false := by rw [beq_eq_false_iff_ne, HN.out]; intro h; exact h7 (UInt8.toNat_inj.mp (by omega))
          have HW2 : Aside0 (validB (str [c]).data.toList = false) := ⟨by rw [HV2.out, hl]; rfl⟩
          have HW3 : Aside0 (validB ((⟨#[97]⟩ : ByteArray) ++ str [c] ++ ⟨#[98]⟩).data.toList = false) := ⟨by rw [HV3.out, hl]; rw [decide_eq_false h7]; rfl⟩
          simp only [hl]
          clear HV2 HV3 h6 h7
          rcases Nat.lt_or_ge 20 N with hN | hN
          · skip
            have HW1 : Aside0 (validB u.data.toList = false) := ⟨by rw [HV1.out, decide_eq_false (show ¬ N ≤ 20 by omega)]; rfl⟩
            have e1 : decide ((N : Int) ≤ 20) = false := decide_eq_false (by omega)
            have e1' : decide (N ≤ 20) = false := decide_eq_false (by omega)
            go_wp2_with (first
              | (go_at_call 10; refine (valid_calls _ _ (by assumption)).mono ?_; rintro e w1 ⟨rfl, hb1⟩; (first | rw [HW1.out] | rw [HW2.out] | rw [HW3.out] | rw [HV4.out] | rw [HV5.out]); have HB := Aside0.mk (below_step HB.out hb1); clear hb1)
              | (go_at_call 9; refine (awake4_calls _).mono ?_; rintro e w1 ⟨rfl, hb1⟩; have HB := Aside0.mk (below_step HB.out hb1); clear hb1))
            go_ret
            exact ⟨rfl, HB.out⟩
          · rcases Nat.lt_or_ge 60 (q - 1) with hQ | hQ
            · skip
              have HW1 : Aside0 (validB u.data.toList = false) := ⟨by rw [HV1.out, decide_eq_true (show N ≤ 20 by omega), decide_eq_false (show ¬ q - 1 ≤ 60 by omega)]; rfl⟩
              have e1 : decide ((N : Int) ≤ 20) = true := decide_eq_true (by omega)
              have e1' : decide (N ≤ 20) = true := decide_eq_true (by omega)
              have e2 : decide ((q : Int) - 1 ≤ 60) = false := decide_eq_false (by omega)
              go_wp2_with (first
                | (go_at_call 10; refine (valid_calls _ _ (by assumption)).mono ?_; rintro e w1 ⟨rfl, hb1⟩; (first | rw [HW1.out] | rw [HW2.out] | rw [HW3.out] | rw [HV4.out] | rw [HV5.out]); have HB := Aside0.mk (below_step HB.out hb1); clear hb1)
                | (go_at_call 9; refine (awake4_calls _).mono ?_; rintro e w1 ⟨rfl, hb1⟩; have HB := Aside0.mk (below_step HB.out hb1); clear hb1))
              go_ret
              exact ⟨rfl, HB.out⟩
            · skip
              have HW1 : Aside0 (validB u.data.toList = true) := ⟨by rw [HV1.out, decide_eq_true (show N ≤ 20 by omega), decide_eq_true (show q - 1 ≤ 60 by omega)]; rfl⟩
              have e1 : decide ((N : Int) ≤ 20) = true := decide_eq_true (by omega)
              have e1' : decide (N ≤ 20) = true := decide_eq_true (by omega)
              have e2 : decide ((q : Int) - 1 ≤ 60) = true := decide_eq_true (by omega)
              go_wp2_with (first
                | (go_at_call 10; refine (valid_calls _ _ (by assumption)).mono ?_; rintro e w1 ⟨rfl, hb1⟩; (first | rw [HW1.out] | rw [HW2.out] | rw [HW3.out] | rw [HV4.out] | rw [HV5.out]); have HB := Aside0.mk (below_step HB.out hb1); clear hb1)
                | (go_at_call 9; refine (awake4_calls _).mono ?_; rintro e w1 ⟨rfl, hb1⟩; have HB := Aside0.mk (below_step HB.out hb1); clear hb1))
              go_ret
              exact ⟨rfl, HB.out⟩
        · have n6 : ((n : Int) == 46) = false := by rw [beq_eq_false_iff_ne, HN.out]; intro h; exact absurd h (by rw [h7]; decide)
          have n6' : ((n : Int) != 46) = true := by rw [bne, n6]; rfl
          have n7 : ((n : Int) == 47) = true := by rw [HN.out, h7]; rfl
          have HW2 : Aside0 (validB (str [c]).data.toList = false) := ⟨by rw [HV2.out, hl]; rfl⟩
          have HW3 : Aside0 (validB ((⟨#[97]⟩ : ByteArray) ++ str [c] ++ ⟨#[98]⟩).data.toList = true) := ⟨by rw [HV3.out, hl]; rw [h7]; rfl⟩
          simp only [hl]
          clear HV2 HV3 h7
          rcases Nat.lt_or_ge 20 N with hN | hN
          · skip
            have HW1 : Aside0 (validB u.data.toList = false) := ⟨by rw [HV1.out, decide_eq_false (show ¬ N ≤ 20 by omega)]; rfl⟩
            have e1 : decide ((N : Int) ≤ 20) = false := decide_eq_false (by omega)
            have e1' : decide (N ≤ 20) = false := decide_eq_false (by omega)
            go_wp2_with (first
              | (go_at_call 10; refine (valid_calls _ _ (by assumption)).mono ?_; rintro e w1 ⟨rfl, hb1⟩; (first | rw [HW1.out] | rw [HW2.out] | rw [HW3.out] | rw [HV4.out] | rw [HV5.out]); have HB := Aside0.mk (below_step HB.out hb1); clear hb1)
              | (go_at_call 9; refine (awake4_calls _).mono ?_; rintro e w1 ⟨rfl, hb1⟩; have HB := Aside0.mk (below_step HB.out hb1); clear hb1))
            go_ret
            exact ⟨rfl, HB.out⟩
          · rcases Nat.lt_or_ge 60 (q - 1) with hQ | hQ
            · skip
              have HW1 : Aside0 (validB u.data.toList = false) := ⟨by rw [HV1.out, decide_eq_true (show N ≤ 20 by omega), decide_eq_false (show ¬ q - 1 ≤ 60 by omega)]; rfl⟩
              have e1 : decide ((N : Int) ≤ 20) = true := decide_eq_true (by omega)
              have e1' : decide (N ≤ 20) = true := decide_eq_true (by omega)
              have e2 : decide ((q : Int) - 1 ≤ 60) = false := decide_eq_false (by omega)
              go_wp2_with (first
                | (go_at_call 10; refine (valid_calls _ _ (by assumption)).mono ?_; rintro e w1 ⟨rfl, hb1⟩; (first | rw [HW1.out] | rw [HW2.out] | rw [HW3.out] | rw [HV4.out] | rw [HV5.out]); have HB := Aside0.mk (below_step HB.out hb1); clear hb1)
                | (go_at_call 9; refine (awake4_calls _).mono ?_; rintro e w1 ⟨rfl, hb1⟩; have HB := Aside0.mk (below_step HB.out hb1); clear hb1))
              go_ret
              exact ⟨rfl, HB.out⟩
            · skip
              have HW1 : Aside0 (validB u.data.toList = true) := ⟨by rw [HV1.out, decide_eq_true (show N ≤ 20 by omega), decide_eq_true (show q - 1 ≤ 60 by omega)]; rfl⟩
              have e1 : decide ((N : Int) ≤ 20) = true := decide_eq_true (by omega)
              have e1' : decide (N ≤ 20) = true := decide_eq_true (by omega)
              have e2 : decide ((q : Int) - 1 ≤ 60) = true := decide_eq_true (by omega)
              go_wp2_with (first
                | (go_at_call 10; refine (valid_calls _ _ (by assumption)).mono ?_; rintro e w1 ⟨rfl, hb1⟩; (first | rw [HW1.out] | rw [HW2.out] | rw [HW3.out] | rw [HV4.out] | rw [HV5.out]); have HB := Aside0.mk (below_step HB.out hb1); clear hb1)
                | (go_at_call 9; refine (awake4_calls _).mono ?_; rintro e w1 ⟨rfl, hb1⟩; have HB := Aside0.mk (below_step HB.out hb1); clear hb1))
              go_ret
              exact ⟨rfl, HB.out⟩
end Go.Proofs.YtfjjaepchidcoaaDoor
