/-
  A star stays within a part, two go on over parts; a question mark is one byte of a part; any other byte is itself. No condition: for every input.
-/
import Derived.Test.YtkalfkgnjmkjgaaDoorIgnSays
import Derived.Test.YtkalfkgnjmkjgaaDoorIgnAwake
import Derived.Test.YtkalfkgnjmkjgaaDoorRefPath4
import Derived.Test.YtkalfkgnjmkjgaaDoorAlike
namespace Go.Proofs.YtkalfkgnjmkjgaaDoor
open Go.RowKit Go.Joins
set_option linter.unusedVariables false
set_option linter.unusedSimpArgs false

def plN (T : List UInt8) (k : Nat) : Bool := plainB (T.take k)
theorem plN_succ {T : List UInt8} {k : Nat} (h : k < T.length) : plN T (k + 1) = (plN T k && (T.getD k 0 != 42 && T.getD k 0 != 63)) := by
  unfold plN plainB
  rw [List.take_add_one, List.getElem?_eq_getElem h, List.all_append, List.getD_eq_getElem?_getD, List.getElem?_eq_getElem h]
  simp
theorem deep_flat (T : List UInt8) : T.any (· == 47) = !flatB T := by
  induction T with
  | nil => rfl
  | cons c T ih => simp only [List.any_cons, ih, flatB, List.all_cons]; simp [bne]

set_option maxRecDepth 4000 in
set_option maxHeartbeats 16000000 in
theorem stars12 (a b c : ByteArray) (w : World) (ha : a.size ≤ 9223372036854775807) (hb : b.size ≤ 9223372036854775807) (hc : c.size ≤ 9223372036854775807) :
    Calls Tryd.prog 5 #[.string a, .string b, .string c] w fun e w' => e = .returned (.bool true) ∧ Below w.heap.size w w' := by
  have HA := Aside0.mk (fun o => (Below.refl w.heap.size w).alloc (Nat.le_refl _) o)
  go_enter Tryd.func5, Tryd.ntmps5
  go_wp2_with fail
  refine (sum_calls (e := 3) (b0 := 0) (a.size : Int) _ [(b.size : Int), (c.size : Int)] _ (by omega) (by omega) (by intro x hx; simp at hx; rcases hx with rfl | rfl <;> omega) (Sl.at (heap_new rfl) rfl rfl (by simp) (by simp))).mono ?_
  rintro e w1 ⟨rfl, rfl⟩
  obtain ⟨m, hm⟩ : ∃ m, m = sumI (a.size : Int) [(b.size : Int), (c.size : Int)] := ⟨_, rfl⟩
  rw [← hm]
  obtain ⟨w1, hw1⟩ : ∃ w1, w1 = w.alloc (.cells #[.int .i64 (b.size : Int), .int .i64 (c.size : Int)] 3) := ⟨_, rfl⟩
  have HB1 : Aside0 (Below w.heap.size w w1) := ⟨by rw [hw1]; exact HA.out _⟩
  rw [← hw1]
  clear hw1 HA
  by_cases h100 : 100 < m
  · have d1 : decide (100 < m) = true := decide_eq_true h100
    clear hm
    go_wp2_with (go_at_call 8; refine (awake12_calls _).mono ?_; rintro e w2 ⟨rfl, hb2⟩; have HB2 := Aside0.mk (below_step HB1.out hb2); clear hb2)
    go_ret
    exact ⟨rfl, HB2.out⟩
  · have d1 : decide (100 < m) = false := decide_eq_false h100
    have hsum := sumI_le 100 (by decide) [(b.size : Int), (c.size : Int)] a.size (by omega)
    simp at hsum
    clear hm
    by_cases h0 : a.size = 0
    · have d2 : ((a.size : Int) == 0) = true := by rw [beq_iff_eq]; omega
      go_wp2_with (go_at_call 8; refine (awake12_calls _).mono ?_; rintro e w2 ⟨rfl, hb2⟩; have HB2 := Aside0.mk (below_step HB1.out hb2); clear hb2)
      go_ret
      exact ⟨rfl, HB2.out⟩
    · have d2 : ((a.size : Int) == 0) = false := by rw [beq_eq_false_iff_ne]; omega
      have hab : (b ++ c).size = b.size + c.size := size_app _ _
      go_wp2_with fail
      go_loopw [7, 8] (fun v i wr => ∃ k : Nat, k ≤ a.size ∧ i = .int .i64 k ∧ v = .bool (deepN a.data.toList k) ∧ w1 = wr) (fun v i wr => a.size - (intOf i).toNat)
      case atStart => exact ⟨0, Nat.zero_le _, rfl, rfl, rfl⟩
      case round =>
        obtain ⟨k, hk, rfl, rfl, rfl⟩ := hrel
        by_cases hlt : k < a.size
        · have HD := Aside0.mk (deepN_succ (T := a.data.toList) (k := k) (by rw [len_data]; exact hlt))
          obtain ⟨x, hx⟩ : ∃ x, deepN a.data.toList k = x := ⟨_, rfl⟩
          rw [hx] at HD ⊢
          have hg : a.data.toList.getD k 0 = a[k] := by
            rw [List.getD_eq_getElem?_getD, List.getElem?_eq_getElem (by rw [len_data]; exact hlt)]; rfl
          rw [hg] at HD
          have HH : Aside0 (((a[k].toNat : Int) == 47) = (a[k] == 47)) := ⟨by
            rw [Bool.eq_iff_iff, beq_iff_eq, beq_iff_eq]
            exact ⟨fun h => UInt8.toNat_inj.1 (by have : (47 : UInt8).toNat = 47 := rfl; omega), fun h => by rw [h]; rfl⟩⟩
          clear hx hg
          cases x with
          | true =>
            go_wp2_with fail
            go_roundw
            case rel => exact ⟨k + 1, by omega, by go_num, by rw [HD.out]; rfl, by first | exact trivial | rfl⟩
            case measure => simp [intOf]; omega
          | false =>
            rcases hy : (a[k] == 47) with _ | _
            · have e1 : ((a[k].toNat : Int) == 47) = false := by rw [HH.out, hy]
              have HY := Aside0.mk hy
              clear hy
              go_wp2_with fail
              go_roundw
              case rel => exact ⟨k + 1, by omega, by go_num, by rw [HD.out, HY.out]; rfl, by first | exact trivial | rfl⟩
              case measure => simp [intOf]; omega
            · have e1 : ((a[k].toNat : Int) == 47) = true := by rw [HH.out, hy]
              have HY := Aside0.mk hy
              clear hy
              go_wp2_with fail
              go_roundw
              case rel => exact ⟨k + 1, by omega, by go_num, by rw [HD.out, HY.out]; rfl, by first | exact trivial | rfl⟩
              case measure => simp [intOf]; omega
        · obtain rfl : k = a.size := by omega
          obtain ⟨dp, hdp⟩ : ∃ dp, deepN a.data.toList a.size = dp := ⟨_, rfl⟩
          rw [hdp]
          have HDP := Aside0.mk hdp
          clear hdp
          go_wp2_with fail
          go_loopw [9, 10] (fun v i wr => ∃ k : Nat, k ≤ (b ++ c).size ∧ i = .int .i64 k ∧ v = .bool (plN (b ++ c).data.toList k) ∧ w1 = wr) (fun v i wr => (b ++ c).size - (intOf i).toNat)
          case atStart => exact ⟨0, Nat.zero_le _, rfl, rfl, rfl⟩
          case round =>
            obtain ⟨k, hk, rfl, rfl, rfl⟩ := hrel
            by_cases hlt : k < (b ++ c).size
            · have HD := Aside0.mk (plN_succ (T := (b ++ c).data.toList) (k := k) (by rw [len_data]; exact hlt))
              obtain ⟨x, hx⟩ : ∃ x, plN (b ++ c).data.toList k = x := ⟨_, rfl⟩
              rw [hx] at HD ⊢
              have hg : (b ++ c).data.toList.getD k 0 = (b ++ c)[k] := by
                rw [List.getD_eq_getElem?_getD, List.getElem?_eq_getElem (by rw [len_data]; exact hlt)]; rfl
              rw [hg] at HD
              clear hx hg
              cases x with
              | true =>
                have HH : Aside0 (∀ z : UInt8, ((b ++ c)[k] = z ↔ ((b ++ c)[k].toNat : Int) = (z.toNat : Int))) := ⟨fun z => ⟨fun h => by rw [h], fun h => UInt8.toNat_inj.1 (by omega)⟩⟩
                by_cases h42 : (b ++ c)[k] = 42
                · have e1 := (HH.out 42).1 h42
                  rw [show (((42 : UInt8).toNat : Nat) : Int) = 42 from rfl] at e1
                  have HD2 : Aside0 (plN (b ++ c).data.toList (k + 1) = false) := ⟨by rw [HD.out, h42]; rfl⟩
                  clear h42
                  go_wp2_with fail
                  go_roundw
                  case rel => exact ⟨k + 1, by omega, by go_num, by rw [HD2.out], by first | exact trivial | rfl⟩
                  case measure => simp [intOf]; omega
                · have e1 : ¬ ((b ++ c)[k].toNat : Int) = 42 := fun h => h42 ((HH.out 42).2 h)
                  have h42' : ((b ++ c)[k] != 42) = true := by rw [bne_iff_ne]; exact h42
                  by_cases h63 : (b ++ c)[k] = 63
                  · have e2 := (HH.out 63).1 h63
                    rw [show (((63 : UInt8).toNat : Nat) : Int) = 63 from rfl] at e2
                    have HD2 : Aside0 (plN (b ++ c).data.toList (k + 1) = false) := ⟨by rw [HD.out, h63]; rfl⟩
                    clear h42 h42' h63 e1
                    go_wp2_with fail
                    go_roundw
                    case rel => exact ⟨k + 1, by omega, by go_num, by rw [HD2.out], by first | exact trivial | rfl⟩
                    case measure => simp [intOf]; omega
                  · have e2 : ¬ ((b ++ c)[k].toNat : Int) = 63 := fun h => h63 ((HH.out 63).2 h)
                    have h63' : ((b ++ c)[k] != 63) = true := by rw [bne_iff_ne]; exact h63
                    have HD2 : Aside0 (plN (b ++ c).data.toList (k + 1) = true) := ⟨by rw [HD.out, h42', h63']; rfl⟩
                    have b1 : (((b ++ c)[k].toNat : Int) != 42) = true := by rw [bne_iff_ne]; exact e1
                    have b2 : (((b ++ c)[k].toNat : Int) != 63) = true := by rw [bne_iff_ne]; exact e2
                    clear h42 h42' h63 h63'
                    go_wp2_with fail
                    go_roundw
                    case rel => exact ⟨k + 1, by omega, by go_num, by rw [HD2.out], by first | exact trivial | rfl⟩
                    case measure => simp [intOf]; omega
              | false =>
                go_wp2_with fail
                go_roundw
                case rel => exact ⟨k + 1, by omega, by go_num, by rw [HD.out]; rfl, by first | exact trivial | rfl⟩
                case measure => simp [intOf]; omega
            · obtain rfl : k = (b ++ c).size := by omega
              obtain ⟨pl, hpl⟩ : ∃ pl, plN (b ++ c).data.toList (b ++ c).size = pl := ⟨_, rfl⟩
              rw [hpl]
              have hpl2 : plainB (b ++ c).data.toList = pl := by
                rw [← hpl, plN, List.take_of_length_le (by rw [len_data]; omega)]
              clear hpl
              cases pl with
              | false =>
                clear hpl2
                go_wp2_with (go_at_call 8; refine (awake12_calls _).mono ?_; rintro e w2 ⟨rfl, hb2⟩; have HB2 := Aside0.mk (below_step HB1.out hb2); clear hb2)
                go_ret
                exact ⟨rfl, HB2.out⟩
              | true =>
                have hBC := hpl2
                rw [data_app, plain_app, Bool.and_eq_true] at hBC
                obtain ⟨hB, hC⟩ := hBC
                have hla := len_data a
                have hlb := len_data b
                have hlc := len_data c
                have hfl : flatB a.data.toList = !dp := by
                  have h := HDP.out
                  rw [deepN, List.take_of_length_le (by omega), deep_flat] at h
                  rw [← h, Bool.not_not]
                have hsS : (b ++ a ++ c).data.toList = b.data.toList ++ a.data.toList ++ c.data.toList := by rw [data_app, data_app]
                have hsl : (b.data.toList ++ a.data.toList ++ c.data.toList).length ≤ 200 := by simp only [List.length_append]; omega
                have mk : ∀ (x y : ByteArray) (r : Bool), matchL x.data.toList y.data.toList = r → Aside0 (∀ W, Calls Tryd.prog 9 #[.string x, .string y] W fun e w' => e = .returned (.bool r) ∧ Below W.heap.size W w') := fun x y r h => ⟨fun W => by have h1 := match_any x y W; rw [h] at h1; exact h1⟩
                have M1 := mk ⟨#[42, 42]⟩ (b ++ a ++ c) true (by rw [hsS]; exact match_wide hsl)
                have M2 := mk (b ++ ⟨#[42, 42]⟩ ++ c) (b ++ a ++ c) true (by rw [hsS, data_app, data_app]; exact match_mid _ _ (tok_mid2 hB hC) rfl (by simp; omega) hsl (fun x _ => rfl))
                have M3 := mk ⟨#[42]⟩ a (!dp) (by rw [← hfl]; exact match_star (by omega))
                obtain ⟨o4, ho4⟩ : ∃ o4, matchL (b ++ ⟨#[42]⟩ ++ c).data.toList (b ++ a ++ c).data.toList = o4 := ⟨_, rfl⟩
                have M4 := mk (b ++ ⟨#[42]⟩ ++ c) (b ++ a ++ c) o4 ho4
                have h4 : dp = false → o4 = true := fun h => by
                  rw [← ho4, hsS, data_app, data_app]
                  refine match_mid _ _ (tok_mid1 hB hC) rfl (by simp; omega) hsl (fun x hx => ?_)
                  rw [h] at hfl
                  exact List.all_eq_true.1 hfl x hx
                have M5 := mk ⟨#[63]⟩ a (decide (a.size = 1) && !dp) (by rw [← hfl, ← hla]; exact match_any1 (by omega))
                have M6 := mk (b ++ c) (b ++ c) true (by rw [match_plain hpl2 (by rw [len_data]; omega) (by rw [len_data]; omega), decide_eq_true rfl])
                have M7 := mk (b ++ c) (b ++ a ++ c) false (by
                  rw [hsS, match_plain hpl2 (by rw [len_data]; omega) hsl, decide_eq_false]
                  intro he
                  have := congrArg List.length he
                  rw [len_data] at this
                  simp only [List.length_append] at this
                  omega)
                clear hpl2 hB hC hla hlb hlc hfl hsS hsl mk ho4
                obtain ⟨q, hq⟩ : ∃ q, decide (a.size = 1) = q := ⟨_, rfl⟩
                rw [hq] at M5
                have hq2 : ((a.size : Int) == 1) = q := by
                  rw [← hq, Bool.eq_iff_iff, beq_iff_eq, decide_eq_true_eq]; omega
                have HB2 := HB1
                clear hq HDP
                cases dp with
                | false =>
                  obtain rfl : o4 = true := h4 rfl
                  clear h4
                  cases q with
                  | false =>
                    go_wp2_with fail
                    refine (M1.out _).mono ?_
                    rintro e v1 ⟨rfl, hb1⟩
                    have HC1 := Aside0.mk (below_step HB2.out hb1)
                    clear hb1
                    go_wp2_with fail
                    refine (M2.out _).mono ?_
                    rintro e v2 ⟨rfl, hb2⟩
                    have HC2 := Aside0.mk (below_step HC1.out hb2)
                    clear hb2
                    go_wp2_with fail
                    refine (M3.out _).mono ?_
                    rintro e v3 ⟨rfl, hb3⟩
                    have HC3 := Aside0.mk (below_step HC2.out hb3)
                    clear hb3
                    go_wp2_with fail
                    refine (M4.out _).mono ?_
                    rintro e v4 ⟨rfl, hb4⟩
                    have HC4 := Aside0.mk (below_step HC3.out hb4)
                    clear hb4
                    go_wp2_with fail
                    refine (M5.out _).mono ?_
                    rintro e v5 ⟨rfl, hb5⟩
                    have HC5 := Aside0.mk (below_step HC4.out hb5)
                    clear hb5
                    go_wp2_with fail
                    refine (M6.out _).mono ?_
                    rintro e v6 ⟨rfl, hb6⟩
                    have HC6 := Aside0.mk (below_step HC5.out hb6)
                    clear hb6
                    go_wp2_with fail
                    refine (M7.out _).mono ?_
                    rintro e v7 ⟨rfl, hb7⟩
                    have HC7 := Aside0.mk (below_step HC6.out hb7)
                    clear hb7
                    go_wp2_with (go_at_call 8; refine (awake12_calls _).mono ?_; rintro e v8 ⟨rfl, hb8⟩; have HC8 := Aside0.mk (below_step HC7.out hb8); clear hb8)
                    go_ret
                    exact ⟨rfl, HC8.out⟩
                  | true =>
                    go_wp2_with fail
                    refine (M1.out _).mono ?_
                    rintro e v1 ⟨rfl, hb1⟩
                    have HC1 := Aside0.mk (below_step HB2.out hb1)
                    clear hb1
                    go_wp2_with fail
                    refine (M2.out _).mono ?_
                    rintro e v2 ⟨rfl, hb2⟩
                    have HC2 := Aside0.mk (below_step HC1.out hb2)
                    clear hb2
                    go_wp2_with fail
                    refine (M3.out _).mono ?_
                    rintro e v3 ⟨rfl, hb3⟩
                    have HC3 := Aside0.mk (below_step HC2.out hb3)
                    clear hb3
                    go_wp2_with fail
                    refine (M4.out _).mono ?_
                    rintro e v4 ⟨rfl, hb4⟩
                    have HC4 := Aside0.mk (below_step HC3.out hb4)
                    clear hb4
                    go_wp2_with fail
                    refine (M5.out _).mono ?_
                    rintro e v5 ⟨rfl, hb5⟩
                    have HC5 := Aside0.mk (below_step HC4.out hb5)
                    clear hb5
                    go_wp2_with fail
                    refine (M6.out _).mono ?_
                    rintro e v6 ⟨rfl, hb6⟩
                    have HC6 := Aside0.mk (below_step HC5.out hb6)
                    clear hb6
                    go_wp2_with fail
                    refine (M7.out _).mono ?_
                    rintro e v7 ⟨rfl, hb7⟩
                    have HC7 := Aside0.mk (below_step HC6.out hb7)
                    clear hb7
                    go_wp2_with (go_at_call 8; refine (awake12_calls _).mono ?_; rintro e v8 ⟨rfl, hb8⟩; have HC8 := Aside0.mk (below_step HC7.out hb8); clear hb8)
                    go_ret
                    exact ⟨rfl, HC8.out⟩
                | true =>
                  clear h4
                  cases o4 with
                  | false =>
                    cases q with
                    | false =>
                      go_wp2_with fail
                      refine (M1.out _).mono ?_
                      rintro e v1 ⟨rfl, hb1⟩
                      have HC1 := Aside0.mk (below_step HB2.out hb1)
                      clear hb1
                      go_wp2_with fail
                      refine (M2.out _).mono ?_
                      rintro e v2 ⟨rfl, hb2⟩
                      have HC2 := Aside0.mk (below_step HC1.out hb2)
                      clear hb2
                      go_wp2_with fail
                      refine (M3.out _).mono ?_
                      rintro e v3 ⟨rfl, hb3⟩
                      have HC3 := Aside0.mk (below_step HC2.out hb3)
                      clear hb3
                      go_wp2_with fail
                      refine (M4.out _).mono ?_
                      rintro e v4 ⟨rfl, hb4⟩
                      have HC4 := Aside0.mk (below_step HC3.out hb4)
                      clear hb4
                      go_wp2_with fail
                      refine (M5.out _).mono ?_
                      rintro e v5 ⟨rfl, hb5⟩
                      have HC5 := Aside0.mk (below_step HC4.out hb5)
                      clear hb5
                      go_wp2_with fail
                      refine (M6.out _).mono ?_
                      rintro e v6 ⟨rfl, hb6⟩
                      have HC6 := Aside0.mk (below_step HC5.out hb6)
                      clear hb6
                      go_wp2_with fail
                      refine (M7.out _).mono ?_
                      rintro e v7 ⟨rfl, hb7⟩
                      have HC7 := Aside0.mk (below_step HC6.out hb7)
                      clear hb7
                      go_wp2_with (go_at_call 8; refine (awake12_calls _).mono ?_; rintro e v8 ⟨rfl, hb8⟩; have HC8 := Aside0.mk (below_step HC7.out hb8); clear hb8)
                      go_ret
                      exact ⟨rfl, HC8.out⟩
                    | true =>
                      go_wp2_with fail
                      refine (M1.out _).mono ?_
                      rintro e v1 ⟨rfl, hb1⟩
                      have HC1 := Aside0.mk (below_step HB2.out hb1)
                      clear hb1
                      go_wp2_with fail
                      refine (M2.out _).mono ?_
                      rintro e v2 ⟨rfl, hb2⟩
                      have HC2 := Aside0.mk (below_step HC1.out hb2)
                      clear hb2
                      go_wp2_with fail
                      refine (M3.out _).mono ?_
                      rintro e v3 ⟨rfl, hb3⟩
                      have HC3 := Aside0.mk (below_step HC2.out hb3)
                      clear hb3
                      go_wp2_with fail
                      refine (M4.out _).mono ?_
                      rintro e v4 ⟨rfl, hb4⟩
                      have HC4 := Aside0.mk (below_step HC3.out hb4)
                      clear hb4
                      go_wp2_with fail
                      refine (M5.out _).mono ?_
                      rintro e v5 ⟨rfl, hb5⟩
                      have HC5 := Aside0.mk (below_step HC4.out hb5)
                      clear hb5
                      go_wp2_with fail
                      refine (M6.out _).mono ?_
                      rintro e v6 ⟨rfl, hb6⟩
                      have HC6 := Aside0.mk (below_step HC5.out hb6)
                      clear hb6
                      go_wp2_with fail
                      refine (M7.out _).mono ?_
                      rintro e v7 ⟨rfl, hb7⟩
                      have HC7 := Aside0.mk (below_step HC6.out hb7)
                      clear hb7
                      go_wp2_with (go_at_call 8; refine (awake12_calls _).mono ?_; rintro e v8 ⟨rfl, hb8⟩; have HC8 := Aside0.mk (below_step HC7.out hb8); clear hb8)
                      go_ret
                      exact ⟨rfl, HC8.out⟩
                  | true =>
                    cases q with
                    | false =>
                      go_wp2_with fail
                      refine (M1.out _).mono ?_
                      rintro e v1 ⟨rfl, hb1⟩
                      have HC1 := Aside0.mk (below_step HB2.out hb1)
                      clear hb1
                      go_wp2_with fail
                      refine (M2.out _).mono ?_
                      rintro e v2 ⟨rfl, hb2⟩
                      have HC2 := Aside0.mk (below_step HC1.out hb2)
                      clear hb2
                      go_wp2_with fail
                      refine (M3.out _).mono ?_
                      rintro e v3 ⟨rfl, hb3⟩
                      have HC3 := Aside0.mk (below_step HC2.out hb3)
                      clear hb3
                      go_wp2_with fail
                      refine (M4.out _).mono ?_
                      rintro e v4 ⟨rfl, hb4⟩
                      have HC4 := Aside0.mk (below_step HC3.out hb4)
                      clear hb4
                      go_wp2_with fail
                      refine (M5.out _).mono ?_
                      rintro e v5 ⟨rfl, hb5⟩
                      have HC5 := Aside0.mk (below_step HC4.out hb5)
                      clear hb5
                      go_wp2_with fail
                      refine (M6.out _).mono ?_
                      rintro e v6 ⟨rfl, hb6⟩
                      have HC6 := Aside0.mk (below_step HC5.out hb6)
                      clear hb6
                      go_wp2_with fail
                      refine (M7.out _).mono ?_
                      rintro e v7 ⟨rfl, hb7⟩
                      have HC7 := Aside0.mk (below_step HC6.out hb7)
                      clear hb7
                      go_wp2_with (go_at_call 8; refine (awake12_calls _).mono ?_; rintro e v8 ⟨rfl, hb8⟩; have HC8 := Aside0.mk (below_step HC7.out hb8); clear hb8)
                      go_ret
                      exact ⟨rfl, HC8.out⟩
                    | true =>
                      go_wp2_with fail
                      refine (M1.out _).mono ?_
                      rintro e v1 ⟨rfl, hb1⟩
                      have HC1 := Aside0.mk (below_step HB2.out hb1)
                      clear hb1
                      go_wp2_with fail
                      refine (M2.out _).mono ?_
                      rintro e v2 ⟨rfl, hb2⟩
                      have HC2 := Aside0.mk (below_step HC1.out hb2)
                      clear hb2
                      go_wp2_with fail
                      refine (M3.out _).mono ?_
                      rintro e v3 ⟨rfl, hb3⟩
                      have HC3 := Aside0.mk (below_step HC2.out hb3)
                      clear hb3
                      go_wp2_with fail
                      refine (M4.out _).mono ?_
                      rintro e v4 ⟨rfl, hb4⟩
                      have HC4 := Aside0.mk (below_step HC3.out hb4)
                      clear hb4
                      go_wp2_with fail
                      refine (M5.out _).mono ?_
                      rintro e v5 ⟨rfl, hb5⟩
                      have HC5 := Aside0.mk (below_step HC4.out hb5)
                      clear hb5
                      go_wp2_with fail
                      refine (M6.out _).mono ?_
                      rintro e v6 ⟨rfl, hb6⟩
                      have HC6 := Aside0.mk (below_step HC5.out hb6)
                      clear hb6
                      go_wp2_with fail
                      refine (M7.out _).mono ?_
                      rintro e v7 ⟨rfl, hb7⟩
                      have HC7 := Aside0.mk (below_step HC6.out hb7)
                      clear hb7
                      go_wp2_with (go_at_call 8; refine (awake12_calls _).mono ?_; rintro e v8 ⟨rfl, hb8⟩; have HC8 := Aside0.mk (below_step HC7.out hb8); clear hb8)
                      go_ret
                      exact ⟨rfl, HC8.out⟩
end Go.Proofs.YtkalfkgnjmkjgaaDoor
