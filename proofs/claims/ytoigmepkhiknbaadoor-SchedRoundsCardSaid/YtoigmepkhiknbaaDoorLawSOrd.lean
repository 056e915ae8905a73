/-
  SchedOrder: visits go by paths, then blocks, round and round. No condition.
-/
import Derived.Test.YtoigmepkhiknbaaDoorSchAwake
import Derived.Test.YtoigmepkhiknbaaDoorSchOrd
import Derived.Test.YtoigmepkhiknbaaDoorRound
namespace Go.Proofs.YtoigmepkhiknbaaDoor
open Go.RowKit Go.Joins Go.Maps
set_option linter.unusedVariables false
set_option linter.unusedSimpArgs false

theorem low_keep {B g mb : Nat} {w wr w' : World} (h : Below B w wr) (hs : B ≤ wr.heap.size) (hk : KeepS g mb wr w') (hg : B ≤ g) (hm : B ≤ mb) : Below B w w' :=
  ⟨hk.os.trans h.os, hk.tape.trans h.tape, hk.output.trans h.output, Nat.le_trans h.size hk.size, fun k hk2 => (hk.block k (by omega) (by omega) (by omega)).trans (h.block k hk2)⟩
theorem vis_cells {w : World} {b r n c : Nat} {L : List Ent} (h : w.ownsRow b 36 2 (.slice (some ⟨r, 0, none⟩) n c) L.length (L.flatMap visC)) (i : Nat) (hi : i < L.length) : w.cell? ⟨r, i * 2, none⟩ = some (.string (str (L[i]'hi).1)) ∧ w.cell? ⟨r, i * 2 + 1, none⟩ = some (.int .i64 ((L[i]'hi).2 : Int)) := by
  have hf := flat_get visC_len L i
  have e0 := h.cells (g := r) rfl (i * 2 + 0) _ ((hf 0 hi (by decide)).trans rfl)
  have e1 := h.cells (g := r) rfl (i * 2 + 1) _ ((hf 1 hi (by decide)).trans rfl)
  rw [adr0] at e0 e1
  exact ⟨e0, e1⟩
/-- Where the law stands. -/
structure OrS (w w1 wr : World) (g mb : Nat) (S : SS) : Prop where
  is : IsS wr w.heap.size g mb S
  low : Below w.heap.size w wr
  hg : g < w1.heap.size
  hm : mb < w1.heap.size
  hs : w.heap.size ≤ w1.heap.size
  h1 : w1.heap.size ≤ wr.heap.size
theorem OrS.keep {w w1 wr w' : World} {g mb : Nat} {S S' : SS} (h : OrS w w1 wr g mb S) (hi : IsS w' w.heap.size g mb S') (hk : KeepS g mb wr w') : OrS w w1 w' g mb S' :=
  ⟨hi, low_keep h.low (Nat.le_trans h.hs h.h1) hk h.is.hg h.is.hm, h.hg, h.hm, h.hs, Nat.le_trans h.h1 hk.size⟩
theorem OrS.below {w w1 wr w' : World} {g mb : Nat} {S : SS} (h : OrS w w1 wr g mb S) (hb : Below wr.heap.size wr w') : OrS w w1 w' g mb S :=
  h.keep (h.is.below hb) (KeepS.of_below hb)
theorem OrS.grown {w w1 wr w' : World} {g mb e size n : Nat} {S : SS} {v : Value} {cs : List Value} (h : OrS w w1 wr g mb S) (ho : wr.ownsRow w1.heap.size e size v n cs) (hgr : wr.grownBy w' v.ownBlock) : OrS w w1 w' g mb S := by
  have hB : Below w1.heap.size wr w' := (Below.refl _ _).grown hgr h.h1 (own_base ho)
  exact ⟨h.is.belowB hB h.hg h.hm, ⟨hB.os.trans h.low.os, hB.tape.trans h.low.tape, hB.output.trans h.low.output, Nat.le_trans h.low.size hB.size, fun k hk => (hB.block k (by have := h.hs; omega)).trans (h.low.block k hk)⟩, h.hg, h.hm, h.hs, Nat.le_trans h.h1 hB.size⟩

set_option maxRecDepth 10000 in
set_option maxHeartbeats 8000000 in
theorem law_order_calls (a0 b0 q : Int) (d : Bool) (w : World) (ha : -9223372036854775808 ≤ a0 ∧ a0 ≤ 9223372036854775807) (hb : -9223372036854775808 ≤ b0 ∧ b0 ≤ 9223372036854775807) (hq : -9223372036854775808 ≤ q ∧ q ≤ 9223372036854775807) :
    Calls Tryd.prog 6 #[.int .i64 a0, .int .i64 b0, .int .i64 q, .bool d] w fun e w' => e = .returned (.bool true) ∧ Below w.heap.size w w' := by
  have HRA := Aside0.mk (fun W => roundI_calls a0 10 W (by decide) (by decide) ha)
  have HRB := Aside0.mk (fun W => roundI_calls b0 10 W (by decide) (by decide) hb)
  have hra := rndI_bd a0 (y := 10) (by decide)
  have hrb := rndI_bd b0 (y := 10) (by decide)
  obtain ⟨ra, hea⟩ : ∃ ra : Nat, rndI a0 10 = (ra : Int) := ⟨(rndI a0 10).toNat, by omega⟩
  obtain ⟨rb, heb⟩ : ∃ rb : Nat, rndI b0 10 = (rb : Int) := ⟨(rndI b0 10).toNat, by omega⟩
  rw [hea] at HRA hra
  rw [heb] at HRB hrb
  clear hea heb
  go_enter Tryd.func6, Tryd.ntmps6
  go_wp2_with fail
  refine (HRA.out _).mono ?_
  rintro e w1 ⟨rfl, rfl⟩
  go_wp2_with fail
  refine (HRB.out _).mono ?_
  rintro e w1 ⟨rfl, rfl⟩
  go_wp2_with fail
  obtain ⟨a, hA⟩ : ∃ a : Nat, a = 1 + ra := ⟨_, rfl⟩
  obtain ⟨b, hB⟩ : ∃ b : Nat, b = 1 + rb := ⟨_, rfl⟩
  rw [show (1 + (ra : Int)) = (a : Int) by omega, show (1 + (rb : Int)) = (b : Int) by omega]
  have ha1 : 0 < a ∧ a ≤ 10 := by omega
  have hb1 : 0 < b ∧ b ≤ 10 := by omega
  clear hA hB HRA HRB hra hrb
  refine (snew_calls w).mono ?_
  rintro e w1 ⟨g, mb, rfl, hI, hbl⟩
  have HO := Aside0.mk (show OrS w w1 w1 g mb ⟨[], [], 0, false⟩ from ⟨hI, hbl, blk_lt hI.box, hI.mlt, hbl.size, Nat.le_refl _⟩)
  clear hI hbl
  by_cases hq1 : q < 1
  · have d1 : decide (q < 1) = true := decide_eq_true hq1
    go_wp2_with fail
    refine (awake13_calls _).mono ?_
    rintro e w2 ⟨rfl, hb2⟩
    have H2 := Aside0.mk (HO.out.below hb2)
    clear hb2
    go_wp2_with fail
    go_ret
    exact ⟨rfl, H2.out.low⟩
  · have d1 : decide (q < 1) = false := decide_eq_false hq1
    by_cases hq2 : 20 < q
    · have d2 : decide (20 < q) = true := decide_eq_true hq2
      go_wp2_with fail
      refine (awake13_calls _).mono ?_
      rintro e w2 ⟨rfl, hb2⟩
      have H2 := Aside0.mk (HO.out.below hb2)
      clear hb2
      go_wp2_with fail
      go_ret
      exact ⟨rfl, H2.out.low⟩
    · have d2 : decide (20 < q) = false := decide_eq_false hq2
      go_wp2_with fail
      refine (sset_calls ⟨#[98]⟩ b w1 HO.out.is (by decide) (by omega)).mono ?_
      rintro e w2 ⟨he, hI⟩
      rw [show setE ([] : List Ent) (ByteArray.mk #[98]).data.toList b = 0 from setE_ok ord_v98 (by omega) (by omega) (by decide)] at he
      unfold SetQ at hI
      rw [if_pos (show setE ([] : List Ent) (ByteArray.mk #[98]).data.toList b = 0 from setE_ok ord_v98 (by omega) (by omega) (by decide))] at hI
      subst he
      have H2 := Aside0.mk (show OrS w w1 w2 g mb ⟨[([98], b)], [], 0, false⟩ from HO.out.keep hI.1 hI.2)
      clear hI
      go_wp2_with fail
      refine (sset_calls ⟨#[97]⟩ a w2 H2.out.is (by decide) (by omega)).mono ?_
      rintro e w3 ⟨he, hI⟩
      rw [show setE [([98], b)] (ByteArray.mk #[97]).data.toList a = 0 from setE_ok ord_v97 (by omega) (by omega) (by simp)] at he
      unfold SetQ at hI
      rw [if_pos (show setE [([98], b)] (ByteArray.mk #[97]).data.toList a = 0 from setE_ok ord_v97 (by omega) (by omega) (by simp))] at hI
      subst he
      have H3 := Aside0.mk (show OrS w w1 w3 g mb ⟨[([97], a), ([98], b)], [], 0, false⟩ from H2.out.keep hI.1 hI.2)
      clear hI
      go_wp2_with fail
      refine (sset_calls ⟨#[99]⟩ 2 w3 H3.out.is (by decide) (by omega)).mono ?_
      rintro e w4 ⟨he, hI⟩
      rw [show setE [([97], a), ([98], b)] (ByteArray.mk #[99]).data.toList 2 = 0 from setE_ok ord_v99 (by omega) (by omega) (by simp)] at he
      unfold SetQ at hI
      rw [if_pos (show setE [([97], a), ([98], b)] (ByteArray.mk #[99]).data.toList 2 = 0 from setE_ok ord_v99 (by omega) (by omega) (by simp))] at hI
      subst he
      have H4 := Aside0.mk (show OrS w w1 w4 g mb ⟨ordL a b, [], 0, false⟩ from H3.out.keep hI.1 hI.2)
      clear hI
      go_wp2_with fail
      obtain ⟨T, hT⟩ : ∃ T : Nat, T = a + b + 2 := ⟨_, rfl⟩
      have HT := Aside0.mk (show totL (ordL a b) = T from by rw [ord_t, hT])
      have HL0 : Aside0 (OrS w w1 w4 g mb (afterN ⟨ordL a b, [], 0, false⟩ 0) ∧ w4.ownsRow w1.heap.size 36 2 (.slice none 0 0) (visN ⟨ordL a b, [], 0, false⟩ 0).length ((visN ⟨ordL a b, [], 0, false⟩ 0).flatMap visC)) := ⟨H4.out, World.ownsRow_nil _ _ _ _⟩
      go_loopw [10] (fun lv wr => ∃ (k : Nat) (A : Option Addr) (c : Nat), k ≤ T ∧ lv = .slice A k c ∧ Aside0 (OrS w w1 wr g mb (afterN ⟨ordL a b, [], 0, false⟩ k) ∧ wr.ownsRow w1.heap.size 36 2 (.slice A k c) (visN ⟨ordL a b, [], 0, false⟩ k).length ((visN ⟨ordL a b, [], 0, false⟩ k).flatMap visC))) (fun lv wr => T - (match lv with | .slice _ n _ => n | _ => 0))
      case atStart => exact ⟨0, none, 0, Nat.zero_le _, rfl, HL0⟩
      case round =>
        obtain ⟨k, A, c, hk, rfl, hs⟩ := hrel
        by_cases hlt : k < T
        · have z1 : (k : Int) < (a : Int) + (b : Int) + 2 := by omega
          have HQ1 := Aside0.mk (nextQ_one (afterN ⟨ordL a b, [], 0, false⟩ k) (by rw [afterN_l]; show 0 < totL (ordL a b); rw [HT.out]; omega))
          go_wp2_with fail
          refine (snext_calls 1 wr hs.out.1.is (by decide)).mono ?_
          rintro e w5 ⟨v5, rfl, ho5, _, hi5, hk5⟩
          rw [HQ1.out, vis_one] at ho5
          rw [HQ1.out, after_one] at hi5
          obtain ⟨r5, c5, rfl, hr5, hr5l, hcl5⟩ := vis_form (L := [nextV (afterN ⟨ordL a b, [], 0, false⟩ k)]) ho5 (by simp)
          have H5 := Aside0.mk (hs.out.1.keep hi5 hk5)
          have HR5 := Aside0.mk ho5
          have HO5 := Aside0.mk (own_keepS hs.out.2 hk5 hs.out.1.hg hs.out.1.hm)
          clear ho5 hi5 hk5 hcl5
          go_wp2_with (at_builtin
                       go_must (refine wpList_append_rows visC 2 visC_len (by decide) rfl (.tmp 65) (.tmp 66) 31 rfl w1.heap.size 36 36 0 (.agg #[.string ⟨#[]⟩, .int .i64 0]) 24 Tryd.underlying31 info_vis rfl (by decide) (.slice A k c) (visN ⟨ordL a b, [], 0, false⟩ k) [nextV (afterN ⟨ordL a b, [], 0, false⟩ k)] _ rfl rfl HO5.out (SlC.of_own HR5.out 0) (fun y hy => visC_one y) (by rw [visN_len]; simp; omega) H5.out.h1 ?_)
                       intro v2 w2 hown2 hgr2 hsh2
                       rw [← visN_succ] at hown2
                       obtain ⟨A2, n2, c2, rfl⟩ := hsh2
                       have H6 := Aside0.mk (And.intro (H5.out.grown HO5.out hgr2) hown2)
                       clear hown2 hgr2)
          obtain ⟨r6, c6, he6, _, _⟩ := H6.out.2.form (by rw [visN_len]; omega)
          cases he6
          have H7 := H6
          rw [visN_len] at H7
          go_roundw
          case rel => exact ⟨k + 1, some ⟨r6, 0, none⟩, c2, by omega, by rw [visN_len], ⟨H6.out.1, by have h := H6.out.2; rw [visN_len] at h ⊢; exact h⟩⟩
          case measure => rw [visN_len]; simp only; omega
        · obtain rfl : k = T := by omega
          have z1 : ¬ (k : Int) < (a : Int) + (b : Int) + 2 := by omega
          obtain ⟨r6, c6, he6, hr6, hr6l⟩ := hs.out.2.form (by rw [visN_len]; omega)
          rw [visN_len] at he6
          cases he6
          have HE : Aside0 (OrS w w1 wr g mb ⟨ordL a b, [99], 1, true⟩) := ⟨by have h := hs.out.1; rw [hT, ord_end a b (by omega) (by omega)] at h; exact h⟩
          obtain ⟨L, hL⟩ : ∃ L, L = visN ⟨ordL a b, [], 0, false⟩ k := ⟨_, rfl⟩
          have HLL : Aside0 (L.length = k) := ⟨by rw [hL, visN_len]⟩
          have HLV : Aside0 (∀ i, i < k → L[i]? = some (ordV a b i)) := ⟨fun i hi => by rw [hL]; exact ord_vis a b (by omega) (by omega) _ _ hi (by omega)⟩
          have HRW : Aside0 (wr.ownsRow w1.heap.size 36 2 (.slice (some ⟨r6, 0, none⟩) k c) L.length (L.flatMap visC)) := ⟨by rw [hL]; exact hs.out.2⟩
          clear hs hL HL0
          go_wp2_with fail
          go_loopw [12] (fun i wx => ∃ j : Nat, j ≤ k ∧ i = .int .i64 j ∧ Aside0 (OrS w w1 wx g mb ⟨ordL a b, [99], 1, true⟩ ∧ wx.ownsRow w1.heap.size 36 2 (.slice (some ⟨r6, 0, none⟩) k c) L.length (L.flatMap visC))) (fun i wx => k - (intOf i).toNat)
          case atStart => exact ⟨0, Nat.zero_le _, rfl, ⟨HE.out, HRW.out⟩⟩
          case round =>
            obtain ⟨j, hj, rfl, hs⟩ := hrel
            by_cases hlt : j < k
            · obtain ⟨x, hx⟩ : ∃ x, x = ordV a b j := ⟨_, rfl⟩
              have hjl : j < L.length := by rw [HLL.out]; exact hlt
              have hcl := vis_cells hs.out.2
              have hr7l : r6 < wr.heap.size := (hs.out.2.lt r6 rfl).2
              have hlj : L[j]'hjl = x := by have h := HLV.out j hlt; rw [List.getElem?_eq_getElem hjl] at h; rw [hx]; exact Option.some.inj h
              obtain ⟨c0, c1⟩ := hcl j hjl
              rw [hlj] at c0 c1
              clear hcl hlj
              have z2 : (j : Int) < (k : Int) := by omega
              have hw7 : r6 < wr.heap.size := hr7l
              by_cases h1 : j < a
              · have e : x = ([97], j) := by rw [hx]; unfold ordV; rw [if_pos h1]
                rw [e] at c0 c1
                have e97 : str [97] = ⟨#[97]⟩ := rfl
                simp only at c0 c1
                rw [e97] at c0
                have z3 : ¬ (a : Int) ≤ (j : Int) := by omega
                have z4 : ¬ (a : Int) + (b : Int) ≤ (j : Int) := by omega
                have HB9 : Aside0 (∀ y n, Below wr.heap.size wr ((wr.alloc (.cells #[.string ⟨#[97]⟩, y] 36 (0, 0))).drewN n)) := ⟨fun y n => below_drewN ((Below.refl _ _).alloc (Nat.le_refl _) _) n⟩
                clear e hx hjl
                go_wp2_with fail
                go_quiet (fail)
                go_wp2_with fail
                go_roundw
                case rel => exact ⟨j + 1, by omega, by go_num, ⟨hs.out.1.below (HB9.out _ _), own_below hs.out.2 (HB9.out _ _)⟩⟩
                case measure => simp [intOf]; omega
              · by_cases h2 : j < a + b
                · have e : x = ([98], j - a) := by rw [hx]; unfold ordV; rw [if_neg h1, if_pos h2]
                  rw [e] at c0 c1
                  have e97 : str [98] = ⟨#[98]⟩ := rfl
                  simp only at c0 c1
                  rw [e97] at c0
                  have e5 : ((j - a : Nat) : Int) = (j : Int) - (a : Int) := by omega
                  rw [e5] at c1
                  have z3 : (a : Int) ≤ (j : Int) := by omega
                  have z4 : ¬ (a : Int) + (b : Int) ≤ (j : Int) := by omega
                  have HB9 : Aside0 (∀ y n, Below wr.heap.size wr ((wr.alloc (.cells #[.string ⟨#[98]⟩, y] 36 (0, 0))).drewN n)) := ⟨fun y n => below_drewN ((Below.refl _ _).alloc (Nat.le_refl _) _) n⟩
                  clear e hx hjl
                  go_wp2_with fail
                  go_quiet (fail)
                  go_wp2_with fail
                  go_roundw
                  case rel => exact ⟨j + 1, by omega, by go_num, ⟨hs.out.1.below (HB9.out _ _), own_below hs.out.2 (HB9.out _ _)⟩⟩
                  case measure => simp [intOf]; omega
                · have e : x = ([99], j - a - b) := by rw [hx]; unfold ordV; rw [if_neg h1, if_neg h2]
                  rw [e] at c0 c1
                  have e97 : str [99] = ⟨#[99]⟩ := rfl
                  simp only at c0 c1
                  rw [e97] at c0
                  have e5 : ((j - a - b : Nat) : Int) = (j : Int) - (a : Int) - (b : Int) := by omega
                  rw [e5] at c1
                  have z3 : (a : Int) ≤ (j : Int) := by omega
                  have z4 : (a : Int) + (b : Int) ≤ (j : Int) := by omega
                  have HB9 : Aside0 (∀ y n, Below wr.heap.size wr ((wr.alloc (.cells #[.string ⟨#[99]⟩, y] 36 (0, 0))).drewN n)) := ⟨fun y n => below_drewN ((Below.refl _ _).alloc (Nat.le_refl _) _) n⟩
                  clear e hx hjl
                  go_wp2_with fail
                  go_quiet (fail)
                  go_wp2_with fail
                  go_roundw
                  case rel => exact ⟨j + 1, by omega, by go_num, ⟨hs.out.1.below (HB9.out _ _), own_below hs.out.2 (HB9.out _ _)⟩⟩
                  case measure => simp [intOf]; omega
            · obtain rfl : j = k := by omega
              have z2 : ¬ (j : Int) < (j : Int) := by omega
              have HE2 := Aside0.mk hs.out.1
              clear hs HRW HE HLV HLL
              cases d with
              | true =>
                go_wp2_with fail
                refine (sdrop_calls ⟨#[97]⟩ wr HE2.out.is (by decide)).mono ?_
                rintro e w5 ⟨he, hI, hk5⟩
                rw [show hasL (ordL a b) (ByteArray.mk #[97]).data.toList = true from ord_h a b] at he
                subst he
                have H5 := Aside0.mk (show OrS w w1 w5 g mb ⟨ordD b, [99], 1, true⟩ from HE2.out.keep hI hk5)
                clear hI hk5
                go_wp2_with fail
                refine (sdrop_calls ⟨#[97]⟩ w5 H5.out.is (by decide)).mono ?_
                rintro e w6 ⟨he, hI, hk6⟩
                rw [show hasL (ordD b) (ByteArray.mk #[97]).data.toList = false from ord_hh b] at he
                subst he
                have H6 := Aside0.mk (show OrS w w1 w6 g mb ⟨ordD b, [99], 1, true⟩ from H5.out.keep hI hk6)
                clear hI hk6
                go_wp2_with fail
                refine (snext_calls 1 w6 H6.out.is (by decide)).mono ?_
                rintro e w7 ⟨v7, rfl, ho7, _, hI, hk7⟩
                have hq7 : nextQ ⟨ordD b, [99], 1, true⟩ 1 = 1 := nextQ_one _ (by show 0 < totL (ordD b); rw [ord_td]; omega)
                rw [hq7, vis_one, ord_dropped b (by omega) (by omega)] at ho7
                rw [hq7] at hI
                have H7 := Aside0.mk (H6.out.keep hI hk7)
                obtain ⟨r7, c7, rfl, hr7, hr7l, hcl⟩ := vis_form (L := [([98], 0)]) ho7 (by decide)
                obtain ⟨e0, e1⟩ := hcl 0 (by decide)
                simp only [List.getElem_cons_zero, Nat.zero_mul, Nat.zero_add] at e0 e1
                have e98 : str [98] = ⟨#[98]⟩ := rfl
                rw [e98] at e0
                clear hcl ho7 hI hk7 hq7
                go_wp2_with fail
                refine (stotal_calls w7 H7.out.is).mono ?_
                rintro e w8 ⟨rfl, hb8⟩
                rw [show (totL (afterN ⟨ordD b, [99], 1, true⟩ 1).l : Int) = (b : Int) + 2 by show ((totL (ordD b) : Nat) : Int) = _; rw [ord_td]; omega]
                have H8 := Aside0.mk (H7.out.below hb8)
                clear hb8
                go_wp2_with fail
                refine (awake13_calls _).mono ?_
                rintro e w9 ⟨rfl, hb9⟩
                have H9 := Aside0.mk (H8.out.below hb9)
                clear hb9
                go_wp2_with fail
                go_ret
                exact ⟨rfl, H9.out.low⟩
              | false =>
                go_wp2_with fail
                refine (snext_calls q wr HE2.out.is hq).mono ?_
                rintro e w7 ⟨v7, rfl, ho7, _, hI, hk7⟩
                obtain ⟨n, hn⟩ : ∃ n, nextQ ⟨ordL a b, [99], 1, true⟩ q = n := ⟨_, rfl⟩
                have hn2 : (n : Int) = min q ((a : Int) + (b : Int) + 2) := by
                  rw [← hn]
                  unfold nextQ
                  show ((min (min (max q 0) 10000) ((totL (ordL a b) : Nat) : Int)).toNat : Int) = _
                  rw [ord_t]; omega
                rw [hn] at ho7 hI
                have hn0 : 0 < n := by omega
                obtain ⟨L, hL⟩ : ∃ L, L = visN ⟨ordL a b, [99], 1, true⟩ n := ⟨_, rfl⟩
                rw [← hL] at ho7
                have hLl : L.length = n := by rw [hL, visN_len]
                have hL0 : 0 < L.length := by omega
                have hh : L[0]'hL0 = ([97], 0) := by
                  have h := ord_again a b (by omega) (by omega) (by omega) n hn0
                  rw [← hL, List.getElem?_eq_getElem hL0] at h
                  exact Option.some.inj h
                have H7 := Aside0.mk (HE2.out.keep hI hk7)
                obtain ⟨r7, c7, rfl, hr7, hr7l, hcl⟩ := vis_form ho7 hL0
                obtain ⟨e0, e1⟩ := hcl 0 hL0
                rw [hh] at e0 e1
                rw [hLl]
                simp only [Nat.zero_mul, Nat.zero_add] at e0 e1
                have e97 : str [97] = ⟨#[97]⟩ := rfl
                rw [e97] at e0
                clear hcl ho7 hI hk7 hL hh hLl hL0 hn
                clear z1 z2 hlt hj hk
                clear HT
                have hm : min q ((a : Int) + (b : Int) + 2) = (n : Int) := hn2.symm
                clear hn2
                go_wp2_with fail
                refine (awake13_calls _).mono ?_
                rintro e w9 ⟨rfl, hb9⟩
                have H9 := Aside0.mk (H7.out.below hb9)
                clear hb9
                go_wp2_with fail
                go_ret
                exact ⟨rfl, H9.out.low⟩
end Go.Proofs.YtoigmepkhiknbaaDoor
