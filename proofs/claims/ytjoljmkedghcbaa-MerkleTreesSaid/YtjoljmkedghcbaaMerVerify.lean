/-
  merkle.Verify. No condition but that what comes in can be read and is none too long.
-/
import Derived.Test.YtjoljmkedghcbaaMerProve
import Derived.Test.YtjoljmkedghcbaaBytesEq
namespace Go.Proofs.Ytjoljmkedghcbaa
open Go.RowKit
set_option linter.unusedVariables false
set_option linter.unusedSimpArgs false

/-- Where the loop stands. -/
def VerS (w wr : World) (bl bp : Nat) (root : List UInt8) (goal : Bool) (at' proof : Value) (x : List UInt8) (k n : Nat) (pr : List (List UInt8)) : Prop :=
  verN root n x k pr = goal ∧ Sl bv 5 wr bl at' x ∧ x.length ≤ 1000000000 ∧ SlL wr bp proof pr ∧ FitM pr ∧ Below w.heap.size w wr
theorem FitM.drop {l : List (List UInt8)} (h : FitM l) (k : Nat) : FitM (l.drop k) := ⟨by have := h.1; rw [List.length_drop]; omega, fun x hx => h.2 x (List.mem_of_mem_drop hx)⟩
theorem SlL.none (w : World) (b c : Nat) (A : Option Addr) : SlL w b (.slice A 0 c) [] := ⟨[], rfl, ⟨A, c, rfl, Nat.zero_le _, by simp, RdT.nil _ _ _ _⟩, by simp⟩
theorem node_len (a b : List UInt8) : (nodeL a b).length ≤ 1000000000 := sha_short _

set_option maxHeartbeats 1000000 in
theorem verify_bad {b0 : Nat} {vr vl vp : Value} (k n : Int) (w : World) {pr : List (List UInt8)} (hk : k < 0 ∨ n ≤ k) :
    Calls Try.prog 28 #[vr, vl, .int .i64 k, .int .i64 n, vp] w fun e w' => e = .returned (.bool false) ∧ w = w' := by
  by_cases h1 : k < 0
  · have d1 : decide (k < 0) = true := decide_eq_true h1
    clear hk
    go_enter Try.func28, Try.ntmps28
    go_wp2_with fail
    go_ret
    exact ⟨rfl, rfl⟩
  · have d1 : decide (k < 0) = false := decide_eq_false h1
    have h2 : n ≤ k := by omega
    have d2 : decide (n ≤ k) = true := decide_eq_true h2
    clear hk
    go_enter Try.func28, Try.ntmps28
    go_wp2_with fail
    go_ret
    exact ⟨rfl, rfl⟩

set_option maxHeartbeats 4000000 in
theorem verify_good {br bl bp : Nat} {vr vl vp : Value} {root leaf : List UInt8} {pr : List (List UInt8)} (k n : Nat) (w : World) (hr : Sl bv 5 w br vr root) (hl : Sl bv 5 w bl vl leaf) (hp : SlL w bp vp pr) (hfl : leaf.length ≤ 1000000000) (hfp : FitM pr)
    (hbl : bl ≤ w.heap.size) (hbp : bp ≤ w.heap.size) (hk : k < n) (hn : n ≤ 9223372036854775807) :
    Calls Try.prog 28 #[vr, vl, .int .i64 k, .int .i64 n, vp] w fun e w' => e = .returned (.bool (verN root n leaf k pr)) ∧ Below w.heap.size w w' := by
  have HR := Aside0.mk hr
  have H0 := Aside0.mk (show VerS w w (max bl bp) (max bl bp) root (verN root n leaf k pr) vl vp leaf k n pr from ⟨rfl, hl.mono (Nat.le_max_left _ _), hfl, hp.mono (Nat.le_max_right _ _), hfp, Below.refl _ _⟩)
  obtain ⟨b, hb⟩ : ∃ b, b = max bl bp := ⟨_, rfl⟩
  have hbw : b ≤ w.heap.size := by omega
  obtain ⟨G, hG⟩ : ∃ G, G = verN root n leaf k pr := ⟨_, rfl⟩
  rw [← hb, ← hG] at H0
  rw [← hG]
  obtain ⟨Ar, cr, rfl, _⟩ := hr
  obtain ⟨Al, cl, rfl, _⟩ := hl
  obtain ⟨A, c, rfl, hc, hm⟩ := hp.shape
  have d1 : decide ((k : Int) < 0) = false := decide_eq_false (by omega)
  have d2 : decide (n ≤ k) = false := decide_eq_false (by omega)
  clear hp hfl hfp hG hb hbl hbp
  go_enter Try.func28, Try.ntmps28
  go_wp2_with fail
  go_loopw [2, 3, 4, 11] (fun kk nn pp aa wr => ∃ (kn m : Nat) (x : List UInt8) (ps : List (List UInt8)) (A : Option Addr) (q c : Nat) (A' : Option Addr) (q' c' : Nat), kk = .int .i64 kn ∧ nn = .int .i64 m ∧ kn < m ∧ m ≤ 9223372036854775807 ∧ pp = .slice A q c ∧ aa = .slice A' q' c' ∧ q ≤ c ∧ q ≤ 9223372036854775807 ∧ Aside0 (q = ps.length ∧ VerS w wr b b root G aa pp x kn m ps)) (fun kk nn pp aa wr => (intOf nn).toNat)
  case atStart => exact ⟨k, n, leaf, pr, A, _, c, Al, _, cl, rfl, rfl, hk, hn, rfl, rfl, hc, hm, ⟨rfl, H0.out⟩⟩
  case round =>
    obtain ⟨kn, m, x, ps, A1, q, c1, A2, q2, c2, rfl, rfl, hkm, hm9, rfl, rfl, hqc, hq9, hs⟩ := hrel
    clear H0
    by_cases h1 : 1 < m
    · have hx1 := xor_sib kn (by omega)
      obtain ⟨s, hss⟩ : ∃ s, s = sib kn := ⟨_, rfl⟩
      rw [← hss] at hx1
      have hs9 : s ≤ 9223372036854775807 := by rw [hss]; unfold sib; split <;> omega
      have HSS := Aside0.mk hss
      clear hss
      by_cases h2 : s < m
      · by_cases h3 : q = 0
        · have HE : Aside0 (false = G) := ⟨by rw [← hs.out.2.1, verN_none h1 (by rw [← HSS.out]; exact h2) (by rw [← hs.out.1]; exact h3)]⟩
          have HB := Aside0.mk hs.out.2.2.2.2.2.2
          subst h3
          clear hs
          go_wp2_with fail
          go_ret
          exact ⟨ret_b HE.out, HB.out⟩
        · have hq0 : 0 < q := by omega
          have d3 : decide ((q : Int) = 0) = false := decide_eq_false (by omega)
          have d4 : ((q : Int) == 0) = false := by rw [beq_eq_false_iff_ne]; omega
          have hps := hs.out.1
          obtain ⟨ad, c3, u, A3, cu, he, hu, hcell, hsl⟩ := hs.out.2.2.2.2.1.at 0 (by omega)
          rw [← hps] at he
          cases he
          subst hu
          have HV := verN_some (root := root) (x := x) h1 (by rw [← HSS.out]; exact h2) (show 0 < ps.length by omega)
          have HFP := Aside0.mk (hs.out.2.2.2.2.2.1.at 0)
          obtain ⟨p, hp⟩ : ∃ p, p = ps.getD 0 [] := ⟨_, rfl⟩
          rw [← hp] at hcell hsl HV HFP
          have HP := Aside0.mk hsl
          have HV := Aside0.mk HV
          have hcell : wr.cell? ad = some (.slice A3 p.length cu) := hcell
          have HB := Aside0.mk hs.out.2.2.2.2.2.2
          clear hp hps hsl h3
          have HXL := Aside0.mk hs.out.2.2.2.1
          have HX := Aside0.mk hs.out.2.2.1
          have HFP2 := Aside0.mk (hs.out.2.2.2.2.2.1.drop 1)
          have HQ := Aside0.mk hs.out.1
          have HG := Aside0.mk (HV.out.symm.trans hs.out.2.1)
          have HPS := Aside0.mk hs.out.2.2.2.2.1
          have hq1 : 1 ≤ q := by omega
          have hc1 : 1 ≤ c1 := by omega
          clear hs
          rcases Nat.mod_two_eq_zero_or_one kn with he | he
          · have d5 : (((kn : Int) % 2) == 0) = true := by simp; omega
            have d6 : decide ((kn : Int) % 2 = 0) = true := decide_eq_true (by omega)
            have HE := Aside0.mk he
            clear he
            go_wp2_with fail
            refine (node_calls _ HX.out HP.out (by have := HB.out.size; omega) (by have := HXL.out; have := HFP.out; omega)).mono ?_
            rintro e w2 ⟨v2, rfl, hown2, hb2⟩
            have HY := Aside0.mk (Sl.of_own (b := b) hown2)
            obtain ⟨A3, c3, rfl, _⟩ := Sl.of_own (b := b) hown2
            have HPS2 := Aside0.mk (HPS.out.below hb2)
            have HB2 := Aside0.mk (below_step HB.out hb2)
            clear hown2 hb2
            by_cases hcc : c1 = 1
            · subst hcc
              obtain rfl : q = 1 := by omega
              have HV2 := Aside0.mk (show verN root ((m + 1) / 2) (nodeL x p) (kn / 2) (ps.drop 1) = G by have := HG.out; rw [if_pos HE.out] at this; exact this)
              go_wp2_with fail
              go_roundw
              case rel =>
                refine ⟨kn / 2, (m + 1) / 2, nodeL x p, ps.drop 1, some ad, 0, 0, A3, _, c3, by go_num, by go_num, by omega, by omega, rfl, rfl, by omega, by omega, ⟨by rw [List.length_drop, ← HQ.out], HV2.out, HY.out, node_len _ _, ?_, HFP2.out, HB2.out⟩⟩
                rw [List.drop_of_length_le (by have := HQ.out; omega)]
                exact SlL.none _ _ _ _
              case measure => simp [intOf]; omega
            · have HV2 := Aside0.mk (show verN root ((m + 1) / 2) (nodeL x p) (kn / 2) (ps.drop 1) = G by have := HG.out; rw [if_pos HE.out] at this; exact this)
              have HC := Aside0.mk (show SlL w2 b (.slice (some (ad.add 1)) (q - 1) (c1 - 1)) (ps.drop 1) by have := HPS2.out.cut 1 (by have := HQ.out; omega); rw [← HQ.out] at this; exact this)
              go_wp2_with fail
              go_roundw
              case rel =>
                exact ⟨kn / 2, (m + 1) / 2, nodeL x p, ps.drop 1, some (ad.add 1), q - 1, c1 - 1, A3, _, c3, by go_num, by go_num, by omega, by omega, rfl, rfl, by omega, by omega, ⟨by rw [List.length_drop, ← HQ.out], HV2.out, HY.out, node_len _ _, HC.out, HFP2.out, HB2.out⟩⟩
              case measure => simp [intOf]; omega
          · have d5 : (((kn : Int) % 2) == 0) = false := by rw [beq_eq_false_iff_ne]; omega
            have d6 : decide ((kn : Int) % 2 = 0) = false := decide_eq_false (by omega)
            have HE := Aside0.mk he
            clear he
            go_wp2_with fail
            refine (node_calls _ HP.out HX.out (by have := HB.out.size; omega) (by have := HXL.out; have := HFP.out; omega)).mono ?_
            rintro e w2 ⟨v2, rfl, hown2, hb2⟩
            have HY := Aside0.mk (Sl.of_own (b := b) hown2)
            obtain ⟨A3, c3, rfl, _⟩ := Sl.of_own (b := b) hown2
            have HPS2 := Aside0.mk (HPS.out.below hb2)
            have HB2 := Aside0.mk (below_step HB.out hb2)
            clear hown2 hb2
            by_cases hcc : c1 = 1
            · subst hcc
              obtain rfl : q = 1 := by omega
              have HV2 := Aside0.mk (show verN root ((m + 1) / 2) (nodeL p x) (kn / 2) (ps.drop 1) = G by have := HG.out; rw [if_neg (by have := HE.out; omega)] at this; exact this)
              go_wp2_with fail
              go_roundw
              case rel =>
                refine ⟨kn / 2, (m + 1) / 2, nodeL p x, ps.drop 1, some ad, 0, 0, A3, _, c3, by go_num, by go_num, by omega, by omega, rfl, rfl, by omega, by omega, ⟨by rw [List.length_drop, ← HQ.out], HV2.out, HY.out, node_len _ _, ?_, HFP2.out, HB2.out⟩⟩
                rw [List.drop_of_length_le (by have := HQ.out; omega)]
                exact SlL.none _ _ _ _
              case measure => simp [intOf]; omega
            · have HV2 := Aside0.mk (show verN root ((m + 1) / 2) (nodeL p x) (kn / 2) (ps.drop 1) = G by have := HG.out; rw [if_neg (by have := HE.out; omega)] at this; exact this)
              have HC := Aside0.mk (show SlL w2 b (.slice (some (ad.add 1)) (q - 1) (c1 - 1)) (ps.drop 1) by have := HPS2.out.cut 1 (by have := HQ.out; omega); rw [← HQ.out] at this; exact this)
              go_wp2_with fail
              go_roundw
              case rel =>
                exact ⟨kn / 2, (m + 1) / 2, nodeL p x, ps.drop 1, some (ad.add 1), q - 1, c1 - 1, A3, _, c3, by go_num, by go_num, by omega, by omega, rfl, rfl, by omega, by omega, ⟨by rw [List.length_drop, ← HQ.out], HV2.out, HY.out, node_len _ _, HC.out, HFP2.out, HB2.out⟩⟩
              case measure => simp [intOf]; omega
      · have HV := Aside0.mk ((verN_skip (root := root) (x := x) (pr := ps) (k := kn) h1 (by rw [← HSS.out]; exact h2)).symm.trans hs.out.2.1)
        have HS := Aside0.mk hs.out.2.2
        have HQ := Aside0.mk hs.out.1
        clear hs
        go_wp2_with fail
        go_roundw
        case rel => exact ⟨kn / 2, (m + 1) / 2, x, ps, A1, q, c1, A2, q2, c2, by go_num, by go_num, by omega, by omega, rfl, rfl, hqc, hq9, ⟨HQ.out, HV.out, HS.out⟩⟩
        case measure => simp [intOf]; omega
    · have HV := Aside0.mk ((verN_low (root := root) (x := x) (pr := ps) (k := kn) (n := m) (by omega)).symm.trans hs.out.2.1)
      have HS := Aside0.mk hs.out.2.2
      have HQ := Aside0.mk hs.out.1
      clear hs
      by_cases h2 : q = 0
      · subst h2
        have HV2 := Aside0.mk (show (x == root) = G by have := HV.out; rw [← HQ.out] at this; simpa using this)
        go_wp2_with fail
        refine (equal_calls _ HS.out.1 (HR.out.below HS.out.2.2.2.2)).mono ?_
        rintro e w2 ⟨rfl, rfl⟩
        rw [HV2.out]
        go_wp2_with fail
        go_ret
        exact ⟨rfl, HS.out.2.2.2.2⟩
      · have d3 : decide ((q : Int) = 0) = false := decide_eq_false (by omega)
        have d4 : ((q : Int) == 0) = false := by rw [beq_eq_false_iff_ne]; omega
        have HV2 := Aside0.mk (show false = G by have := HV.out; rw [← HQ.out] at this; simpa [h2] using this)
        go_wp2_with fail
        go_ret
        exact ⟨ret_b HV2.out, HS.out.2.2.2.2⟩

theorem verify_calls {br bl bp : Nat} {vr vl vp : Value} {root leaf : List UInt8} {pr : List (List UInt8)} (k n : Int) (w : World) (hr : Sl bv 5 w br vr root) (hl : Sl bv 5 w bl vl leaf) (hp : SlL w bp vp pr) (hfl : leaf.length ≤ 1000000000) (hfp : FitM pr)
    (hbl : bl ≤ w.heap.size) (hbp : bp ≤ w.heap.size) (hn : n ≤ 9223372036854775807) :
    Calls Try.prog 28 #[vr, vl, .int .i64 k, .int .i64 n, vp] w fun e w' => e = .returned (.bool (verifyL root leaf k n pr)) ∧ Below w.heap.size w w' := by
  unfold verifyL
  by_cases h : k < 0 ∨ n ≤ k
  · rw [if_pos h]
    refine (verify_bad (b0 := 0) (pr := pr) k n w h).mono ?_
    rintro e w' ⟨rfl, rfl⟩
    exact ⟨rfl, Below.refl _ _⟩
  · rw [if_neg h]
    obtain ⟨K, rfl⟩ := Int.eq_ofNat_of_zero_le (show 0 ≤ k by omega)
    obtain ⟨N, rfl⟩ := Int.eq_ofNat_of_zero_le (show 0 ≤ n by omega)
    exact verify_good K N w hr hl hp hfl hfp hbl hbp (by omega) (by omega)
end Go.Proofs.Ytjoljmkedghcbaa
