/-
  The reference's Verify. No condition but that what comes in can be read and is none too long.
-/
import Derived.Test.YtjoljmkedghcbaaMerRef3
import Derived.Test.YtjoljmkedghcbaaMerVerify
namespace Go.Proofs.Ytjoljmkedghcbaa
open Go.RowKit
set_option linter.unusedVariables false
set_option linter.unusedSimpArgs false

set_option maxHeartbeats 1000000 in
theorem rverify_bad {vr vl vp : Value} (k n : Int) (w : World) (hk : k < 0 ∨ n ≤ k) :
    Calls Try.prog 29 #[vr, vl, .int .i64 k, .int .i64 n, vp] w fun e w' => e = .returned (.bool false) ∧ w = w' := by
  by_cases h1 : k < 0
  · have d1 : decide (k < 0) = true := decide_eq_true h1
    clear hk
    go_enter Try.func29, Try.ntmps29
    go_wp2_with fail
    go_ret
    exact ⟨rfl, rfl⟩
  · have d1 : decide (k < 0) = false := decide_eq_false h1
    have h2 : n ≤ k := by omega
    have d2 : decide (n ≤ k) = true := decide_eq_true h2
    clear hk
    go_enter Try.func29, Try.ntmps29
    go_wp2_with fail
    go_ret
    exact ⟨rfl, rfl⟩

set_option maxHeartbeats 4000000 in
theorem rverify_good {br bl bp : Nat} {vr vl vp : Value} {root leaf : List UInt8} {pr : List (List UInt8)} (k n : Nat) (w : World) (hr : Sl bv 5 w br vr root) (hl : Sl bv 5 w bl vl leaf) (hp : SlL w bp vp pr) (hfl : leaf.length ≤ 1000000000) (hfp : FitM pr)
    (hk : k < n) (hn : n ≤ 9223372036854775807) :
    Calls Try.prog 29 #[vr, vl, .int .i64 k, .int .i64 n, vp] w fun e w' => e = .returned (.bool (verN root n leaf k pr)) ∧ Below w.heap.size w w' := by
  have HR := Aside0.mk hr
  have HPR := Aside0.mk hp
  have HFP := Aside0.mk hfp
  have hpl : pr.length ≤ 1000000000 := hfp.1
  obtain ⟨G, hG⟩ : ∃ G, G = verN root n leaf k pr := ⟨_, rfl⟩
  rw [← hG]
  have H0 := Aside0.mk (show verN root n leaf k (pr.drop 0) = G ∧ Sl bv 5 w bl vl leaf ∧ leaf.length ≤ 1000000000 ∧ Below w.heap.size w w from ⟨by rw [hG]; rfl, hl, hfl, Below.refl _ _⟩)
  obtain ⟨Ar, cr, rfl, _⟩ := hr
  obtain ⟨Al, cl, rfl, _⟩ := hl
  obtain ⟨A, c, rfl, hc, hm⟩ := hp.shape
  have d1 : decide ((k : Int) < 0) = false := decide_eq_false (by omega)
  have d2 : decide (n ≤ k) = false := decide_eq_false (by omega)
  clear hp hfl hfp hG
  go_enter Try.func29, Try.ntmps29
  go_wp2_with fail
  go_loopw [2, 3, 11, 12] (fun kk nn ii aa wr => ∃ (kn m i : Nat) (x : List UInt8) (A' : Option Addr) (q' c' : Nat), kk = .int .i64 kn ∧ nn = .int .i64 m ∧ ii = .int .i64 i ∧ kn < m ∧ m ≤ 9223372036854775807 ∧ i ≤ pr.length ∧ aa = .slice A' q' c' ∧ Aside0 (verN root m x kn (pr.drop i) = G ∧ Sl bv 5 wr bl aa x ∧ x.length ≤ 1000000000 ∧ Below w.heap.size w wr)) (fun kk nn ii aa wr => (intOf nn).toNat)
  case atStart => exact ⟨k, n, 0, leaf, Al, _, cl, rfl, rfl, rfl, hk, hn, Nat.zero_le _, rfl, H0⟩
  case round =>
    obtain ⟨kn, m, i, x, A2, q2, c2, rfl, rfl, rfl, hkm, hm9, hi, rfl, hs⟩ := hrel
    clear H0
    by_cases h1 : 1 < m
    · have hx1 := xor_sib kn (by omega)
      obtain ⟨s, hss⟩ : ∃ s, s = sib kn := ⟨_, rfl⟩
      rw [← hss] at hx1
      have hs9 : s ≤ 9223372036854775807 := by rw [hss]; unfold sib; split <;> omega
      have HSS := Aside0.mk hss
      clear hss
      by_cases h2 : s < m
      · by_cases h3 : pr.length ≤ i
        · have HE : Aside0 (false = G) := ⟨by rw [← hs.out.1, verN_none h1 (by rw [← HSS.out]; exact h2) (by rw [List.length_drop]; omega)]⟩
          have HB := Aside0.mk hs.out.2.2.2
          have d3 : decide (pr.length ≤ i) = true := decide_eq_true h3
          clear hs
          go_wp2_with fail
          go_ret
          exact ⟨ret_b HE.out, HB.out⟩
        · have hq0 : i < pr.length := by omega
          have d3 : decide (pr.length ≤ i) = false := decide_eq_false h3
          obtain ⟨ad, c3, u, A3, cu, he, hu, hcell, hsl⟩ := HPR.out.at i hq0
          cases he
          subst hu
          have HV := verN_some (root := root) (x := x) (pr := pr.drop i) h1 (by rw [← HSS.out]; exact h2) (show 0 < (pr.drop i).length by rw [List.length_drop]; omega)
          rw [show (pr.drop i).getD 0 [] = pr.getD i [] by simp [List.getElem?_drop], List.drop_drop] at HV
          have HFP1 := Aside0.mk (HFP.out.at i)
          obtain ⟨p, hp⟩ : ∃ p, p = pr.getD i [] := ⟨_, rfl⟩
          rw [← hp] at hcell hsl HV HFP1
          have HK : Aside0 (∀ w', Below w.heap.size w w' → w'.cell? (ad.add i) = some (.slice A3 p.length cu) ∧ Sl bv 5 w' bp (.slice A3 p.length cu) p) := ⟨fun w' hb => ⟨cell_keep hb hcell, hsl.below hb⟩⟩
          have HG := Aside0.mk (HV.symm.trans hs.out.1)
          have HX := Aside0.mk hs.out.2.1
          have HXL := Aside0.mk hs.out.2.2.1
          have HB := Aside0.mk hs.out.2.2.2
          have HBW := Aside0.mk hs.out.2.2.2
          have hcell2 := (HK.out _ HB.out).1
          obtain ⟨xl, hxl⟩ : ∃ xl, xl = x.length := ⟨_, rfl⟩
          clear hp hsl h3 hs HV hcell
          have hiz : (i : Int) < pr.length := by omega
          have hizz : 0 ≤ (i : Int) := by omega
          rcases Nat.mod_two_eq_zero_or_one kn with he | he
          · have d5 : (((kn : Int) % 2) == 0) = true := by simp; omega
            have d6 : decide ((kn : Int) % 2 = 0) = true := decide_eq_true (by omega)
            have HE := Aside0.mk he
            have HEN : Aside0 (shaL (([1] ++ x) ++ p) = nodeL x p) := ⟨by simp [nodeL]⟩
            clear he
            go_wp2_with fail
            go_region_held3 (fun w' => w'.cell? (ad.add i) = some (.slice A3 p.length cu)) (first | exact (HK.out _ HB.out).1 | exact (HK.out _ HB.out.drew).1 | exact (HK.out _ (HB.out.alloc HB.out.size _)).1 | exact (HK.out _ (HB.out.drew.alloc HB.out.size _)).1) (first
              | (refine step_append_row rfl rfl (.tmp 34) (.tmp 35) rfl wr.heap.size 5 _ _ [1] x _ rfl rfl (own_lit (heap_new rfl) (Nat.le_refl _)) (HX.out.below (((Below.refl _ _).drew).alloc (Nat.le_refl _) _)) (by have := HXL.out; simp; omega) (by simp) ?_
                 intro v5 w5 hown5 hg5 hsh5
                 have HO5 := Aside0.mk hown5
                 have hb5 : Below wr.heap.size wr w5 := (((Below.refl _ _).drew).alloc (Nat.le_refl _) _).grown hg5 (by simp) (fun k hk => by cases hk; exact Nat.le_refl _)
                 have HWB := Aside0.mk hb5
                 have HB := Aside0.mk (below_step HB.out hb5)
                 clear hown5 hg5 hb5)
              | (refine step_append_row rfl rfl (.tmp 36) (.tmp 40) rfl wr.heap.size 5 _ _ ([1] ++ x) p _ rfl rfl HO5.out (HK.out _ HB.out).2 (by have := HXL.out; have := HFP1.out; simp; omega) HWB.out.size ?_
                 intro v6 w6 hown6 hg6 hsh6
                 have HO6 := Aside0.mk (Sl.of_own (b := 0) hown6)
                 have hb6 : Below wr.heap.size wr w6 := HWB.out.grown hg6 HWB.out.size (own_base HO5.out)
                 have HB := Aside0.mk (below_step HBW.out hb6)
                 obtain ⟨A6, n6, c6, rfl⟩ := hsh6
                 clear hown6 hg6 hb6)
              | ((go_at_call 34; refine (rsum_calls _ HO6.out (by have := HXL.out; have := HFP1.out; simp; omega)).mono ?_; rintro e w7 ⟨v7, rfl, hown7, hb7⟩)
                 rw [HEN.out] at hown7
                 have HY := Aside0.mk (Sl.of_own (b := bl) hown7)
                 obtain ⟨A7, c7, rfl, _⟩ := Sl.of_own (b := bl) hown7
                 have HB := Aside0.mk (below_step HB.out hb7)
                 clear hown7 hb7))
            have HV := Aside0.mk (show verN root ((m + 1) / 2) (nodeL x p) (kn / 2) (pr.drop (i + 1)) = G by have := HG.out; rw [if_pos HE.out] at this; exact this)
            go_wp2_with fail
            go_roundw
            case rel => exact ⟨kn / 2, (m + 1) / 2, i + 1, nodeL x p, A7, _, c7, by go_num, by go_num, by go_num, by omega, by omega, by omega, rfl, ⟨HV.out, HY.out, node_len _ _, HB.out⟩⟩
            case measure => simp [intOf]; omega
          · have d5 : (((kn : Int) % 2) == 0) = false := by rw [beq_eq_false_iff_ne]; omega
            have d6 : decide ((kn : Int) % 2 = 0) = false := decide_eq_false (by omega)
            have HE := Aside0.mk he
            have HEN : Aside0 (shaL (([1] ++ p) ++ x) = nodeL p x) := ⟨by simp [nodeL]⟩
            clear he
            have hc4 := (HK.out _ (HB.out.alloc HB.out.size (Obj.cells #[Value.int IntKind.u8 1] 5))).1
            go_wp2_with (first
              | (at_builtin; refine append_row bv (fun _ => rfl) rfl (.tmp 43) (.tmp 47) 22 rfl wr.heap.size 5 5 _ _ _ Try.underlying22 info_u8 rfl (by decide) _ [1] p _ rfl rfl (own_lit (heap_new rfl) (Nat.le_refl _)) ((HK.out _ (HB.out.alloc HB.out.size _)).2) (by have := HFP1.out; simp; omega) (by simp) ?_
                 intro v5 w5 hown5 hg5 _
                 have HO5 := Aside0.mk hown5
                 have hb5 : Below wr.heap.size wr w5 := ((Below.refl _ _).alloc (Nat.le_refl _) _).grown hg5 (by simp) (fun k hk => by cases hk; exact Nat.le_refl _)
                 have HWB := Aside0.mk hb5
                 clear hown5 hg5 hb5)
              | (at_builtin; refine append_row bv (fun _ => rfl) rfl (.tmp 48) (.tmp 49) 22 rfl wr.heap.size 5 5 _ _ _ Try.underlying22 info_u8 rfl (by decide) _ ([1] ++ p) x _ rfl rfl HO5.out (HX.out.below HWB.out) (by have := HXL.out; have := HFP1.out; simp; omega) HWB.out.size ?_
                 intro v6 w6 hown6 hg6 _
                 have HO6 := Aside0.mk (Sl.of_own (b := 0) hown6)
                 have hb6 : Below wr.heap.size wr w6 := HWB.out.grown hg6 HWB.out.size (own_base HO5.out)
                 have HB := Aside0.mk (below_step HBW.out hb6)
                 clear hown6 hg6 hb6)
              | ((go_at_call 34; refine (rsum_calls _ HO6.out (by have := HXL.out; have := HFP1.out; simp; omega)).mono ?_; rintro e w7 ⟨v7, rfl, hown7, hb7⟩)
                 rw [HEN.out] at hown7
                 have HY := Aside0.mk (Sl.of_own (b := bl) hown7)
                 obtain ⟨A7, c7, rfl, _⟩ := Sl.of_own (b := bl) hown7
                 have HB := Aside0.mk (below_step HB.out hb7)
                 clear hown7 hb7))
            have HV := Aside0.mk (show verN root ((m + 1) / 2) (nodeL p x) (kn / 2) (pr.drop (i + 1)) = G by have := HG.out; rw [if_neg (by have := HE.out; omega)] at this; exact this)
            go_wp2_with fail
            go_roundw
            case rel => exact ⟨kn / 2, (m + 1) / 2, i + 1, nodeL p x, A7, _, c7, by go_num, by go_num, by go_num, by omega, by omega, by omega, rfl, ⟨HV.out, HY.out, node_len _ _, HB.out⟩⟩
            case measure => simp [intOf]; omega
      · have HV := Aside0.mk ((verN_skip (root := root) (x := x) (pr := pr.drop i) (k := kn) h1 (by rw [← HSS.out]; exact h2)).symm.trans hs.out.1)
        have HS := Aside0.mk hs.out.2
        clear hs
        go_wp2_with fail
        go_roundw
        case rel => exact ⟨kn / 2, (m + 1) / 2, i, x, A2, q2, c2, by go_num, by go_num, rfl, by omega, by omega, hi, rfl, ⟨HV.out, HS.out⟩⟩
        case measure => simp [intOf]; omega
    · have HV := Aside0.mk ((verN_low (root := root) (x := x) (pr := pr.drop i) (k := kn) (n := m) (by omega)).symm.trans hs.out.1)
      have HB := Aside0.mk hs.out.2.2.2
      have cx := hs.out.2.1.string (P := Try.prog) Try.underlying22 Try.underlying5 Try.underlying9
      have cr := (HR.out.below HB.out).string (P := Try.prog) Try.underlying22 Try.underlying5 Try.underlying9
      clear hs
      by_cases h2 : i = pr.length
      · have HV2 := Aside0.mk (show (x == root) = G by have := HV.out; rw [List.length_drop] at this; simpa [h2] using this)
        have d3 : decide (i = pr.length) = true := decide_eq_true h2
        have d4 : ((i : Int) == (pr.length : Int)) = true := by rw [beq_iff_eq]; omega
        have HH := Aside0.mk h2
        clear h2
        go_wp2_with fail
        go_ret
        exact ⟨ret_b (by rw [← HV2.out]; simp [str_toList]), HB.out⟩
      · have HV2 := Aside0.mk (show false = G by have := HV.out; rw [List.length_drop] at this; rw [← this]; simp; omega)
        have d3 : decide (i = pr.length) = false := decide_eq_false h2
        have d4 : ((i : Int) == (pr.length : Int)) = false := by rw [beq_eq_false_iff_ne]; omega
        go_wp2_with fail
        go_ret
        exact ⟨ret_b HV2.out, HB.out⟩

theorem rverify_calls {br bl bp : Nat} {vr vl vp : Value} {root leaf : List UInt8} {pr : List (List UInt8)} (k n : Int) (w : World) (hr : Sl bv 5 w br vr root) (hl : Sl bv 5 w bl vl leaf) (hp : SlL w bp vp pr) (hfl : leaf.length ≤ 1000000000) (hfp : FitM pr)
    (hn : n ≤ 9223372036854775807) :
    Calls Try.prog 29 #[vr, vl, .int .i64 k, .int .i64 n, vp] w fun e w' => e = .returned (.bool (verifyL root leaf k n pr)) ∧ Below w.heap.size w w' := by
  unfold verifyL
  by_cases h : k < 0 ∨ n ≤ k
  · rw [if_pos h]
    refine (rverify_bad k n w h).mono ?_
    rintro e w' ⟨rfl, rfl⟩
    exact ⟨rfl, Below.refl _ _⟩
  · rw [if_neg h]
    obtain ⟨K, rfl⟩ := Int.eq_ofNat_of_zero_le (show 0 ≤ k by omega)
    obtain ⟨N, rfl⟩ := Int.eq_ofNat_of_zero_le (show 0 ≤ n by omega)
    exact rverify_good K N w hr hl hp hfl hfp (by omega) (by omega)
end Go.Proofs.Ytjoljmkedghcbaa
