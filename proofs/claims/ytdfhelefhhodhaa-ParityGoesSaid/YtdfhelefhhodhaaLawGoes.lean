/-
  What parity becomes, change by change, is what it is of the last data. No condition: for every input.
-/
import Derived.Test.YtdfhelefhhodhaaLaw6
import Derived.Test.YtdfhelefhhodhaaRBuild
import Derived.Test.YtdfhelefhhodhaaBytesW
namespace Go.Proofs.Ytdfhelefhhodhaa
open Go.RowKit
set_option linter.unusedVariables false
set_option linter.unusedSimpArgs false

theorem xorL_self (x : List UInt8) : xorL x x = List.replicate x.length 0 := by
  apply ext_getD
  · simp [xorL_length]
  · intro i hi
    rw [xorL_length] at hi
    rw [xorL_get, if_pos hi, UInt8.xor_self]
    simp [hi]
theorem xorL_zeros (n : Nat) (y : List UInt8) (h : y.length = n) : xorL (List.replicate n 0) y = y := by
  apply ext_getD
  · simp [xorL_length, h]
  · intro i hi
    rw [xorL_length, List.length_replicate] at hi
    rw [xorL_get, List.length_replicate, if_pos hi]
    simp [hi]
theorem oneL_length (data : List UInt8) (block k g : Int) : (oneL data block k g).length = block.toNat := oneN_length _ _ _ _
theorem buildL_ok {was : List UInt8} {block k : Int} (hb : 1 ≤ block ∧ block ≤ 4096) (hk : 1 ≤ k ∧ k ≤ 8) : updOk (buildL was block k) was block k = true := by
  unfold updOk
  have h0 := grp_bd was.length block k
  rw [mayB_true ⟨hb.1, hb.2, hk.1, hk.2⟩]
  have h1 : ((buildL was block k).length : Int) = grp was.length block k := by
    rw [buildL, buildN_length]; omega
  rw [h1]
  simp only [beq_self_eq_true, Bool.true_and]
  unfold allLen
  rw [List.all_eq_true]
  intro x hx
  unfold buildL buildN at hx
  obtain ⟨g, _, rfl⟩ := List.mem_map.1 hx
  rw [oneL_length]
  simp; omega
theorem buildL_upd {was now : List UInt8} {block k : Int} : updL (buildL was block k) was now block k = buildL now block k := by
  unfold updL updN
  show _ = buildN now block k _
  unfold buildN
  apply List.map_congr_left
  intro g _
  unfold updG
  have hl : (buildL was block k).length = (grp was.length block k).toNat := by rw [buildL, buildN_length]
  by_cases hg : g < (buildL was block k).length
  · rw [if_pos hg]
    have : (buildL was block k).getD g [] = oneL was block k g := by
      rw [List.getD_eq_getElem?_getD, List.getElem?_eq_getElem hg]
      simp [buildL, buildN]
    rw [this, xorL_self, oneL_length, xorL_zeros _ _ (oneL_length _ _ _ _)]
  · rw [if_neg hg, xorL_zeros _ _ (oneL_length _ _ _ _)]

set_option maxHeartbeats 2000000 in
theorem goes_out {b0 : Nat} {v : Value} {L : List (List UInt8)} (block k : Int) (w : World) (hv : SlL w b0 v L) (hb : -9223372036854775808 ≤ block ∧ block ≤ 9223372036854775807) (hk : -9223372036854775808 ≤ k ∧ k ≤ 9223372036854775807)
    (hout : ¬ (wt L ≤ 2000 ∧ L.length ≤ 20 ∧ (1 ≤ block ∧ block ≤ 4096) ∧ (1 ≤ k ∧ k ≤ 8))) :
    Calls Try.prog 3 #[v, .int .i64 block, .int .i64 k] w fun e w' => e = .returned (.bool true) ∧ Below w.heap.size w w' := by
  have HV := Aside0.mk hv
  obtain ⟨A, c, rfl, hc, hm⟩ := hv.shape
  have HO := Aside0.mk hout
  clear hout
  go_enter Try.func3, Try.ntmps3
  go_wp2_with fail
  refine (bytes_calls 2000 _ HV.out (by decide)).mono ?_
  rintro e w1 ⟨q, rfl, hq1, hq2, hq3, hb1⟩
  have HQ := Aside0.mk (And.intro hq1 hq2)
  have HB := Aside0.mk hb1
  clear hq1 hq2 hb1
  by_cases h1 : 2000 < q
  · have d1 : decide (2000 < q) = true := by simpa using h1
    go_wp2_with fail
    refine (awake_calls _).mono ?_
    rintro e w2 ⟨rfl, hb2⟩
    go_wp2_with fail
    go_ret
    exact ⟨rfl, below_step HB.out hb2⟩
  · have d1 : decide (2000 < q) = false := by simpa using h1
    by_cases h2 : 20 < L.length
    · have d2 : decide (20 < L.length) = true := by simpa using h2
      go_wp2_with fail
      refine (awake_calls _).mono ?_
      rintro e w2 ⟨rfl, hb2⟩
      go_wp2_with fail
      go_ret
      exact ⟨rfl, below_step HB.out hb2⟩
    · have d2 : decide (20 < L.length) = false := by simpa using h2
      by_cases h3 : block < 1
      · have d3 : decide (block < 1) = true := by simpa using h3
        go_wp2_with fail
        refine (awake_calls _).mono ?_
        rintro e w2 ⟨rfl, hb2⟩
        go_wp2_with fail
        go_ret
        exact ⟨rfl, below_step HB.out hb2⟩
      · have d3 : decide (block < 1) = false := by simpa using h3
        by_cases h4 : 4096 < block
        · have d4 : decide (4096 < block) = true := by simpa using h4
          go_wp2_with fail
          refine (awake_calls _).mono ?_
          rintro e w2 ⟨rfl, hb2⟩
          go_wp2_with fail
          go_ret
          exact ⟨rfl, below_step HB.out hb2⟩
        · have d4 : decide (4096 < block) = false := by simpa using h4
          by_cases h5 : k < 1
          · have d5 : decide (k < 1) = true := by simpa using h5
            go_wp2_with fail
            refine (awake_calls _).mono ?_
            rintro e w2 ⟨rfl, hb2⟩
            go_wp2_with fail
            go_ret
            exact ⟨rfl, below_step HB.out hb2⟩
          · have d5 : decide (k < 1) = false := by simpa using h5
            have h6 : 8 < k := by
              have h7 := HQ.out.1 (by omega)
              have h8 := HO.out
              rcases Int.lt_or_le 8 k with h9 | h9
              · exact h9
              · exact absurd ⟨by omega, by omega, ⟨by omega, by omega⟩, by omega, h9⟩ h8
            have d6 : decide (8 < k) = true := by simpa using h6
            go_wp2_with fail
            refine (awake_calls _).mono ?_
            rintro e w2 ⟨rfl, hb2⟩
            go_wp2_with fail
            go_ret
            exact ⟨rfl, below_step HB.out hb2⟩

set_option maxHeartbeats 2000000 in
set_option maxRecDepth 100000 in
theorem goes_in {b0 : Nat} {v : Value} {L : List (List UInt8)} (block k : Int) (w : World) (hv : SlL w b0 v L) (hw : wt L ≤ 2000) (hlen : L.length ≤ 20) (hb : 1 ≤ block ∧ block ≤ 4096) (hk : 1 ≤ k ∧ k ≤ 8) :
    Calls Try.prog 3 #[v, .int .i64 block, .int .i64 k] w fun e w' => e = .returned (.bool true) ∧ Below w.heap.size w w' := by
  have HV := Aside0.mk hv
  obtain ⟨A, c, rfl, hc, hm⟩ := hv.shape
  have HW := Aside0.mk hw
  have HBK := Aside0.mk hb
  have HKK := Aside0.mk hk
  obtain ⟨hb0, hb1⟩ := hb
  obtain ⟨hk0, hk1⟩ := hk
  clear hw
  go_enter Try.func3, Try.ntmps3
  go_wp2_with fail
  refine (bytes_calls 2000 _ HV.out (by decide)).mono ?_
  rintro e w1 ⟨q, rfl, hq1, hq2, hq3, hb1⟩
  have hq : q ≤ 2000 := by
    have := HW.out
    rcases Int.lt_or_le 2000 q with h | h
    · have := hq2 h; omega
    · exact h
  have HB := Aside0.mk hb1
  clear hq1 hq2 hb1
  have d1 : decide (2000 < q) = false := by simpa using hq
  have d2 : decide (20 < L.length) = false := by simpa using hlen
  have d3 : decide (block < 1) = false := by simpa using hb0
  have d4 : decide (4096 < block) = false := by simp; omega
  have d5 : decide (k < 1) = false := by simpa using hk0
  have d6 : decide (8 < k) = false := by simpa using hk1
  go_wp2_with fail
  refine (build_calls (e := 5) (b0 := 0) (data := []) block k _ (Sl.nil _ _ _ _) (by omega)).mono ?_
  rintro e w2 ⟨v2, rfl, ho2, hb2⟩
  have H2 := Aside0.mk (show SlL w2 _ v2 (buildL [] block k) ∧ Below w.heap.size w w2 from ⟨ho2.reads, below_step HB.out hb2⟩)
  obtain ⟨A2, c2, rfl, _⟩ := ho2.reads.shape
  clear ho2 hb2 d1 d2 d3 d4 d5 d6
  go_wp2_with fail
  go_loopw [7, 8, 9] (fun vw vp i wr => ∃ (n : Nat) (was : List UInt8), n ≤ L.length ∧ i = .int .i64 n ∧ (∃ A c, vw = .slice A was.length c) ∧ (∃ A n c, vp = .slice A n c) ∧ Aside0 ((∃ b1, SlL wr b1 vp (buildL was block k)) ∧ (∃ b2 e2, Sl bv e2 wr b2 vw was) ∧ Below w.heap.size w wr)) (fun vw vp i wr => L.length - (intOf i).toNat)
  case atStart => exact ⟨0, [], Nat.zero_le _, rfl, ⟨none, 0, rfl⟩, ⟨_, _, _, rfl⟩, ⟨⟨_, H2.out.1⟩, ⟨0, 0, Sl.nil _ _ _ _⟩, H2.out.2⟩⟩
  case round =>
    obtain ⟨n, was, hn, rfl, ⟨Aw, cw, rfl⟩, ⟨Ap, np, cp, rfl⟩, hs⟩ := hrel
    by_cases hlt : n < L.length
    · obtain ⟨ad, ca, u, Au, cu, he, hu, hcell, hsl⟩ := (HV.out.below hs.out.2.2).at n hlt
      cases he
      obtain ⟨x, hxx⟩ : ∃ x, x = L.getD n [] := ⟨_, rfl⟩
      rw [← hxx] at hu hsl
      have hxl : x.length ≤ 2000 := by
        have h1 := wt_mem L x (by rw [hxx]; simp [List.getElem?_eq_getElem hlt])
        have := HW.out; omega
      subst hu
      have HX := Aside0.mk hsl
      have HXX := Aside0.mk hxx
      clear hsl hxx
      have hd0 : 0 ≤ (x.length : Int) / block := Int.ediv_nonneg (by omega) (by omega)
      have hd9 : (x.length : Int) / block ≤ 2000 := by
        have := Int.ediv_le_self (b := block) (show 0 ≤ (x.length : Int) by omega)
        omega
      by_cases hd : 200 < (x.length : Int) / block
      · have d7 : decide (200 < (x.length : Int) / block) = true := by simpa using hd
        go_wp2_with fail
        refine (awake_calls _).mono ?_
        rintro e w3 ⟨rfl, hb3⟩
        go_wp2_with fail
        go_ret
        exact ⟨rfl, below_step hs.out.2.2 hb3⟩
      · have d7 : decide (200 < (x.length : Int) / block) = false := by simpa using hd
        go_wp2_with fail
        obtain ⟨b1, hp1⟩ := hs.out.1
        obtain ⟨b2, e2, hw2⟩ := hs.out.2.1
        refine (update_good (now := x) block k _ hp1 hw2 HX.out (by omega) (buildL_ok HBK.out HKK.out)).mono ?_
        rintro e w3 ⟨v3, rfl, ho3, hb3⟩
        rw [buildL_upd] at ho3
        have H3 := Aside0.mk (show SlL w3 _ v3 (buildL x block k) ∧ Below w.heap.size w w3 ∧ Sl bv 5 w3 _ (.slice Au x.length cu) x from ⟨ho3.reads, below_step hs.out.2.2 hb3, HX.out.below hb3⟩)
        obtain ⟨A3, c3, rfl, _⟩ := ho3.reads.shape
        have hcell3 := cell_keep hb3 hcell
        clear ho3 hb3 hp1 hw2 hcell
        go_wp2_with fail
        refine (rbuild_calls block k _ H3.out.2.2 (by omega) (by omega)).mono ?_
        rintro e w4 ⟨v4, rfl, ho4, hb4⟩
        have H4 := Aside0.mk (show SlL w4 _ v4 (buildL x block k) ∧ SlL w4 _ _ (buildL x block k) ∧ Below w.heap.size w w4 ∧ Sl bv 5 w4 _ (.slice Au x.length cu) x from ⟨ho4.reads, H3.out.1.below hb4, below_step H3.out.2.1 hb4, H3.out.2.2.below hb4⟩)
        obtain ⟨A4, c4, rfl, _⟩ := ho4.reads.shape
        have hcell4 := cell_keep hb4 hcell3
        clear ho4 hb4 hcell3
        go_wp2_with fail
        refine (lists_calls _ H4.out.2.1 H4.out.1).mono ?_
        rintro e w5 ⟨rfl, hb5⟩
        have H5 := Aside0.mk (show SlL w5 _ _ (buildL x block k) ∧ Below w.heap.size w w5 ∧ Sl bv 5 w5 _ (.slice Au x.length cu) x from ⟨H4.out.2.1.below hb5, below_step H4.out.2.2.1 hb5, H4.out.2.2.2.below hb5⟩)
        have hcell5 := cell_keep hb5 hcell4
        clear hb5 hcell4
        have heq : (buildL x block k == buildL x block k) = true := by simp
        rw [heq]
        clear heq
        go_wp2_with fail
        go_region
        go_wp2_with fail
        go_roundw
        case rel => exact ⟨n + 1, x, by omega, by go_num, ⟨_, _, rfl⟩, ⟨_, _, _, rfl⟩, ⟨⟨_, H5.out.1.below (Below.refl _ _).drew⟩, ⟨_, _, H5.out.2.2.below (Below.refl _ _).drew⟩, H5.out.2.1.drew⟩⟩
        case measure => simp [intOf]; omega
    · go_wp2_with fail
      refine (awake_calls _).mono ?_
      rintro e w3 ⟨rfl, hb3⟩
      go_wp2_with fail
      go_ret
      exact ⟨rfl, below_step hs.out.2.2 hb3⟩
end Go.Proofs.Ytdfhelefhhodhaa
