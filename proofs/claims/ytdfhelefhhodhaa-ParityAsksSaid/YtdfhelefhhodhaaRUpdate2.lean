/-
  The reference's Update: what parity becomes. No condition but that the slices can be read.
-/
import Derived.Test.YtdfhelefhhodhaaRUpdate
namespace Go.Proofs.Ytdfhelefhhodhaa
open Go.RowKit
set_option linter.unusedVariables false
set_option linter.unusedSimpArgs false

set_option maxHeartbeats 16000000 in
set_option maxRecDepth 100000 in
theorem rupdate_good {b0 b1 b2 e1 e2 : Nat} {vp vo vn : Value} {par : List (List UInt8)} {old now : List UInt8} (block k : Int) (w : World) (hp : SlL w b0 vp par) (ho : Sl bv e1 w b1 vo old) (hn : Sl bv e2 w b2 vn now)
    (hb : -9223372036854775808 ≤ block ∧ block ≤ 9223372036854775807) (hk : -9223372036854775808 ≤ k ∧ k ≤ 9223372036854775807) (hok : updOk par old block k = true) :
    Calls Try.prog 16 #[vp, vo, vn, .int .i64 block, .int .i64 k] w fun e w' => ∃ v' b, e = .returned (.tuple #[v', .int .i64 0]) ∧ SlL w' b v' (updL par old now block k) ∧ Below w.heap.size w w' := by
  have HP := Aside0.mk hp
  have HO := Aside0.mk ho
  have HN := Aside0.mk hn
  obtain ⟨A, c, rfl, hc, hm⟩ := hp.shape
  obtain ⟨Ao, co, rfl, _, hmo, _⟩ := ho
  obtain ⟨An, cn, rfl, _, hmn, _⟩ := hn
  have hok' := hok
  unfold updOk at hok'
  simp only [Bool.and_eq_true] at hok'
  obtain ⟨hmay, hlen, hall⟩ := hok'
  obtain ⟨hbl0, hbl1, hk0, hk1⟩ := mayB_iff.1 hmay
  have HLEN := Aside0.mk (eq_of_beq hlen)
  have HALL : Aside0 (∀ i, i < par.length → ((par.getD i []).length : Int) = block) := ⟨fun i hi => by
    unfold allLen at hall
    rw [List.all_eq_true] at hall
    have h2 := hall (par.getD i []) (by simp [List.getElem?_eq_getElem hi])
    exact eq_of_beq h2⟩
  have HG := Aside0.mk (grp_bd now.length block k)
  have HGO := Aside0.mk (grp_bd old.length block k)
  clear hmay hlen hall hok hp
  obtain ⟨B, rfl⟩ := Int.eq_ofNat_of_zero_le (show 0 ≤ block by omega)
  obtain ⟨i0, hi, hz0, hz1, hz2⟩ := info_parts info_u8
  obtain ⟨Q, hQ⟩ : ∃ Q : Nat, grp now.length (B : Int) k = Q := ⟨(grp now.length (B : Int) k).toNat, by have := HG.out; omega⟩
  have hQ1 : Q ≤ 1048576 := by have := HG.out; omega
  have HQ := Aside0.mk hQ
  clear hQ
  go_enter Try.func16, Try.ntmps16
  go_wp2_with fail
  refine (rgroups_calls _ _ _ _ (by omega) (by omega)).mono ?_
  rintro e w' ⟨rfl, rfl⟩
  rw [← HLEN.out]
  go_wp2_with fail
  go_loop [12] (fun i => ∃ n : Nat, n ≤ par.length ∧ i = .int .i64 n) (fun i => par.length - (intOf i).toNat)
  case atStart => exact ⟨0, by omega, rfl⟩
  case round =>
    obtain ⟨n, hn, rfl⟩ := hrel
    by_cases hlt : n < par.length
    · obtain ⟨ad, c3, u, A3, cu, he, hu, hcell, hsl⟩ := HP.out.at n hlt
      cases he
      subst hu
      have hxl := HALL.out n hlt
      obtain ⟨x, hx⟩ : ∃ x, x = par.getD n [] := ⟨_, rfl⟩
      rw [← hx] at hcell hxl
      clear hx hsl
      have e1 : ((x.length : Int) != (B : Int)) = false := by rw [bne_eq_false_iff_eq]; exact hxl
      clear hxl
      go_wp2_with fail
      go_round
      case rel => exact ⟨n + 1, by omega, by go_num⟩
      case measure => simp [intOf]; omega
    · go_wp2_with fail
      refine (rbuild_calls (B : Int) k w HO.out (by omega) hk).mono ?_
      rintro e w1 ⟨va, rfl, hla, hb1⟩
      have HA1 := Aside0.mk hla.reads
      have HB1 := Aside0.mk hb1
      obtain ⟨Aa, ca, rfl, hca, hma⟩ := hla.reads.shape
      have HLA : Aside0 ((buildL old (B : Int) k).length = par.length) := ⟨by
        rw [buildL, buildN_length]; have := HLEN.out; omega⟩
      have HLB : Aside0 ((buildL now (B : Int) k).length = Q) := ⟨by
        rw [buildL, buildN_length, HQ.out]; simp⟩
      clear hla hb1
      go_wp2_with fail
      refine (rbuild_calls (B : Int) k w1 (HN.out.below HB1.out) (by omega) hk).mono ?_
      rintro e w2 ⟨vb, rfl, hlb, hb2⟩
      have HA := Aside0.mk (HA1.out.below hb2)
      have HBB := Aside0.mk hlb.reads
      have HB2 := Aside0.mk (below_step HB1.out hb2)
      obtain ⟨Ab, cb, rfl, hcb, hmb⟩ := hlb.reads.shape
      have HGA := Aside0.mk (fun n => @buildL_getD old (B : Int) k n)
      have HGB := Aside0.mk (fun n => @buildL_getD now (B : Int) k n)
      have hlA := HLA.out
      have hlB := HLB.out
      obtain ⟨LA, hLA⟩ : ∃ LA, LA = buildL old (B : Int) k := ⟨_, rfl⟩
      obtain ⟨LB, hLB⟩ : ∃ LB, LB = buildL now (B : Int) k := ⟨_, rfl⟩
      rw [← hLA] at HA hca hma hlA HGA
      rw [← hLB] at HBB hcb hmb hlB HGB
      simp only [← hLA, ← hLB]
      have HLAE := Aside0.mk hlA
      have HLBE := Aside0.mk hlB
      clear hlb hb2 hLA hLB HLA HLB hlA hlB
      have HPP := Aside0.mk (HP.out.below HB2.out)
      go_wp2_with fail
      go_loopw [15, 16] (fun v i wr => ∃ n : Nat, n ≤ Q ∧ i = .int .i64 n ∧ Aside0 (OwnL wr w2.heap.size v (updN par old now (B : Int) k n) ∧ Below w2.heap.size w2 wr)) (fun v i wr => Q - (intOf i).toNat)
      case atStart => exact ⟨0, by omega, rfl, ⟨OwnL.nil _ _, Below.refl _ _⟩⟩
      case round =>
        obtain ⟨n, hn, rfl, hs⟩ := hrel
        by_cases hltn : n < Q
        · have hltb : n < LB.length := by have := HLBE.out; omega
          have hlbn : (LB.getD n []).length = B := by rw [HGB.out n hltb, oneL, oneN_length]; simp
          have HBN := Aside0.mk (HGB.out n hltb)
          have HLBN := Aside0.mk hlbn
          obtain ⟨U, hU⟩ : ∃ U, U = updG par old now (B : Int) k n := ⟨_, rfl⟩
          have HU := Aside0.mk hU
          have HUL : Aside0 (U.length = B) := ⟨by rw [hU]; exact updG_length (fun h => by have := HALL.out n h; omega)⟩
          clear hU hlbn
          go_wp2_with (at_make; go_must (refine wpList_make_full _ rfl _ _ 25 rfl wr.heap.size 5 i0 _ 1 Try.underlying25 hi hz0 hz1 _ _ _ _ B rfl rfl rfl rfl (by rw [hz2]; omega) (by simp only [maxLen]; omega) (Nat.le_refl _) ?_); intro w4 hown hgrow)
          have HS : Aside0 (OwnB w4 wr.heap.size (.slice (some ⟨wr.heap.size, 0, none⟩) B B) (U.take 0 ++ List.replicate (B - 0) 0) ∧ Below wr.heap.size wr w4) := ⟨by
            refine ⟨?_, below_none hgrow⟩
            have he := made_bytes B
            simp only [Value.cells, Nat.mul_one] at hown
            rw [he] at hown
            unfold OwnB
            simpa using hown⟩
          clear hown hgrow
          obtain ⟨wo, rfl⟩ : ∃ wo, wo = wr := ⟨wr, rfl⟩
          go_loopw [18] (fun i wr => ∃ j : Nat, j ≤ B ∧ i = .int .i64 j ∧ Aside0 (OwnB wr wo.heap.size (.slice (some ⟨wo.heap.size, 0, none⟩) B B) (U.take j ++ List.replicate (B - j) 0) ∧ Below wo.heap.size wo wr)) (fun i wr => B - (intOf i).toNat)
          case atStart => exact ⟨0, by omega, rfl, HS⟩
          case round =>
            obtain ⟨j, hj, rfl, hsj⟩ := hrel
            by_cases hjB : j < B
            · have HW := Aside0.mk hsj.out.2
              have hlen9 : (U.take j ++ List.replicate (B - j) (0 : UInt8)).length = B := by rw [List.length_append, List.length_take, List.length_replicate, HUL.out]; omega
              obtain ⟨hc1, hf1⟩ := own_at hsj.out.1 j (by rw [hlen9]; exact hjB)
              have HNEXT := Aside0.mk (fill_next HUL.out hjB)
              obtain ⟨adb, adb', _, cb', he, hcb1, hcb2⟩ := SlL.byte (HBB.out.below (below_step hs.out.2 HW.out)) n j hltb (by rw [HLBN.out]; exact hjB)
              cases he
              rw [HLBN.out] at hcb1
              obtain ⟨z, hz⟩ : ∃ z, z = (LB.getD n []).getD j 0 := ⟨_, rfl⟩
              rw [← hz] at hcb2
              have HZ := Aside0.mk hz
              obtain ⟨D, hD⟩ : ∃ D, D = U.take j ++ List.replicate (B - j) 0 := ⟨_, rfl⟩
              rw [← hD] at hc1 hlen9 HNEXT
              have HOD : Aside0 (OwnB wr wo.heap.size (.slice (some ⟨wo.heap.size, 0, none⟩) B B) D) := ⟨by rw [hD]; exact hsj.out.1⟩
              obtain ⟨h1, h2⟩ := own_set HOD.out j z
              have H5 := Aside0.mk (And.intro h1 (HW.out.grown h2 HW.out.size (by rintro k' hk'; cases hk'; exact Nat.le_refl _)))
              have HLEN9 := Aside0.mk hlen9
              obtain ⟨q0, hq0⟩ : ∃ q0, q0 = D.getD j 0 := ⟨_, rfl⟩
              rw [← hq0] at hc1
              clear hz hD hsj h1 h2 hq0 hlen9
              by_cases hna : n < par.length
              · have hna2 : n < LA.length := by have := HLAE.out; omega
                have hlpn : (par.getD n []).length = B := by have := HALL.out n hna; omega
                have hlan : (LA.getD n []).length = B := by rw [HGA.out n hna2, oneL, oneN_length]; simp
                have HAN := Aside0.mk (HGA.out n hna2)
                obtain ⟨ada, ada', _, ca', he, hca1, hca2⟩ := SlL.byte (HA.out.below (below_step hs.out.2 H5.out.2)) n j hna2 (by rw [hlan]; exact hjB)
                cases he
                rw [hlan] at hca1
                obtain ⟨adp, adp', _, cp', he, hcp1, hcp2⟩ := SlL.byte (HPP.out.below (below_step hs.out.2 H5.out.2)) n j hna (by rw [hlpn]; exact hjB)
                cases he
                rw [hlpn] at hcp1
                obtain ⟨x, hx⟩ : ∃ x, x = (LA.getD n []).getD j 0 := ⟨_, rfl⟩
                obtain ⟨y, hy⟩ : ∃ y, y = (par.getD n []).getD j 0 := ⟨_, rfl⟩
                rw [← hx] at hca2
                rw [← hy] at hcp2
                have HUZ : Aside0 (z ^^^ x ^^^ y = U.getD j 0) := ⟨by rw [hx, hy, HZ.out, HU.out, HBN.out, HAN.out, updG_one hna hlpn hjB]⟩
                obtain ⟨hc5, hf5⟩ := own_at H5.out.1 j (by rw [List.length_set, HLEN9.out]; exact hjB)
                rw [set_getD, if_pos ⟨rfl, by rw [HLEN9.out]; exact hjB⟩] at hc5
                obtain ⟨h1, h2⟩ := own_set H5.out.1 j (z ^^^ x ^^^ y)
                rw [List.set_set, HUZ.out, HNEXT.out, ← HUZ.out, UInt8.toNat_xor, UInt8.toNat_xor] at h1
                rw [UInt8.toNat_xor, UInt8.toNat_xor] at h2
                have H6 := Aside0.mk (And.intro h1 (H5.out.2.grown h2 H5.out.2.size (by rintro k' hk'; cases hk'; exact Nat.le_refl _)))
                have hxo1 := u8_xor_bits z x
                have hxo2 := u8_xor_bits (z ^^^ x) y
                rw [UInt8.toNat_xor] at hxo1 hxo2
                rw [UInt8.toNat_xor] at hxo2
                clear hx hy h1 h2 hlpn hlan
                go_wp2
                go_region
                go_wp2
                go_roundw
                case rel => exact ⟨j + 1, by omega, by go_num, ⟨H6.out.1, H6.out.2.drew⟩⟩
                case measure => simp [intOf]; omega
              · have hna2 : ¬ n < LA.length := by have := HLAE.out; omega
                have HUZ : Aside0 (z = U.getD j 0) := ⟨by rw [HZ.out, HU.out, HBN.out, updG_two (by omega) hjB]⟩
                go_wp2_with fail
                go_roundw
                case rel => exact ⟨j + 1, by omega, by go_num, ⟨by rw [← HNEXT.out, ← HUZ.out]; exact H5.out.1, H5.out.2⟩⟩
                case measure => simp [intOf]; omega
            · have HX : Aside0 (OwnB wr wo.heap.size (.slice (some ⟨wo.heap.size, 0, none⟩) B B) U ∧ Below wo.heap.size wo wr) := ⟨by
                have h1 := hsj.out.1
                rw [List.take_of_length_le (by rw [HUL.out]; omega), show B - j = 0 by omega, List.replicate_zero, List.append_nil] at h1
                exact ⟨h1, hsj.out.2⟩⟩
              have H4 : Aside0 (Sl bv 5 wr w2.heap.size (.slice (some ⟨wo.heap.size, 0, none⟩) B B) U ∧ OwnL wr w2.heap.size u15 (updN par old now (B : Int) k n) ∧ Below w2.heap.size w2 wr) := ⟨by
                refine ⟨?_, hs.out.1.below HX.out.2, below_step hs.out.2 HX.out.2⟩
                have h1 := Sl.of_own (b := w2.heap.size) HX.out.1
                exact h1⟩
              have HLL := Aside0.mk (updN_length par old now (B : Int) k n)
              clear HS
              go_wp2_with (at_builtin; go_must (refine append_list rfl rfl (.tmp 114) (.tmp 116) rfl _ _ wr.heap.size 1 25 (0, 0) rfl rfl (H4.out.2.1.below ((Below.refl _ _).alloc (Nat.le_refl _) _)) (heap_new rfl) (H4.out.1.below ((Below.refl _ _).alloc (Nat.le_refl _) _)) (by rw [HLL.out]; omega) (by have := H4.out.2.2.size; simp; omega) ?_); intro v6 w6 hl6 hg6 hsh)
              have H6 := Aside0.mk (show OwnL w6 w2.heap.size v6 (updN par old now (B : Int) k (n + 1)) ∧ Below w2.heap.size w2 w6 from
                ⟨by rw [updN_succ, ← HU.out]; exact hl6, (H4.out.2.2.alloc H4.out.2.2.size _).grown hg6 (by have := H4.out.2.2.size; simp; omega) (OwnL.base_le H4.out.2.1)⟩)
              clear hl6 hg6
              obtain ⟨A6, n6, c6, rfl⟩ := hsh
              go_wp2_with fail
              go_roundw
              case rel => exact ⟨n + 1, by omega, by go_num, H6⟩
              case measure => simp [intOf]; omega
        · have HE : Aside0 (updN par old now (B : Int) k n = updL par old now (B : Int) k) := ⟨by rw [updL, HQ.out, Int.toNat_natCast, show n = Q by omega]⟩
          have hge : LB.length ≤ n := by have := HLBE.out; omega
          go_wp2_with fail
          go_ret2
          exact ⟨_, _, rfl, by rw [← HE.out]; exact hs.out.1.reads, below_step HB2.out hs.out.2⟩
end Go.Proofs.Ytdfhelefhhodhaa
