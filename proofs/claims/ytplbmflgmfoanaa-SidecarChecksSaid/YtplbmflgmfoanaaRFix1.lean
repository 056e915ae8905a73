/-
  The reference's Fix. No condition but lengths.
-/
import Derived.Test.YtplbmflgmfoanaaRBad1
import Derived.Test.YtplbmflgmfoanaaFix1
namespace Go.Proofs.Ytplbmflgmfoanaa
open Go.RowKit
set_option linter.unusedVariables false
set_option linter.unusedSimpArgs false

set_option maxHeartbeats 16000000 in
set_option maxRecDepth 100000 in
theorem rfix_calls {b0 b1 b2 : Nat} {v vl vp : Value} {data : List UInt8} {leaves par : List (List UInt8)} (block k : Int) (w : World) (hv : Sl bv 5 w b0 v data) (hl : SlL w b1 vl leaves) (hp : SlL w b2 vp par)
    (hb : -9223372036854775808 ≤ block ∧ block ≤ 9223372036854775807) (hk : -9223372036854775808 ≤ k ∧ k ≤ 9223372036854775807) (hd : data.length ≤ 999999999) :
    Calls Try.prog 40 #[v, .int .i64 block, .int .i64 k, vl, vp] w fun e w' => ∃ vf vb, e = .returned (.tuple #[vf, vb]) ∧ OwnB w' w.heap.size vf (fixL data block k leaves par) ∧ OwnI w' w.heap.size vb (badL (fixL data block k leaves par) block leaves) ∧ Below w.heap.size w w' := by
  have HV := Aside0.mk hv
  have HVO := Aside0.mk (hv.old (e' := 22) (Nat.le_refl _))
  have HL := Aside0.mk hl
  have HP := Aside0.mk hp
  obtain ⟨A, c, rfl, hc, hm, _⟩ := hv
  obtain ⟨Al, cl, rfl, hcl, hml⟩ := hl.shape
  obtain ⟨Ap, cp, rfl, hcp, hmp⟩ := hp.shape
  have HG := Aside0.mk (grp_bd data.length block k)
  have HFL : Aside0 (fixL data block k leaves par = fixTo data block k leaves par (badL data block leaves) (grp data.length block k).toNat) := ⟨rfl⟩
  have HMAY : Aside0 (0 < grp data.length block k → 1 ≤ block ∧ block ≤ 4096 ∧ 1 ≤ k ∧ k ≤ 8) := ⟨fun h => by
    refine mayB_iff.1 ?_
    cases hm : mayB block k with
    | true => rfl
    | false => rw [grp, hm] at h; simp at h⟩
  obtain ⟨G, hG⟩ : ∃ G : Nat, grp data.length block k = G := ⟨(grp data.length block k).toNat, by have := HG.out; omega⟩
  have hG1 : G ≤ 1048576 := by have := HG.out; omega
  rw [hG] at HFL HMAY
  rw [Int.toNat_natCast] at HFL
  have HGE := Aside0.mk hG
  have HB0 : Aside0 (∀ (w : World) o, Below w.heap.size w (w.alloc o)) := ⟨fun w o => (Below.refl _ _).alloc (Nat.le_refl _) _⟩
  clear hl hp hG
  go_enter Try.func40, Try.ntmps40
  go_wp2_with (at_builtin; refine append_row bv (fun _ => rfl) rfl (.tmp 22) (.tmp 23) 22 rfl w.heap.size 5 5 _ _ _ Try.underlying22 info_u8 rfl (by decide) _ [] data _ rfl rfl (World.ownsRow_made w #[] 0 (Nat.le_refl _) (by decide) rfl) (HV.out.below (HB0.out _ _)) (by simp; omega) (by simp) ?_; intro vf w1 hownf hgf _)
  have hb1 : Below w.heap.size w w1 := (HB0.out w _).grown hgf (by simp) (fun k hk => by cases hk; exact Nat.le_refl _)
  have HF := Aside0.mk (show OwnB w1 w.heap.size vf data from hownf)
  have HB1 := Aside0.mk hb1
  obtain ⟨Af, cf, rfl, hcf, hmf, _⟩ := Sl.of_own (b := 0) HF.out
  clear hownf hb1 hgf
  go_wp2_with fail
  refine (rbad_calls block w1 (HV.out.below HB1.out) (HL.out.below HB1.out) hb (by omega)).mono ?_
  rintro e w2 ⟨vb, rfl, hownb, hb2⟩
  have HBMEM := Aside0.mk (badN_mem data block leaves (cnt data.length block).toNat)
  have HBLEN := Aside0.mk (badN_length data block leaves (cnt data.length block).toNat)
  have HCB := Aside0.mk (cnt_bd data.length block)
  rw [show badN data block leaves (cnt data.length block).toNat = badL data block leaves from rfl] at HBMEM HBLEN
  have HFT := Aside0.mk (fixTo_length data block k leaves par)
  obtain ⟨bad, hbad⟩ : ∃ bad, bad = badL data block leaves := ⟨_, rfl⟩
  rw [← hbad] at hownb HBMEM HBLEN HFL HFT
  have HBAD := Aside0.mk hbad
  have hbl : bad.length ≤ 1048576 := by have := HBLEN.out; have := HCB.out; omega
  have HO := Aside0.mk (show OwnB w2 w.heap.size _ data ∧ OwnI w2 w1.heap.size vb bad ∧ Below w.heap.size w w2 from ⟨own_below HF.out hb2, hownb, below_step HB1.out hb2⟩)
  obtain ⟨Ab, cb, rfl, hcb, hmb, _⟩ := Sl.of_own (b := 0) hownb
  have HFB : Aside0 (∀ g, (Value.slice Ab bad.length cb).ownBlock = some g → (Value.slice Af data.length cf).ownBlock ≠ some g) := ⟨fun g h1 h2 => by
    have h3 := own_base hownb g h1
    have h4 := own_lt HF.out g h2
    omega⟩
  clear hownb hb2 hbad HF HB1
  go_wp2_with fail
  go_loopw [14] (fun i wr => ∃ n : Nat, n ≤ G ∧ n ≤ par.length ∧ i = .int .i64 n ∧ Aside0 (OwnB wr w.heap.size (.slice Af data.length cf) (fixTo data block k leaves par bad n) ∧ OwnI wr w1.heap.size (.slice Ab bad.length cb) bad ∧ Below w.heap.size w wr)) (fun i wr => G - (intOf i).toNat)
  case atStart => exact ⟨0, by omega, by omega, rfl, ⟨HO.out⟩⟩
  case round =>
    obtain ⟨n, hn, hnp, rfl, hs⟩ := hrel
    have HSA := Aside0.mk hs.out.1
    have HSB := Aside0.mk hs.out.2.1
    have HB := Aside0.mk hs.out.2.2
    clear hs HO
    go_wp2_with fail
    refine (rgroups_calls _ _ _ _ (by omega) hb).mono ?_
    rintro e w' ⟨rfl, rfl⟩
    rw [HGE.out]
    by_cases hlt : n < G ∧ n < par.length
    · obtain ⟨hlt, hpn⟩ := hlt
      have dg : decide ((n : Int) < G) = true := decide_eq_true (by omega)
      have dp : decide ((n : Int) < par.length) = true := decide_eq_true (by omega)
      obtain ⟨hbl0, hbl1, hk0, hk1⟩ := HMAY.out (by omega)
      have HFS : Aside0 (fixTo data block k leaves par bad (n + 1) = fixS data block k leaves par bad n (fixTo data block k leaves par bad n)) := ⟨rfl⟩
      have HSKIP : Aside0 (fixTo data block k leaves par bad (n + 1) = fixTo data block k leaves par bad n → OwnB wr w.heap.size (.slice Af data.length cf) (fixTo data block k leaves par bad (n + 1)) ∧ OwnI wr w1.heap.size (.slice Ab bad.length cb) bad ∧ Below w.heap.size w wr) := ⟨fun h => ⟨by rw [h]; exact HSA.out, HSB.out, HB.out⟩⟩
      have HR : Aside0 (∀ j, j < bad.length → ∃ ad, Ab = some ad ∧ wr.cell? (ad.add j) = some (.int .i64 (bad.getD j 0))) := ⟨fun j hj => by
        obtain ⟨Ax, cx, he, _, _, hR⟩ := Sl.of_own (b := 0) HSB.out
        cases he
        obtain ⟨ad, h1, h2⟩ := hR.cell j (iv bad[j]) (by simp [List.getElem?_eq_getElem hj])
        exact ⟨ad, h1, by rw [h2]; simp [iv, List.getElem?_eq_getElem hj]⟩⟩
      go_wp2_with fail
      go_loopw [15, 16, 17] (fun one z i wx => ∃ (j zn : Nat) (a : Int), j ≤ bad.length ∧ i = .int .i64 j ∧ one = .int .i64 a ∧ z = .int .i64 zn ∧ zn ≤ j ∧ 0 ≤ a ∧ a ≤ 1048576 ∧ wx = wr ∧ Aside0 (zn = (hitsL (bad.take j) k n).length ∧ a = (hitsL (bad.take j) k n).getLastD 0)) (fun one z i wx => bad.length - (intOf i).toNat)
      case atStart => exact ⟨0, 0, 0, by omega, rfl, rfl, rfl, by omega, by omega, by omega, rfl, ⟨rfl, rfl⟩⟩
      case round =>
        obtain ⟨j, zn, a, hj, rfl, rfl, rfl, hzn, ha0, ha1, rfl, hs⟩ := hrel
        by_cases hltj : j < bad.length
        · obtain ⟨ad, hA, hcell⟩ := HR.out j hltj
          subst hA
          have HT := Aside0.mk (take_snocD (d := 0) hltj)
          have hx : 0 ≤ bad.getD j 0 ∧ bad.getD j 0 ≤ 1048576 := by
            have h1 := HBMEM.out (bad.getD j 0) (by rw [List.getD_eq_getElem?_getD, List.getElem?_eq_getElem hltj]; exact List.getElem_mem hltj)
            have := HCB.out
            omega
          obtain ⟨x, hxe⟩ : ∃ x, x = bad.getD j 0 := ⟨_, rfl⟩
          rw [← hxe] at hx hcell HT
          obtain ⟨hx0, hx1⟩ := hx
          have HH := Aside0.mk (hitsL_snoc (bad.take j) k n x)
          rw [← HT.out] at HH
          clear hxe
          obtain ⟨y, hy⟩ : ∃ y, x / k = y := ⟨_, rfl⟩
          have hy' : x.tdiv k = y := by rw [Int.tdiv_eq_ediv_of_nonneg hx0]; exact hy
          rw [hy] at HH
          have hyb : 0 ≤ y ∧ y ≤ 1048576 := by
            rw [← hy]
            exact ⟨Int.ediv_nonneg hx0 (by omega), Int.le_trans (Int.ediv_le_self _ hx0) hx1⟩
          obtain ⟨hyb0, hyb1⟩ := hyb
          by_cases hyn : y = n
          · have e1' : (y == (n : Int)) = true := by rw [hyn]; simp
            have H3 : Aside0 (zn + 1 = (hitsL (bad.take (j + 1)) k n).length ∧ x = (hitsL (bad.take (j + 1)) k n).getLastD 0) := ⟨by
              rw [HH.out, if_pos hyn]
              exact ⟨by rw [List.length_append, ← hs.out.1]; rfl, by simp [List.getLastD_eq_getLast?]⟩⟩
            clear hyn
            go_wp2_with fail
            go_roundw
            case rel => exact ⟨j + 1, zn + 1, x, by omega, by go_num, rfl, by go_num, by omega, by omega, by omega, trivial, H3⟩
            case measure => simp [intOf]; omega
          · have e1' : (y == (n : Int)) = false := by rw [beq_eq_false_iff_ne]; exact hyn
            have H3 : Aside0 (zn = (hitsL (bad.take (j + 1)) k n).length ∧ a = (hitsL (bad.take (j + 1)) k n).getLastD 0) := ⟨by
              rw [HH.out, if_neg hyn, List.append_nil]; exact hs.out⟩
            clear hyn
            go_wp2_with fail
            go_roundw
            case rel => exact ⟨j + 1, zn, a, by omega, by go_num, rfl, rfl, by omega, by omega, by omega, trivial, H3⟩
            case measure => simp [intOf]; omega
        · have HHT : Aside0 (zn = (hitsL bad k n).length ∧ a = (hitsL bad k n).getLastD 0) := ⟨by
            have := hs.out
            rwa [List.take_of_length_le (by omega)] at this⟩
          clear hs
          obtain ⟨adp, c3, u, A3, cu, he, hu, hcellp, hslp⟩ := (HP.out.below HB.out).at n hpn
          cases he
          subst hu
          have z1 : (0 : Int) ≤ (n : Int) := by omega
          have z2 : (n : Int) < par.length := by omega
          by_cases hz1 : zn = 1
          · subst hz1
            have HH1 : Aside0 (hitsL bad k n = [a]) := ⟨by
              obtain ⟨x, hx⟩ := List.length_eq_one_iff.1 HHT.out.1.symm
              have h2 := HHT.out.2
              rw [hx] at h2 ⊢
              rw [h2]; rfl⟩
            have HF1 := Aside0.mk (HFS.out.trans (fixS_one HH1.out))
            clear HHT
            obtain ⟨p, hpe⟩ : ∃ p, p = par.getD n [] := ⟨_, rfl⟩
            rw [← hpe] at hcellp hslp HF1
            have HPS := Aside0.mk hslp
            clear hpe hslp
            by_cases hpb : (p.length : Int) = block
            · obtain ⟨an, rfl⟩ : ∃ an : Nat, a = (an : Int) := ⟨a.toNat, by omega⟩
              have e2 : ((p.length : Int) != block) = false := by rw [bne_eq_false_iff_eq]; exact hpb
              have e2' : ((p.length : Int) == block) = true := by rw [beq_iff_eq]; exact hpb
              by_cases hal : an < leaves.length
              · have d3' : decide (leaves.length ≤ an) = false := decide_eq_false (by omega)
                have HPOS := Aside0.mk (cnt_pos (size := data.length) (block := block) (k := an) (by omega) (by
                  have h1 := HBMEM.out an (hits_mem HH1.out)
                  have := HCB.out
                  omega))
                obtain ⟨B, rfl⟩ := Int.eq_ofNat_of_zero_le (show 0 ≤ block by omega)
                obtain ⟨q, hq⟩ : ∃ q : Nat, q = an * B := ⟨_, rfl⟩
                have hmul : (an : Int) * (B : Int) = (q : Int) := by rw [hq]; simp
                have hqd : q < data.length := by have := HPOS.out.2.2.2.2.1; rw [hmul] at this; omega
                obtain ⟨gf, rfl⟩ : ∃ gf, Af = some ⟨gf, 0, none⟩ := by
                  rcases HSA.out.2 with ⟨he, h0⟩ | ⟨g, cap, cur, he, _⟩
                  · have := HFT.out n; omega
                  · injection he with h1 h2 h3; exact ⟨g, h1⟩
                have HFX := Aside0.mk (And.intro hq hpb)
                have hp0 : 0 ≤ (n : Int) * k := Int.mul_nonneg (by omega) (by omega)
                have hp1 : (n : Int) * k ≤ 1048576 * 8 := by
                  have h1 := Int.mul_le_mul_of_nonneg_right (show (n : Int) ≤ 1048576 by omega) (show 0 ≤ k by omega)
                  have h2 := Int.mul_le_mul_of_nonneg_left hk1 (show (0 : Int) ≤ 1048576 by omega)
                  omega
                have HMU : Aside0 (((n : Int) + 1) * k = n * k + k) := ⟨by rw [Int.add_mul]; omega⟩
                have hp2 : 0 ≤ ((n : Int) + 1) * k := by rw [HMU.out]; omega
                have hp3 : ((n : Int) + 1) * k ≤ 1048576 * 9 := by rw [HMU.out]; omega
                have HPB := Aside0.mk (show p.length = B by omega)
                have hp4096 : p.length ≤ 4096 := by omega
                have hp1p : 1 ≤ p.length := by omega
                clear hpb
                have hcp4 := cell_keep (HB0.out wr (.cells #[] 5)) hcellp
                clear hq
                go_wp2_with (at_builtin; go_must (refine append_row bv (fun _ => rfl) rfl (.tmp 81) (.tmp 85) 22 rfl wr.heap.size 5 5 _ _ _ Try.underlying22 info_u8 rfl (by decide) _ [] p (.slice A3 p.length cu) rfl rfl (World.ownsRow_made wr #[] 0 (Nat.le_refl _) (by decide) rfl) (HPS.out.below (HB0.out wr (.cells #[] 5))) (by simp; omega) (by simp) ?_); intro v3 w3 hown3 hg3 _)
                have HO3 := Aside0.mk (show OwnB w3 wr.heap.size v3 p ∧ Below wr.heap.size wr w3 from ⟨hown3, (HB0.out wr _).grown hg3 (by simp) (fun k hk => by cases hk; exact Nat.le_refl _)⟩)
                obtain ⟨g4, c4, rfl⟩ : ∃ g c, v3 = .slice (some ⟨g, 0, none⟩) p.length c := by
                  rcases HO3.out.1.2 with ⟨he, h0⟩ | ⟨g, cap, cur, he, _⟩
                  · omega
                  · exact ⟨g, cap, he⟩
                have hc4 : p.length ≤ c4 := by
                  obtain ⟨_, _, he, h1, _⟩ := Sl.of_own (b := 0) HO3.out.1
                  cases he; exact h1
                have hg4 : wr.heap.size ≤ g4 := own_base HO3.out.1 g4 rfl
                clear hown3 hg3
                obtain ⟨W, rfl⟩ : ∃ W, W = wr := ⟨wr, rfl⟩
                go_wp2_with fail
                go_loopw [19] (fun i wr => ∃ t : Nat, (t : Int) ≤ k ∧ i = .int .i64 ((n : Int) * k + t) ∧ Aside0 (OwnB wr W.heap.size (.slice (some ⟨g4, 0, none⟩) p.length c4) (fixN data (B : Int) (n * k) an p t) ∧ Below W.heap.size W wr)) (fun i wr => (((n : Int) + 1) * k - intOf i).toNat)
                case atStart => exact ⟨0, by omega, by go_num, ⟨HO3.out⟩⟩
                case round =>
                  obtain ⟨t, ht, rfl, hs3⟩ := hrel
                  by_cases hlt3 : (t : Int) < k
                  · have hlt' : (n : Int) * k + t < ((n : Int) + 1) * k := by rw [HMU.out]; omega
                    go_wp2_with fail
                    refine (rblock_calls _ _ _ (HVO.out.below (below_step HB.out hs3.out.2)) (by omega)).mono ?_
                    rintro e w' ⟨v', rfl, hx, rfl⟩
                    have hxl := blockL_le (data := data) (block := (B : Int)) (k := (n : Int) * k + t) (by omega)
                    rw [Int.toNat_natCast] at hxl
                    obtain ⟨x, hxx⟩ : ∃ x, x = blockL data (B : Int) (n * k + t) := ⟨_, rfl⟩
                    rw [← hxx] at hx hxl
                    have HXX := Aside0.mk hxx
                    clear hxx
                    have HX := Aside0.mk hx
                    obtain ⟨A', c', rfl, hc', hl', hR'⟩ := hx
                    by_cases hta : (n : Int) * k + t = an
                    · have e3 : (((n : Int) * k + t) != (an : Int)) = false := by rw [bne_eq_false_iff_eq]; exact hta
                      have e3' : (((n : Int) * k + t) == (an : Int)) = true := by rw [beq_iff_eq]; exact hta
                      have H4 : Aside0 (OwnB wr W.heap.size (.slice (some ⟨g4, 0, none⟩) p.length c4) (fixN data (B : Int) (n * k) an p (t + 1)) ∧ Below W.heap.size W wr) := ⟨by
                        rw [fixN, if_pos hta]; exact hs3.out⟩
                      clear hta hR'
                      go_wp2_with fail
                      obtain ⟨wi, rfl⟩ : ∃ wi, wi = wr := ⟨wr, rfl⟩
                      go_loopw [21] (fun i wr => i = .int .i64 0 ∧ wr = wi) (fun i wr => 0)
                      case atStart => exact ⟨rfl, rfl⟩
                      case round =>
                        obtain ⟨rfl, rfl⟩ := hrel
                        by_cases hx0 : 0 < x.length
                        · go_wp2_with fail
                          go_roundw
                          case rel => exact ⟨t + 1, by omega, by go_num, H4⟩
                          case measure => simp [intOf]; omega
                        · go_wp2_with fail
                          go_roundw
                          case rel => exact ⟨t + 1, by omega, by go_num, H4⟩
                          case measure => simp [intOf]; omega
                    · have e3 : (((n : Int) * k + t) != (an : Int)) = true := by rw [bne_iff_ne]; exact hta
                      have e3' : (((n : Int) * k + t) == (an : Int)) = false := by rw [beq_eq_false_iff_ne]; exact hta
                      have HTA := Aside0.mk hta
                      clear hta
                      obtain ⟨y0, hy0⟩ : ∃ y0, y0 = fixN data (B : Int) (n * k) an p t := ⟨_, rfl⟩
                      have hyl : y0.length = B := by rw [hy0, fixN_length]; exact HPB.out
                      have HY0 := Aside0.mk hy0
                      have HYL := Aside0.mk hyl
                      have HC : Aside0 (∀ j, j < x.length → ∃ ad, A' = some ad ∧ wr.cell? (ad.add j) = some (.int .u8 ((x.getD j 0).toNat : Int)) ∧ some (ad.add j).block ≠ some g4) := ⟨fun j hj => by
                        obtain ⟨ad, h1, h2⟩ := hR'.cell j (bv x[j]) (by simp [List.getElem?_eq_getElem hj])
                        refine ⟨ad, h1, by rw [h2]; simp [bv, List.getElem?_eq_getElem hj], ?_⟩
                        rw [add_eq]
                        intro he
                        have he' : ad.block = g4 := by simpa using he
                        obtain ⟨_, cur, fr, e', h3, h4⟩ := own_row hs3.out.1 g4 rfl
                        rcases hR'.home ad h1 (by intro h0; have : x.length = 0 := by simpa using congrArg List.length h0
                                                  omega) with h5 | ⟨cur', fr', h5⟩
                        · have := HB.out.size; omega
                        · rw [he', h3] at h5
                          injection h5 with h5
                          injection h5 with _ h5
                          rw [h4] at h5
                          exact absurd h5 (by decide)⟩
                      have HO2 : Aside0 (OwnB wr W.heap.size (.slice (some ⟨g4, 0, none⟩) p.length c4) y0) := ⟨by rw [HY0.out]; exact hs3.out.1⟩
                      clear hR' hy0 hyl
                      go_wp2_with fail
                      obtain ⟨wi, rfl⟩ : ∃ wi, wi = wr := ⟨wr, rfl⟩
                      go_loopw [21] (fun i wr => ∃ j : Nat, j ≤ x.length ∧ i = .int .i64 j ∧ Aside0 (OwnB wr W.heap.size (.slice (some ⟨g4, 0, none⟩) p.length c4) (xorL y0 (x.take j)) ∧ wi.grownBy wr (some g4))) (fun i wr => x.length - (intOf i).toNat)
                      case atStart => exact ⟨0, by omega, rfl, ⟨by rw [List.take_zero, xorL_nil]; exact HO2.out, World.grownBy.refl _ _⟩⟩
                      case round =>
                        obtain ⟨j, hj, rfl, hsj⟩ := hrel
                        by_cases hjx : j < x.length
                        · have hjB : j < B := by omega
                          have hjp : j < p.length := by have := HPB.out; omega
                          obtain ⟨hc1, hf1⟩ := own_at hsj.out.1 j (by rw [xorL_length, HYL.out]; exact hjB)
                          obtain ⟨ad, rfl, hcw, hnb⟩ := HC.out j hjx
                          rw [xorL_at] at hc1
                          have hcr := hsj.out.2.cell hcw hnb
                          clear hcw hnb
                          obtain ⟨y, hyy⟩ : ∃ y, y = y0.getD j 0 := ⟨_, rfl⟩
                          obtain ⟨z, hzz⟩ : ∃ z, z = x.getD j 0 := ⟨_, rfl⟩
                          rw [← hyy] at hc1
                          rw [← hzz] at hcr
                          have HYY := Aside0.mk hyy
                          have HZZ := Aside0.mk hzz
                          clear hyy hzz
                          have hxo := u8_xor_bits y z
                          go_wp2
                          go_region
                          go_wp2
                          go_roundw
                          case rel =>
                            obtain ⟨h1, h2⟩ := own_set hsj.out.1 j (y0.getD j 0 ^^^ x.getD j 0)
                            rw [← xorL_step y0 x j (by rw [HYL.out]; exact hjB) hjx] at h1
                            rw [← HYY.out, ← HZZ.out, UInt8.toNat_xor] at h1 h2
                            exact ⟨j + 1, by omega, by go_num, ⟨h1, grownBy_then hsj.out.2 (grownBy_drew h2)⟩⟩
                          case measure => simp [intOf]; omega
                        · have H3 : Aside0 (OwnB wr W.heap.size (.slice (some ⟨g4, 0, none⟩) p.length c4) (fixN data (B : Int) (n * k) an p (t + 1)) ∧ Below W.heap.size W wr) := ⟨by
                            have h1 := hsj.out.1
                            rw [List.take_of_length_le (by omega), HY0.out, HXX.out] at h1
                            exact ⟨by rw [fixN, if_neg HTA.out]; exact h1, hs3.out.2.grown hsj.out.2 hs3.out.2.size (by rintro k' hk'; cases hk'; exact hg4)⟩⟩
                          go_wp2_with fail
                          go_roundw
                          case rel => exact ⟨t + 1, by omega, by go_num, H3⟩
                          case measure => simp [intOf]; omega
                  · have hlt' : ¬ (n : Int) * k + t < ((n : Int) + 1) * k := by rw [HMU.out]; omega
                    have HTK := Aside0.mk (show t = k.toNat by omega)
                    have HXL := Aside0.mk (fixN_length data (B : Int) (n * k) an p t)
                    have hbl2 : (blockL data (B : Int) an).length ≤ p.length := by
                      have h1 := blockL_le (data := data) (block := (B : Int)) (k := (an : Int)) (by omega)
                      rw [Int.toNat_natCast] at h1
                      rw [HPB.out]; exact h1
                    go_wp2_with fail
                    refine (rblock_calls _ _ _ (HV.out.below (below_step HB.out hs3.out.2)) (by omega)).mono ?_
                    rintro e w' ⟨v', rfl, hx, rfl⟩
                    obtain ⟨A5, c5, rfl, _⟩ := hx
                    have HFGE : Aside0 ((fixN data (B : Int) (n * k) an p t).take (blockL data (B : Int) an).length = fixG data (B : Int) k n an p) := ⟨by rw [fixG, HTK.out]⟩
                    obtain ⟨m, hm⟩ : ∃ m, m = (blockL data (B : Int) an).length := ⟨_, rfl⟩
                    rw [← hm] at hbl2 HFGE ⊢
                    have hmc : m ≤ c4 := by omega
                    have HB4 := Aside0.mk hs3.out.2
                    obtain ⟨X, hX⟩ : ∃ X, X = fixG data (B : Int) k n an p := ⟨_, rfl⟩
                    rw [← hX] at HFGE HF1
                    have HSX : Aside0 (Sl bv 5 wr 0 (.slice (some ⟨g4, 0, none⟩) m c4) X) := ⟨by
                      have h1 := Sl.of_own (b := 0) hs3.out.1
                      have h2 := Sl.cut h1 0 m (by omega) (by rw [HXL.out]; exact hbl2)
                      rw [show (⟨g4, 0, none⟩ : Addr).add 0 = ⟨g4, 0, none⟩ by unfold Addr.add; split <;> simp_all, Nat.sub_zero, Nat.sub_zero, List.drop_zero, HFGE.out] at h2
                      exact h2⟩
                    have HXN : Aside0 (X.length = m) := ⟨by rw [← HFGE.out, List.length_take, HXL.out]; omega⟩
                    have HSKIP2 : Aside0 (∀ w', Below W.heap.size W w' → fixTo data (B : Int) k leaves par bad (n + 1) = fixTo data (B : Int) k leaves par bad n → OwnB w' w.heap.size (.slice (some ⟨gf, 0, none⟩) data.length cf) (fixTo data (B : Int) k leaves par bad (n + 1)) ∧ OwnI w' w1.heap.size (.slice Ab bad.length cb) bad ∧ Below w.heap.size w w') := ⟨fun w' hb' h => ⟨by rw [h]; exact own_below HSA.out hb', own_below HSB.out hb', below_step HB.out hb'⟩⟩
                    obtain ⟨adl, c6, u6, A6, cu6, he, hu6, hcelll, hsll⟩ := (HL.out.below (below_step HB.out HB4.out)).at an hal
                    cases he
                    subst hu6
                    obtain ⟨y, hy⟩ : ∃ y, y = leaves.getD an [] := ⟨_, rfl⟩
                    rw [← hy] at hcelll hsll
                    have HK : Aside0 (∀ w', Below wr.heap.size wr w' → w'.cell? (adl.add an) = some (.slice A6 y.length cu6) ∧ (convert 22 9 (.slice A6 y.length cu6)).run Try.prog w' = .ok (.string (str y)) w') := ⟨fun w' hb' => ⟨cell_keep hb' hcelll, (hsll.below hb').string (P := Try.prog) Try.underlying22 Try.underlying5 Try.underlying9⟩⟩
                    have HY := Aside0.mk hy
                    have z3 : (0 : Int) ≤ (an : Int) := by omega
                    have z4 : (an : Int) < leaves.length := by omega
                    have HW := Aside0.mk (Below.refl wr.heap.size wr)
                    clear hy hcelll hsll hm hX hs3
                    rcases ho : (leafL X == y) with _ | _
                    · have e8 : ((str (leafL X)).toList == (str y).toList) = false := by rw [toList_str_eq, ho]
                      have H3 : Aside0 (fixTo data (B : Int) k leaves par bad (n + 1) = fixTo data (B : Int) k leaves par bad n) := ⟨by
                        rw [HF1.out, if_neg]
                        rintro ⟨_, _, _, h4⟩
                        rw [Int.toNat_natCast, ← HY.out] at h4
                        rw [beq_eq_false_iff_ne] at ho
                        exact ho h4⟩
                      clear ho
                      go_wp2_with fail
                      go_region_held (fun w' => w'.cell? (adl.add an) = some (.slice A6 y.length cu6) ∧ (convert 22 9 (.slice A6 y.length cu6)).run Try.prog w' = .ok (.string (str y)) w') (first | exact HK.out _ HW.out | exact HK.out _ HW.out.drew) (first
                        | ((go_at_call 35; refine (rleaf_calls _ (HSX.out.below HW.out.drew) (by have := HXN.out; omega)).mono ?_; rintro e w6 ⟨v6, rfl, hown6, hb6⟩)
                           have K6 := (Sl.of_own (b := 0) hown6).string (P := Try.prog) Try.underlying22 Try.underlying5 Try.underlying9
                           obtain ⟨A7, c7, rfl, _⟩ := Sl.of_own (b := 0) hown6
                           have HW := Aside0.mk (below_step HW.out.drew hb6)
                           clear hown6 hb6))
                      go_wp2_with fail
                      go_roundw
                      case rel => exact ⟨n + 1, by omega, by omega, by go_num, ⟨HSKIP2.out _ (below_step HB4.out HW.out) H3.out⟩⟩
                      case measure => simp [intOf]; omega
                    · have e8 : ((str (leafL X)).toList == (str y).toList) = true := by rw [toList_str_eq, ho]
                      have H3 : Aside0 (fixTo data (B : Int) k leaves par bad (n + 1) = splB (fixTo data (B : Int) k leaves par bad n) q X) := ⟨by
                        rw [HF1.out, if_pos]
                        · rw [hmul, Int.toNat_natCast]
                        · refine ⟨hpn, HFX.out.2, by rw [Int.toNat_natCast]; exact hal, ?_⟩
                          rw [Int.toNat_natCast, ← HY.out]
                          exact eq_of_beq ho⟩
                      clear ho
                      go_wp2_with fail
                      go_region_held (fun w' => w'.cell? (adl.add an) = some (.slice A6 y.length cu6) ∧ (convert 22 9 (.slice A6 y.length cu6)).run Try.prog w' = .ok (.string (str y)) w') (first | exact HK.out _ HW.out | exact HK.out _ HW.out.drew) (first
                        | ((go_at_call 35; refine (rleaf_calls _ (HSX.out.below HW.out.drew) (by have := HXN.out; omega)).mono ?_; rintro e w6 ⟨v6, rfl, hown6, hb6⟩)
                           have K6 := (Sl.of_own (b := 0) hown6).string (P := Try.prog) Try.underlying22 Try.underlying5 Try.underlying9
                           obtain ⟨A7, c7, rfl, _⟩ := Sl.of_own (b := 0) hown6
                           have HW := Aside0.mk (below_step HW.out.drew hb6)
                           clear hown6 hb6))
                      go_wp2_with ((with_reducible refine copy_bytes rfl ?hg (.tmp 145) (.tmp 146) ?ho (off := q) (g := gf) (n := data.length) (cap := cf) (x := fixTo data (B : Int) k leaves par bad n) (u := .slice (some ⟨g4, 0, none⟩) m c4) (y := X) (e := 5) (b0 := 0) (base := w.heap.size) (dp := some ⟨gf, q, none⟩) (dLen := data.length - q) (dCap := cf - q) ?hd ?hdp ?hown ?hoff ?hs ?hu ?hh); (case hg => rfl); (case ho => rfl); (case hd => rfl); (case hdp => intro _; rfl); (case hown => exact own_below HSA.out (below_step HB4.out HW.out)); (case hoff => rw [HFT.out]; omega); (case hs => rfl); (case hu => exact HSX.out.below HW.out); intro m8 w8 ho8 hg8)
                      have hb8 := below_step HB.out (below_step HB4.out HW.out)
                      have H8 := Aside0.mk (show OwnB w8 w.heap.size (.slice (some ⟨gf, 0, none⟩) data.length cf) (fixTo data (B : Int) k leaves par bad (n + 1)) ∧ OwnI w8 w1.heap.size (.slice Ab bad.length cb) bad ∧ Below w.heap.size w w8 from
                        ⟨by rw [H3.out]; exact ho8, (own_below HSB.out (below_step HB4.out HW.out)).kept hg8 (.inr fun h => HFB.out gf h rfl), hb8.grown hg8 hb8.size (fun k hk => by cases hk; exact own_base HSA.out gf rfl)⟩)
                      clear ho8 hg8 hb8
                      go_wp2_with fail
                      go_roundw
                      case rel => exact ⟨n + 1, by omega, by omega, by go_num, H8⟩
                      case measure => simp [intOf]; omega
              · have d3' : decide (leaves.length ≤ an) = true := decide_eq_true (by omega)
                have H3 : Aside0 (fixTo data block k leaves par bad (n + 1) = fixTo data block k leaves par bad n) := ⟨by
                  rw [HF1.out, if_neg]
                  rintro ⟨_, _, h4, _⟩
                  rw [Int.toNat_natCast] at h4
                  exact hal h4⟩
                clear hpb
                go_wp2_with fail
                go_roundw
                case rel => exact ⟨n + 1, by omega, by omega, by go_num, ⟨HSKIP.out H3.out⟩⟩
                case measure => simp [intOf]; omega
            · have e2 : ((p.length : Int) != block) = true := by rw [bne_iff_ne]; exact hpb
              have e2' : ((p.length : Int) == block) = false := by rw [beq_eq_false_iff_ne]; exact hpb
              have H3 : Aside0 (fixTo data block k leaves par bad (n + 1) = fixTo data block k leaves par bad n) := ⟨by
                rw [HF1.out, if_neg]
                rintro ⟨_, h1, _⟩
                exact hpb h1⟩
              clear hpb
              go_wp2_with fail
              go_roundw
              case rel => exact ⟨n + 1, by omega, by omega, by go_num, ⟨HSKIP.out H3.out⟩⟩
              case measure => simp [intOf]; omega
          · have e5 : ((zn : Int) != 1) = true := by rw [bne_iff_ne]; omega
            have e5' : ((zn : Int) == 1) = false := by rw [beq_eq_false_iff_ne]; omega
            have H3 : Aside0 (fixTo data block k leaves par bad (n + 1) = fixTo data block k leaves par bad n) := ⟨by
              rw [HFS.out]
              exact fixS_two (by rw [← HHT.out.1]; exact hz1)⟩
            go_wp2_with fail
            go_roundw
            case rel => exact ⟨n + 1, by omega, by omega, by go_num, ⟨HSKIP.out H3.out⟩⟩
            case measure => simp [intOf]; omega
    · have HE : Aside0 (fixTo data block k leaves par bad n = fixL data block k leaves par) := ⟨by
        rw [HFL.out]
        by_cases h1 : n = G
        · rw [h1]
        · have h2 := fixTo_far data block k leaves par bad n (G - n) (by omega)
          rw [show n + (G - n) = G by omega] at h2
          exact h2.symm⟩
      have hcond : G ≤ n ∨ (n < G ∧ par.length ≤ n) := by omega
      clear hlt
      rcases hcond with dg | ⟨dg, dp⟩
      · go_wp2_with fail
        refine (rbad_calls block _ (b0 := 0) (data := fixTo data block k leaves par bad n) (Sl.of_own (b := 0) HSA.out) (HL.out.below HB.out) hb (by rw [HFT.out]; omega)).mono ?_
        rintro e w5 ⟨v5, rfl, hown5, hb5⟩
        rw [HE.out] at hown5
        have H5 := Aside0.mk (And.intro hown5 hb5)
        clear hown5 hb5
        go_wp2_with fail
        go_ret2
        exact ⟨_, _, rfl, by rw [← HE.out]; exact own_below HSA.out H5.out.2, own_mono H5.out.1 HB.out.size, below_step HB.out H5.out.2⟩
      · go_wp2_with fail
        refine (rbad_calls block _ (b0 := 0) (data := fixTo data block k leaves par bad n) (Sl.of_own (b := 0) HSA.out) (HL.out.below HB.out) hb (by rw [HFT.out]; omega)).mono ?_
        rintro e w5 ⟨v5, rfl, hown5, hb5⟩
        rw [HE.out] at hown5
        have H5 := Aside0.mk (And.intro hown5 hb5)
        clear hown5 hb5
        go_wp2_with fail
        go_ret2
        exact ⟨_, _, rfl, by rw [← HE.out]; exact own_below HSA.out H5.out.2, own_mono H5.out.1 HB.out.size, below_step HB.out H5.out.2⟩
end Go.Proofs.Ytplbmflgmfoanaa
