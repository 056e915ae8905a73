/-
  The reference's Build: each group's parity. No condition but that the slice can be read.
-/
import Derived.Test.YtplbmflgmfoanaaBuild
import Derived.Test.YtplbmflgmfoanaaRBlock
namespace Go.Proofs.Ytplbmflgmfoanaa
open Go.RowKit
set_option linter.unusedVariables false
set_option linter.unusedSimpArgs false

theorem blockL_le {data : List UInt8} {block k : Int} (hb : 1 ≤ block) : (blockL data block k).length ≤ block.toNat := by
  unfold blockL
  split
  · simp
  · rw [List.length_take]; omega

set_option maxHeartbeats 2000000 in
set_option maxRecDepth 100000 in
theorem rbuild_calls {e b0 : Nat} {v : Value} {data : List UInt8} (block k : Int) (w : World) (hv : Sl bv e w b0 v data) (hb : -9223372036854775808 ≤ block ∧ block ≤ 9223372036854775807) (hk : -9223372036854775808 ≤ k ∧ k ≤ 9223372036854775807) :
    Calls Try.prog 26 #[v, .int .i64 block, .int .i64 k] w fun e w' => ∃ v', e = .returned v' ∧ OwnL w' w.heap.size v' (buildL data block k) ∧ Below w.heap.size w w' := by
  have HV := Aside0.mk (hv.old (e' := 22) (Nat.le_refl _))
  obtain ⟨A, c, rfl, hc, hl, hR⟩ := hv
  clear hR
  have HG := Aside0.mk (grp_bd data.length block k)
  have HO : Aside0 (∀ g : Nat, (g : Int) < grp data.length block k → (1 ≤ block ∧ block ≤ 4096) ∧ (1 ≤ k ∧ k ≤ 8)) := ⟨fun g hg => by
    unfold grp at hg
    split at hg
    · rename_i h; have := mayB_iff.1 h; omega
    · omega⟩
  obtain ⟨hb1, hb2⟩ := hb
  obtain ⟨hk1, hk2⟩ := hk
  obtain ⟨i0, hi, hz0, hz1, hz2⟩ := info_parts info_u8
  go_enter Try.func26, Try.ntmps26
  go_wp2_with fail
  go_loopw [7, 8] (fun v i wr => ∃ n : Nat, (n : Int) ≤ grp data.length block k ∧ i = .int .i64 n ∧ Aside0 (OwnL wr w.heap.size v (buildN data block k n) ∧ Below w.heap.size w wr)) (fun v i wr => (grp data.length block k - intOf i).toNat)
  case atStart => exact ⟨0, HG.out.1, rfl, ⟨OwnL.nil _ _, Below.refl _ _⟩⟩
  case round =>
    obtain ⟨n, hn, rfl, hs⟩ := hrel
    have HN := Aside0.mk hn
    have hn' : (n : Int) ≤ 1048576 := by have := HG.out.2; omega
    clear hn
    go_wp2_with fail
    refine (rgroups_calls _ _ _ _ (by omega) (by omega)).mono ?_
    rintro e w' ⟨rfl, rfl⟩
    have hnq := HN.out
    obtain ⟨hq0, hq1⟩ := HG.out
    have ho := HO.out n
    generalize hq : grp data.length block k = q at hnq hq0 hq1 ho ⊢
    have HQ := Aside0.mk hq
    clear hq
    by_cases hlt : (n : Int) < q
    · obtain ⟨⟨hbk0, hbk1⟩, hkk0, hkk1⟩ := ho hlt
      clear ho
      obtain ⟨B, hB⟩ := Int.eq_ofNat_of_zero_le (show 0 ≤ block by omega)
      subst hB
      have hp0 : 0 ≤ (n : Int) * k := Int.mul_nonneg (by omega) (by omega)
      have hp1 : (n : Int) * k ≤ 1048576 * 8 := by
        have h1 := Int.mul_le_mul_of_nonneg_right hn' (show 0 ≤ k by omega)
        have h2 := Int.mul_le_mul_of_nonneg_left hkk1 (show (0 : Int) ≤ 1048576 by omega)
        omega
      have HP : Aside0 (((n : Int) + 1) * k = n * k + k) := ⟨by rw [Int.add_mul]; omega⟩
      have hp2 : 0 ≤ ((n : Int) + 1) * k := by rw [HP.out]; omega
      have hp3 : ((n : Int) + 1) * k ≤ 1048576 * 9 := by rw [HP.out]; omega
      go_wp2_with (at_make; go_must (refine wpList_make_full _ rfl _ _ 22 rfl wr.heap.size 5 i0 _ 1 Try.underlying22 hi hz0 hz1 _ _ _ _ B rfl rfl rfl rfl (by rw [hz2]; omega) (by simp only [maxLen]; omega) (Nat.le_refl _) ?_); intro w1 hown hgrow)
      have HS : Aside0 (OwnB w1 wr.heap.size (.slice (some ⟨wr.heap.size, 0, none⟩) B B) (oneN data (B : Int) (n * k) 0) ∧ Below wr.heap.size wr w1) := ⟨by
        refine ⟨?_, below_none hgrow⟩
        have he := made_bytes B
        simp only [Value.cells, Nat.mul_one] at hown
        rw [he] at hown
        unfold OwnB oneN
        simpa using hown⟩
      clear hown hgrow
      obtain ⟨wo, hwo⟩ : ∃ wo : World, wo = wr := ⟨_, rfl⟩
      rw [← hwo] at HS hs ⊢
      clear hwo wr
      go_loopw [10] (fun i wr => ∃ m : Nat, (m : Int) ≤ k ∧ i = .int .i64 (n * k + m) ∧ Aside0 (OwnB wr wo.heap.size (.slice (some ⟨wo.heap.size, 0, none⟩) B B) (oneN data (B : Int) (n * k) m) ∧ Below wo.heap.size wo wr)) (fun i wr => ((n + 1) * k - intOf i).toNat)
      case atStart => exact ⟨0, by omega, by go_num, HS⟩
      case round =>
        obtain ⟨m, hm, rfl, hsm⟩ := hrel
        by_cases hmk : (m : Int) < k
        · have hlt' : n * k + m < ((n : Int) + 1) * k := by rw [HP.out]; omega
          have hn0 : 0 ≤ (n : Int) * k + (m : Int) := by omega
          clear HS
          go_wp2_with fail
          refine (rblock_calls _ _ _ ((HV.out.below hs.out.2).below hsm.out.2) (by omega)).mono ?_
          rintro e w' ⟨v', rfl, hx, rfl⟩
          have hxl := blockL_le (data := data) (block := (B : Int)) (k := (n : Int) * k + m) (by omega)
          rw [Int.toNat_natCast] at hxl
          obtain ⟨x, hxx⟩ : ∃ x, x = blockL data (B : Int) (n * k + m) := ⟨_, rfl⟩
          rw [← hxx] at hx hxl
          have HXX := Aside0.mk hxx
          clear hxx
          have HX := Aside0.mk hx
          obtain ⟨A', c', rfl, hc', hl', hR'⟩ := hx
          obtain ⟨p, hpp⟩ : ∃ p, p = oneN data (B : Int) (n * k) m := ⟨_, rfl⟩
          have hpl : p.length = B := by rw [hpp, oneN_length]; simp
          have HPP := Aside0.mk hpp
          have HPL := Aside0.mk hpl
          have HC : Aside0 (∀ j, j < x.length → ∃ ad, A' = some ad ∧ wr.cell? (ad.add j) = some (.int .u8 ((x.getD j 0).toNat : Int)) ∧ some (ad.add j).block ≠ some wo.heap.size) := ⟨fun j hj => by
            obtain ⟨ad, h1, h2⟩ := hR'.cell j (bv x[j]) (by simp [List.getElem?_eq_getElem hj])
            refine ⟨ad, h1, by rw [h2]; simp [bv, List.getElem?_eq_getElem hj], ?_⟩
            rw [add_eq]
            intro he
            have he' : ad.block = wo.heap.size := by simpa using he
            obtain ⟨_, cur, fr, e', h3, h4⟩ := own_row hsm.out.1 wo.heap.size rfl
            rcases hR'.home ad h1 (by intro h0; have : x.length = 0 := by simpa using congrArg List.length h0
                                      omega) with h5 | ⟨cur', fr', h5⟩
            · have := hs.out.2.size; omega
            · rw [he', h3] at h5
              injection h5 with h5
              injection h5 with _ h5
              rw [h4] at h5
              exact absurd h5 (by decide)⟩
          have HO2 : Aside0 (OwnB wr wo.heap.size (.slice (some ⟨wo.heap.size, 0, none⟩) B B) p) := ⟨by rw [HPP.out]; exact hsm.out.1⟩
          clear hR' hpp hpl
          go_wp2_with fail
          obtain ⟨wi, hwi⟩ : ∃ wi : World, wi = wr := ⟨_, rfl⟩
          rw [← hwi] at HX hsm HC HO2 ⊢
          clear hwi wr
          go_loopw [12] (fun i wr => ∃ j : Nat, j ≤ x.length ∧ i = .int .i64 j ∧ Aside0 (OwnB wr wo.heap.size (.slice (some ⟨wo.heap.size, 0, none⟩) B B) (xorL p (x.take j)) ∧ wi.grownBy wr (some wo.heap.size))) (fun i wr => x.length - (intOf i).toNat)
          case atStart => exact ⟨0, by omega, rfl, ⟨by rw [List.take_zero, xorL_nil]; exact HO2.out, World.grownBy.refl _ _⟩⟩
          case round =>
            obtain ⟨j, hj, rfl, hsj⟩ := hrel
            by_cases hjx : j < x.length
            · have hjB : j < B := by omega
              obtain ⟨hc1, hf1⟩ := own_at hsj.out.1 j (by rw [xorL_length, HPL.out]; exact hjB)
              obtain ⟨ad, rfl, hcw, hnb⟩ := HC.out j hjx
              rw [xorL_at] at hc1
              have hcr := hsj.out.2.cell hcw hnb
              clear hcw hnb
              obtain ⟨y, hyy⟩ : ∃ y, y = p.getD j 0 := ⟨_, rfl⟩
              obtain ⟨z, hzz⟩ : ∃ z, z = x.getD j 0 := ⟨_, rfl⟩
              rw [← hyy] at hc1
              rw [← hzz] at hcr
              have HYY := Aside0.mk hyy
              have HZZ := Aside0.mk hzz
              clear hyy hzz
              have hxo := u8_xor_bits y z
              go_wp2
              go_region
              go_wp2
              go_roundw
              case rel =>
                obtain ⟨h1, h2⟩ := own_set hsj.out.1 j (p.getD j 0 ^^^ x.getD j 0)
                rw [← xorL_step p x j (by rw [HPL.out]; exact hjB) hjx] at h1
                rw [← HYY.out, ← HZZ.out, UInt8.toNat_xor] at h1 h2
                exact ⟨j + 1, by omega, by go_num, ⟨h1, grownBy_then hsj.out.2 (grownBy_drew h2)⟩⟩
              case measure => simp [intOf]; omega
            · have H3 : Aside0 (OwnB wr wo.heap.size (.slice (some ⟨wo.heap.size, 0, none⟩) B B) (oneN data (B : Int) (n * k) (m + 1)) ∧ Below wo.heap.size wo wr) := ⟨by
                have h1 := hsj.out.1
                rw [List.take_of_length_le (by omega), HPP.out, HXX.out] at h1
                exact ⟨by rw [oneN]; exact h1, hsm.out.2.grown hsj.out.2 hsm.out.2.size (by rintro k' hk'; cases hk'; exact Nat.le_refl _)⟩⟩
              go_wp2
              go_roundw
              case rel => exact ⟨m + 1, by omega, by go_num, H3⟩
              case measure => simp [intOf]; omega
        · have hlt' : ¬ n * k + m < ((n : Int) + 1) * k := by rw [HP.out]; omega
          have H4 : Aside0 (Sl bv 5 wr w.heap.size (.slice (some ⟨wo.heap.size, 0, none⟩) B B) (oneL data (B : Int) k n) ∧ OwnL wr w.heap.size u7 (buildN data (B : Int) k n) ∧ Below w.heap.size w wr) := ⟨by
            have hmk' : m = k.toNat := by omega
            refine ⟨?_, hs.out.1.below hsm.out.2, below_step hs.out.2 hsm.out.2⟩
            rw [oneL, ← hmk']
            exact Sl.of_own hsm.out.1⟩
          have HLL := Aside0.mk (buildN_length data (B : Int) k n)
          clear HS
          go_wp2_with (at_builtin; go_must (refine append_list rfl rfl (.tmp 57) (.tmp 59) rfl _ _ wr.heap.size 1 22 (0, 0) rfl rfl (H4.out.2.1.below ((Below.refl _ _).alloc (Nat.le_refl _) _)) (heap_new rfl) (H4.out.1.below ((Below.refl _ _).alloc (Nat.le_refl _) _)) (by rw [HLL.out]; omega) (by have := H4.out.2.2.size; simp; omega) ?_); intro v2 w2 hl2 hg2 hsh)
          have H2 := Aside0.mk (show OwnL w2 w.heap.size v2 (buildN data (B : Int) k (n + 1)) ∧ Below w.heap.size w w2 from
            ⟨by rw [buildN_succ]; exact hl2, (H4.out.2.2.alloc H4.out.2.2.size _).grown hg2 (by have := H4.out.2.2.size; simp; omega) (OwnL.base_le H4.out.2.1)⟩)
          clear hl2 hg2 hsh
          go_roundw
          case rel => exact ⟨n + 1, by rw [HQ.out]; omega, by go_num, H2⟩
          case measure => rw [HQ.out]; simp [intOf]; omega
    · have hnq2 : n = q.toNat := by omega
      have HNQ := Aside0.mk hnq2
      clear hnq2 ho
      go_wp2_with fail
      go_ret
      exact ⟨_, rfl, by rw [buildL, HQ.out, ← HNQ.out]; exact hs.out.1, hs.out.2⟩
end Go.Proofs.Ytplbmflgmfoanaa
