/-
  In groups of one the parity is the block itself; two alike blocks in a group leave none; parity of parity and a block is the other one. No condition: for every input.
-/
import Derived.Test.YtdfhelefhhodhaaLaw6
import Derived.Test.YtdfhelefhhodhaaRBlock
import Derived.Test.YtdfhelefhhodhaaFit
import Derived.RegionTactic
namespace Go.Proofs.Ytdfhelefhhodhaa
open Go.RowKit
set_option linter.unusedVariables false
set_option linter.unusedSimpArgs false

set_option maxHeartbeats 1000000 in
theorem onelaw_out {e b0 : Nat} {v : Value} {data : List UInt8} (block : Int) (w : World) (hv : Sl bv e w b0 v data) (hb : -9223372036854775808 ≤ block ∧ block ≤ 9223372036854775807)
    (hout : ¬ (1 ≤ data.length ∧ data.length ≤ 500 ∧ 1 ≤ block ∧ block ≤ 500)) :
    Calls Try.prog 4 #[v, .int .i64 block] w fun e w' => e = .returned (.bool true) ∧ Below w.heap.size w w' := by
  obtain ⟨A, c, rfl, hc, hm, hR⟩ := hv
  clear hR
  by_cases h1 : data.length = 0
  · have d1 : ((data.length : Int) == 0) = true := by simp [h1]
    have h1' := Aside0.mk h1
    clear h1 hout
    go_enter Try.func4, Try.ntmps4
    go_wp2_with fail
    refine (awake_calls _).mono ?_
    rintro e w2 ⟨rfl, hb2⟩
    go_wp2_with fail
    go_ret
    exact ⟨rfl, hb2⟩
  · have d1 : ((data.length : Int) == 0) = false := by simp; exact fun h => h1 (by simp [h])
    have d1' : 0 < data.length := by omega
    clear h1
    by_cases h2 : 500 < data.length
    · have d2 : decide (500 < data.length) = true := by simpa using h2
      clear hout
      go_enter Try.func4, Try.ntmps4
      go_wp2_with fail
      refine (awake_calls _).mono ?_
      rintro e w2 ⟨rfl, hb2⟩
      go_wp2_with fail
      go_ret
      exact ⟨rfl, hb2⟩
    · have d2 : decide (500 < data.length) = false := by simpa using h2
      by_cases h3 : block < 1
      · have d3 : decide (block < 1) = true := by simpa using h3
        clear hout
        go_enter Try.func4, Try.ntmps4
        go_wp2_with fail
        refine (awake_calls _).mono ?_
        rintro e w2 ⟨rfl, hb2⟩
        go_wp2_with fail
        go_ret
        exact ⟨rfl, hb2⟩
      · have d3 : decide (block < 1) = false := by simpa using h3
        have h4 : 500 < block := by omega
        have d4 : decide (500 < block) = true := by simpa using h4
        clear hout
        go_enter Try.func4, Try.ntmps4
        go_wp2_with fail
        refine (awake_calls _).mono ?_
        rintro e w2 ⟨rfl, hb2⟩
        go_wp2_with fail
        go_ret
        exact ⟨rfl, hb2⟩

/-- A row's first part is a block. -/
theorem one_take (data : List UInt8) (B : Nat) (g : Nat) (hB : 1 ≤ B) : (oneL data (B : Int) 1 g).take (blockL data (B : Int) g).length = blockL data (B : Int) g := by
  have h1 : oneL data (B : Int) 1 g = xorL (List.replicate B 0) (blockL data (B : Int) g) := by
    unfold oneL
    show oneN data (B : Int) ((g : Int) * 1) 1 = _
    simp [oneN]
  have hl : (blockL data (B : Int) g).length ≤ B := by
    unfold blockL
    split
    · simp
    · rw [List.length_take]; omega
  rw [h1]
  apply ext_getD
  · rw [List.length_take, xorL_length, List.length_replicate]; omega
  · intro i hi
    rw [List.length_take, xorL_length, List.length_replicate] at hi
    rw [take_getD, if_pos (by omega), xorL_get, List.length_replicate, if_pos (by omega)]
    simp [show i < B by omega]
/-- Two alike blocks leave none. -/
theorem twice_zero (b : List UInt8) (B : Nat) (hB : 1 ≤ B ∧ B ≤ 500) (hl : b.length = B) : buildL (b ++ b) (B : Int) 2 = [List.replicate B 0] := by
  have hg : grp ((b ++ b).length : Nat) (B : Int) 2 = 1 := by
    have hm : mayB (B : Int) 2 = true := mayB_true (by omega)
    unfold grp
    rw [if_pos hm]
    have hc : cnt ((b ++ b).length : Nat) (B : Int) = 2 := by
      unfold cnt
      rw [if_neg (by simp [hl]; omega), List.length_append, hl]
      have : ((B + B : Nat) : Int) + (B : Int) - 1 = (B - 1) + B * 2 := by omega
      rw [this, Int.add_mul_ediv_left _ _ (by omega), Int.ediv_eq_zero_of_lt (by omega) (by omega)]
      rfl
    rw [hc]; rfl
  unfold buildL
  rw [hg]
  have hcb : ∀ k : Int, k = 0 ∨ k = 1 → blockL (b ++ b) (B : Int) k = b := by
    intro k hk
    unfold blockL
    have hc : cnt ((b ++ b).length : Nat) (B : Int) = 2 := by
      unfold cnt
      rw [if_neg (by simp [hl]; omega), List.length_append, hl]
      have : ((B + B : Nat) : Int) + (B : Int) - 1 = (B - 1) + B * 2 := by omega
      rw [this, Int.add_mul_ediv_left _ _ (by omega), Int.ediv_eq_zero_of_lt (by omega) (by omega)]
      rfl
    rw [if_neg (by rw [hc]; omega)]
    rcases hk with rfl | rfl
    · simp [hl]
    · simp [hl]; rw [← hl]; simp
  show [oneL (b ++ b) (B : Int) 2 ((0 : Nat) : Int)] = _
  unfold oneL
  show [oneN (b ++ b) (B : Int) (((0 : Nat) : Int) * 2) 2] = _
  simp only [oneN]
  rw [hcb _ (.inl (by simp)), hcb _ (.inr (by simp)), show List.replicate ((B : Int).toNat) (0 : UInt8) = List.replicate B 0 by simp, xorL_zeros B b hl, xorL_self, hl]

theorem buildL_one_len (data : List UInt8) (B : Nat) (hB : 1 ≤ B ∧ B ≤ 4096) : ((buildL data (B : Int) 1).length : Int) = cnt data.length (B : Int) := by
  have h0 := cnt_bd data.length (B : Int)
  rw [buildL, buildN_length]
  unfold grp
  rw [if_pos (mayB_true (by omega))]
  rw [show cnt (data.length : Int) (B : Int) + 1 - 1 = cnt (data.length : Int) (B : Int) by omega, Int.ediv_one]
  omega
theorem buildL_get (data : List UInt8) (block k : Int) (g : Nat) (h : g < (buildL data block k).length) : (buildL data block k).getD g [] = oneL data block k g := by
  rw [List.getD_eq_getElem?_getD, List.getElem?_eq_getElem h]
  simp [buildL, buildN]

set_option maxHeartbeats 2000000 in
set_option maxRecDepth 100000 in
theorem onelaw_in {e b0 : Nat} {v : Value} {data : List UInt8} (B : Nat) (w : World) (hv : Sl bv e w b0 v data) (hd : 1 ≤ data.length ∧ data.length ≤ 500) (hb : 1 ≤ B ∧ B ≤ 500) :
    Calls Try.prog 4 #[v, .int .i64 (B : Int)] w fun e w' => e = .returned (.bool true) ∧ Below w.heap.size w w' := by
  have HV := Aside0.mk hv
  obtain ⟨A, c, rfl, hc, hm, hR⟩ := hv
  clear hR
  have HBB := Aside0.mk hb
  have HB0 : Aside0 (∀ (w : World) o, Below w.heap.size w (w.alloc o)) := ⟨fun w o => (Below.refl _ _).alloc (Nat.le_refl _) _⟩
  obtain ⟨hd0, hd1⟩ := hd
  obtain ⟨hb0, hb1⟩ := hb
  have d1 : ((data.length : Int) == 0) = false := by simp; exact fun h => by rw [h] at hd0; simp at hd0
  have d2 : decide (500 < data.length) = false := by simpa using hd1
  have d3 : decide ((B : Int) < 1) = false := by simp; omega
  have d4 : decide (500 < (B : Int)) = false := by simp; omega
  go_enter Try.func4, Try.ntmps4
  go_wp2_with fail
  refine (build_calls (B : Int) 1 _ HV.out (by omega)).mono ?_
  rintro e w1 ⟨v1, rfl, ho1, hb1⟩
  have H1 := Aside0.mk (show SlL w1 _ v1 (buildL data (B : Int) 1) ∧ Below w.heap.size w w1 from ⟨ho1.reads, hb1⟩)
  obtain ⟨Ap, cp, rfl, hcp, hmp⟩ := ho1.reads.shape
  have HPL := Aside0.mk (buildL_one_len data B (by omega))
  have HGET := Aside0.mk (buildL_get data (B : Int) 1)
  have hpl2 : ((buildL data (B : Int) 1).length : Int) ≤ 1048576 := by rw [HPL.out]; exact (cnt_bd _ _).2
  clear ho1 hb1
  generalize hP : buildL data (B : Int) 1 = P at *
  clear hP
  go_wp2_with fail
  go_loopw [6] (fun i wr => ∃ n : Nat, n ≤ P.length ∧ i = .int .i64 n ∧ Aside0 (Below w1.heap.size w1 wr)) (fun i wr => P.length - (intOf i).toNat)
  case atStart => exact ⟨0, Nat.zero_le _, rfl, ⟨Below.refl _ _⟩⟩
  case round =>
    obtain ⟨n, hn, rfl, hs⟩ := hrel
    by_cases hlt : n < P.length
    · go_wp2_with fail
      refine (rblock_calls _ _ _ ((HV.out.below H1.out.2).below hs.out) (by omega)).mono ?_
      rintro e w' ⟨v', rfl, hx, rfl⟩
      obtain ⟨ad, ca, u, Au, cu, he, hu, hcell, hsl⟩ := (H1.out.1.below hs.out).at n hlt
      cases he
      rw [HGET.out n hlt] at hu hsl
      have htk := one_take data B n (by omega)
      have hol : (oneL data (B : Int) 1 n).length = B := by unfold oneL; rw [oneN_length]; simp
      obtain ⟨x, hxx⟩ : ∃ x, x = blockL data (B : Int) n := ⟨_, rfl⟩
      obtain ⟨y, hyy⟩ : ∃ y, y = oneL data (B : Int) 1 n := ⟨_, rfl⟩
      rw [← hxx, ← hyy] at htk
      rw [← hxx] at hx
      rw [← hyy] at hu hsl hol
      clear hxx hyy
      rw [hol] at hu
      subst hu
      have hxl : x.length ≤ B := by
        have h := congrArg List.length htk
        rw [List.length_take] at h; omega
      have k1 := ((hsl.first x.length (by omega)).below (Below.refl _ _).drew).string (P := Try.prog) Try.underlying25 Try.underlying5 Try.underlying9
      rw [htk] at k1
      have k2 := (hx.below (Below.refl _ _).drew).string (P := Try.prog) Try.underlying25 Try.underlying5 Try.underlying9
      have k3 : ((str x).toList != (str x).toList) = false := by simp
      have k4 : ((B : Int) != (B : Int)) = false := by simp
      obtain ⟨Ax, cx, rfl, _⟩ := hx
      have hcu : B ≤ cu := by obtain ⟨_, _, h1, h2, _⟩ := hsl; cases h1; omega
      clear hsl htk hol
      go_wp2_with fail
      go_region
      go_wp2_with fail
      go_roundw
      case rel => exact ⟨n + 1, by omega, by go_num, ⟨hs.out.drew⟩⟩
      case measure => simp [intOf]; omega
    · go_wp2_with fail
      refine (fit_calls B _ ((HV.out.below H1.out.2).below hs.out) (by omega) (by omega)).mono ?_
      rintro e w2 ⟨v2, rfl, ho2, hb2⟩
      have HW2 := Aside0.mk (below_step H1.out.2 (below_step hs.out hb2))
      have hfl := fitL_length data B
      generalize fitL data B = b at ho2 hfl
      have HS2 : Aside0 (Sl bv 5 w2 w2.heap.size v2 b) := ⟨Sl.of_own ho2⟩
      obtain ⟨A2, c2, rfl, _⟩ := HS2.out
      clear ho2 hb2
      subst hfl
      have HBL := Aside0.mk hb1
      go_wp2_with (at_builtin; (first
        | (refine append_row bv (fun _ => rfl) rfl (.tmp 64) (.tmp 65) 25 rfl w2.heap.size 5 5 _ _ _ Try.underlying25 info_u8 rfl (by decide) _ [] b _ rfl rfl (World.ownsRow_made w2 #[] 0 (Nat.le_refl _) (by decide) rfl) (HS2.out.below (HB0.out _ _)) (by have := HBL.out; simp; omega) (by simp) ?_
           intro v3 w3 hown hg _
           rw [List.nil_append] at hown
           have H3 := Aside0.mk (show w3.ownsRow w2.heap.size 5 1 v3 b.length (b.map bv) ∧ Below w2.heap.size w2 w3 from ⟨hown, (HB0.out _ _).grown hg (by simp) (fun k hk => by cases hk; exact Nat.le_refl _)⟩)
           obtain ⟨A3, c3, rfl, _⟩ := Sl.of_own (b := 0) hown
           clear hown hg)
        | (refine append_row bv (fun _ => rfl) rfl (.tmp 66) (.tmp 67) 25 rfl w2.heap.size 5 5 _ _ _ Try.underlying25 info_u8 rfl (by decide) _ b b _ rfl rfl H3.out.1 (HS2.out.below H3.out.2) (by have := HBL.out; omega) H3.out.2.size ?_
           intro v4 w4 hown hg _
           have H4 := Aside0.mk (show w4.ownsRow w2.heap.size 5 1 v4 (b ++ b).length ((b ++ b).map bv) ∧ Below w2.heap.size w2 w4 from ⟨hown, below_grown H3.out.2 H3.out.2.size hg (own_base H3.out.1)⟩)
           generalize hbb : b ++ b = bb at hown H4
           have HBB2 := Aside0.mk hbb
           clear hbb
           obtain ⟨A4, c4, rfl, _⟩ := Sl.of_own (b := 0) hown
           clear hown hg)))
      go_wp2_with fail
      refine (build_calls (e := 5) (b0 := 0) (b.length : Int) 2 _ (Sl.of_own H4.out.1) (by omega)).mono ?_
      rintro e w5 ⟨v5, rfl, ho5, hb5⟩
      rw [← HBB2.out, twice_zero b b.length HBB.out rfl] at ho5
      obtain ⟨ad5, c5, u5, A6, c6, hv5, rfl, hcell5, hsl5⟩ := ho5.reads.at 0 (by simp)
      subst hv5
      simp only [List.getD_cons_zero, List.length_replicate, List.length_cons, List.length_nil] at hcell5 hsl5 ⊢
      have H5 := Aside0.mk (show w5.cell? (ad5.add 0) = some (.slice A6 b.length c6) ∧ Sl bv 5 w5 w4.heap.size (.slice A6 b.length c6) (List.replicate b.length 0) ∧ Below w.heap.size w w5 from ⟨hcell5, hsl5, below_step HW2.out (below_step H4.out.2 hb5)⟩)
      have hcell0 : w5.cell? ad5 = some (.slice A6 b.length c6) := by
        have h := hcell5
        rwa [show ad5.add 0 = ad5 from by unfold Addr.add; split <;> simp_all] at h
      have k4 : ((b.length : Int) != (b.length : Int)) = false := by simp
      have HC5 := Aside0.mk hcell0
      clear ho5 hb5 hsl5
      go_wp2_with fail
      go_loopw [10] (fun i wr => ∃ n : Nat, n ≤ b.length ∧ i = .int .i64 n ∧ Aside0 (Below w5.heap.size w5 wr)) (fun i wr => b.length - (intOf i).toNat)
      case atStart => exact ⟨0, Nat.zero_le _, rfl, ⟨Below.refl _ _⟩⟩
      case round =>
        obtain ⟨m, hm2, rfl, hs2⟩ := hrel
        by_cases hlt2 : m < b.length
        · obtain ⟨ad6, A7, c7, k7, k8, k9, k10⟩ : ∃ (ad6 : Addr) (A7 : Option Addr) (c7 : Nat), A6 = some ad6 ∧ wr.cell? (ad6.add m) = some (.int .u8 0) ∧ wr.cell? ad5 = some (.slice (some ad6) b.length c6) ∧ b.length ≤ c6 := by
            have hb := H5.out.2.1.below hs2.out
            obtain ⟨A', c', he, hc', hm', hR'⟩ := hb
            obtain ⟨ad6, h1, h2⟩ := hR'.cell m (bv 0) (by simp [hlt2])
            simp at he
            obtain ⟨rfl, rfl⟩ := he
            subst h1
            exact ⟨ad6, none, 0, rfl, h2, cell_keep hs2.out HC5.out, by simpa using hc'⟩
          subst k7
          go_wp2_with fail
          go_roundw
          case rel => exact ⟨m + 1, by omega, by go_num, hs2⟩
          case measure => simp [intOf]; omega
        · go_wp2_with fail
          refine (rcount_calls _ _ _ (by omega) (by omega)).mono ?_
          rintro e w' ⟨rfl, rfl⟩
          have d5 : ((P.length : Int) == cnt data.length b.length) = true := by rw [HPL.out]; simp
          have HD5 := Aside0.mk d5
          clear d5
          obtain ⟨cc, hcc⟩ : ∃ c, c = cnt data.length b.length := ⟨_, rfl⟩
          rw [← hcc] at HD5 ⊢
          clear hcc
          have d5 := HD5.out
          go_wp2_with fail
          refine (awake_calls _).mono ?_
          rintro e w7 ⟨rfl, hb7⟩
          go_wp2_with fail
          go_ret
          exact ⟨rfl, below_step H5.out.2.2 (below_step hs2.out hb7)⟩
end Go.Proofs.Ytdfhelefhhodhaa
