/-
  The reference's Bad. No condition but lengths.
-/
import Derived.Test.YtplbmflgmfoanaaFixPure
import Derived.Test.YtplbmflgmfoanaaRLeaf1
import Derived.Test.YtplbmflgmfoanaaIntApp
import Derived.Test.YtplbmflgmfoanaaRCount
namespace Go.Proofs.Ytplbmflgmfoanaa
open Go.RowKit
set_option linter.unusedVariables false
set_option linter.unusedSimpArgs false

theorem toList_str_eq (x y : List UInt8) : ((str x).toList == (str y).toList) = (x == y) := by rw [toList_eq, toList_eq, show (str x).data.toList = x by rw [← toList_eq, str_toList], show (str y).data.toList = y by rw [← toList_eq, str_toList]]

set_option maxHeartbeats 4000000 in
theorem rbad_calls {b0 b1 : Nat} {v vl : Value} {data : List UInt8} {leaves : List (List UInt8)} (block : Int) (w : World) (hv : Sl bv 5 w b0 v data) (hl : SlL w b1 vl leaves)
    (hb : -9223372036854775808 ≤ block ∧ block ≤ 9223372036854775807) (hd : data.length ≤ 999999999999) :
    Calls Try.prog 13 #[v, .int .i64 block, vl] w fun e w' => ∃ v', e = .returned v' ∧ OwnI w' w.heap.size v' (badL data block leaves) ∧ Below w.heap.size w w' := by
  have HV := Aside0.mk hv
  have HL := Aside0.mk hl
  have HD := Aside0.mk hd
  obtain ⟨A, c, rfl, hc, hm, _⟩ := hv
  obtain ⟨Al, cl, rfl, hcl, hml⟩ := hl.shape
  have HG := Aside0.mk (cnt_bd data.length block)
  have HBL : Aside0 (badL data block leaves = badN data block leaves (cnt data.length block).toNat) := ⟨rfl⟩
  clear hl
  obtain ⟨q, hq⟩ : ∃ q : Nat, cnt (data.length : Int) block = q := ⟨(cnt (data.length : Int) block).toNat, by have := HG.out; omega⟩
  have hq1 : q ≤ 1048576 := by have := HG.out; omega
  have HQ := Aside0.mk hq
  rw [hq] at HBL
  rw [Int.toNat_natCast] at HBL
  clear hq
  go_enter Try.func13, Try.ntmps13
  go_wp2_with fail
  go_loopw [7, 8] (fun v i wr => ∃ n : Nat, n ≤ q ∧ i = .int .i64 n ∧ Aside0 (OwnI wr w.heap.size v (badN data block leaves n) ∧ Below w.heap.size w wr)) (fun v i wr => q - (intOf i).toNat)
  case atStart => exact ⟨0, by omega, rfl, ⟨World.ownsRow_nil _ _ _ _, Below.refl _ _⟩⟩
  case round =>
    obtain ⟨n, hn, rfl, hs⟩ := hrel
    by_cases hlt : n < q
    · go_wp2_with fail
      refine (rcount_calls _ _ _ (by omega) hb).mono ?_
      rintro e w' ⟨rfl, rfl⟩
      rw [HQ.out]
      have HS : Aside0 (badN data block leaves (n + 1) = badN data block leaves n ++ if rightB data block leaves n = true then [] else [(n : Int)]) := ⟨rfl⟩
      have HLN := Aside0.mk (badN_length data block leaves n)
      by_cases h1 : n < leaves.length
      · obtain ⟨ad, c3, u, A3, cu, he, hu, hcell, hsl⟩ := HL.out.at n h1
        cases he
        subst hu
        have d1 : decide ((leaves.length : Int) ≤ n) = false := decide_eq_false (by omega)
        have d1' : decide (leaves.length ≤ n) = false := decide_eq_false (by omega)
        have z1 : (0 : Int) ≤ (n : Int) := by omega
        have z2 : (n : Int) < leaves.length := by omega
        have HBN := Aside0.mk (blockL_length data block (n : Int))
        have HO : Aside0 (rightB data block leaves n = (leafL (blockL data block n) == leaves.getD n [])) := ⟨by rw [rightB, decide_eq_true h1]; rfl⟩
        obtain ⟨y, hy⟩ : ∃ y, y = leaves.getD n [] := ⟨_, rfl⟩
        obtain ⟨z, hz⟩ : ∃ z, z = blockL data block n := ⟨_, rfl⟩
        rw [← hy] at hcell hsl HO
        rw [← hz] at HO HBN
        have HZ := Aside0.mk hz
        have HK : Aside0 (∀ w', Below w.heap.size w w' → w'.cell? (ad.add n) = some (.slice A3 y.length cu) ∧ (convert 22 9 (.slice A3 y.length cu)).run Try.prog w' = .ok (.string (str y)) w') := ⟨fun w' hb' => ⟨cell_keep hb' hcell, (hsl.below hb').string (P := Try.prog) Try.underlying22 Try.underlying5 Try.underlying9⟩⟩
        have HB := Aside0.mk hs.out.2
        have HW := Aside0.mk (Below.refl wr.heap.size wr)
        clear hy hz hcell hsl
        rcases ho : (leafL z == y) with _ | _
        · have e8 : ((str (leafL z)).toList == (str y).toList) = false := by rw [toList_str_eq, ho]
          have e9 : ((str (leafL z)).toList != (str y).toList) = true := by rw [bne, e8]; rfl
          rw [ho] at HO
          clear ho
          go_wp2_with fail
          go_region_held (fun w' => w'.cell? (ad.add n) = some (.slice A3 y.length cu) ∧ (convert 22 9 (.slice A3 y.length cu)).run Try.prog w' = .ok (.string (str y)) w') (first | exact HK.out _ HB.out | exact HK.out _ HB.out.drew) (first
            | ((go_at_call 36; refine (rblock_calls _ _ _ (HV.out.below HB.out.drew) hb).mono ?_; rintro e w1 ⟨v1, rfl, hsl1, rfl⟩)
               rw [← HZ.out] at hsl1
               have H1 := Aside0.mk hsl1
               obtain ⟨A1, c1, rfl, _⟩ := hsl1)
            | ((go_at_call 35; refine (rleaf_calls _ H1.out (by have := HBN.out; have := HD.out; omega)).mono ?_; rintro e w2 ⟨v2, rfl, hown2, hb2⟩)
               have K2 := (Sl.of_own (b := 0) hown2).string (P := Try.prog) Try.underlying22 Try.underlying5 Try.underlying9
               obtain ⟨A2, c2, rfl, _⟩ := Sl.of_own (b := 0) hown2
               have HW := Aside0.mk (below_step HW.out.drew hb2)
               have HB := Aside0.mk (below_step HB.out.drew hb2)
               clear hown2 hb2))
          go_wp2_with (at_builtin; go_must (refine append_int rfl rfl (.tmp 35) (.tmp 37) rfl w.heap.size _ (badN data block leaves n) _ _ 1 3 (0, 0) rfl rfl (own_below (own_below hs.out.1 HW.out) ((Below.refl _ _).alloc (Nat.le_refl _) _)) (heap_new rfl) (by have := HLN.out; omega) (by have := HB.out.size; simp; omega) ?_); intro v3 w3 hl3 hg3)
          have H3 := Aside0.mk (show OwnI w3 w.heap.size v3 (badN data block leaves (n + 1)) ∧ Below w.heap.size w w3 from ⟨by rw [HS.out, HO.out, if_neg (by decide)]; exact hl3, (HB.out.alloc HB.out.size _).grown hg3 (by have := HB.out.size; simp; omega) (own_base hs.out.1)⟩)
          clear hl3 hg3
          go_wp2_with fail
          go_roundw
          case rel => exact ⟨n + 1, by omega, by go_num, H3⟩
          case measure => simp [intOf]; omega
        · have e8 : ((str (leafL z)).toList == (str y).toList) = true := by rw [toList_str_eq, ho]
          have e9 : ((str (leafL z)).toList != (str y).toList) = false := by rw [bne, e8]; rfl
          rw [ho] at HO
          clear ho
          go_wp2_with fail
          go_region_held (fun w' => w'.cell? (ad.add n) = some (.slice A3 y.length cu) ∧ (convert 22 9 (.slice A3 y.length cu)).run Try.prog w' = .ok (.string (str y)) w') (first | exact HK.out _ HB.out | exact HK.out _ HB.out.drew) (first
            | ((go_at_call 36; refine (rblock_calls _ _ _ (HV.out.below HB.out.drew) hb).mono ?_; rintro e w1 ⟨v1, rfl, hsl1, rfl⟩)
               rw [← HZ.out] at hsl1
               have H1 := Aside0.mk hsl1
               obtain ⟨A1, c1, rfl, _⟩ := hsl1)
            | ((go_at_call 35; refine (rleaf_calls _ H1.out (by have := HBN.out; have := HD.out; omega)).mono ?_; rintro e w2 ⟨v2, rfl, hown2, hb2⟩)
               have K2 := (Sl.of_own (b := 0) hown2).string (P := Try.prog) Try.underlying22 Try.underlying5 Try.underlying9
               obtain ⟨A2, c2, rfl, _⟩ := Sl.of_own (b := 0) hown2
               have HW := Aside0.mk (below_step HW.out.drew hb2)
               have HB := Aside0.mk (below_step HB.out.drew hb2)
               clear hown2 hb2))
          go_wp2_with fail
          go_roundw
          case rel => exact ⟨n + 1, by omega, by go_num, ⟨by rw [HS.out, HO.out, if_pos rfl, List.append_nil]; exact own_below hs.out.1 HW.out, HB.out⟩⟩
          case measure => simp [intOf]; omega
      · have d1 : decide ((leaves.length : Int) ≤ n) = true := decide_eq_true (by omega)
        have d1' : decide (leaves.length ≤ n) = true := decide_eq_true (by omega)
        have HO : Aside0 (rightB data block leaves n = false) := ⟨by rw [rightB, decide_eq_false h1]; rfl⟩
        go_wp2_with fail
        go_quiet (fail)
        go_wp2_with (at_builtin; go_must (refine append_int rfl rfl (.tmp 35) (.tmp 37) rfl w.heap.size _ (badN data block leaves n) _ _ 1 3 (0, 0) rfl rfl (own_below hs.out.1 (by first | exact ((Below.refl _ _).drew).alloc (by simp) _ | exact (below_drewN (Below.refl _ _) _).alloc (by simp) _)) (heap_new rfl) (by have := HLN.out; omega) (by have := hs.out.2.size; simp; omega) ?_); intro v3 w3 hl3 hg3)
        have H3 := Aside0.mk (show OwnI w3 w.heap.size v3 (badN data block leaves (n + 1)) ∧ Below w.heap.size w w3 from ⟨by rw [HS.out, HO.out, if_neg (by decide)]; exact hl3, (below_step hs.out.2 (by first | exact ((Below.refl _ _).drew).alloc (by simp) _ | exact (below_drewN (Below.refl _ _) _).alloc (by simp) _)).grown hg3 (by have := hs.out.2.size; simp; omega) (own_base hs.out.1)⟩)
        clear hl3 hg3
        go_wp2_with fail
        go_roundw
        case rel => exact ⟨n + 1, by omega, by go_num, H3⟩
        case measure => simp [intOf]; omega
    · have HE : Aside0 (badN data block leaves n = badL data block leaves) := ⟨by rw [HBL.out, show n = q by omega]⟩
      go_wp2_with fail
      refine (rcount_calls _ _ _ (by omega) hb).mono ?_
      rintro e w' ⟨rfl, rfl⟩
      rw [HQ.out]
      go_wp2_with fail
      go_ret
      exact ⟨_, rfl, by rw [← HE.out]; exact hs.out.1, hs.out.2⟩
end Go.Proofs.Ytplbmflgmfoanaa
