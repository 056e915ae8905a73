/-
  parity.right, parity.Bad: which blocks have not their leaves. No condition but lengths.
-/
import Derived.Test.YtplbmflgmfoanaaFixPure
import Derived.Test.YtplbmflgmfoanaaLeaf1
import Derived.Test.YtplbmflgmfoanaaIntApp
namespace Go.Proofs.Ytplbmflgmfoanaa
open Go.RowKit
set_option linter.unusedVariables false
set_option linter.unusedSimpArgs false

set_option maxHeartbeats 2000000 in
theorem right_calls {b0 b1 : Nat} {v vl : Value} {data : List UInt8} {leaves : List (List UInt8)} (block : Int) (i : Nat) (w : World) (hv : Sl bv 5 w b0 v data) (hl : SlL w b1 vl leaves)
    (hb : -9223372036854775808 ≤ block ∧ block ≤ 9223372036854775807) (hi : (i : Int) ≤ 1048576) (hd : data.length ≤ 999999999999) :
    Calls Try.prog 52 #[v, .int .i64 block, .int .i64 i, vl] w fun e w' => e = .returned (.bool (rightB data block leaves i)) ∧ Below w.heap.size w w' := by
  have HV := Aside0.mk hv
  have HL := Aside0.mk hl
  have HD := Aside0.mk hd
  obtain ⟨A, c, rfl, hc, hm, _⟩ := hv
  obtain ⟨Al, cl, rfl, hcl, hml⟩ := hl.shape
  have HB := Aside0.mk (Below.refl w.heap.size w)
  clear hl
  by_cases h1 : i < leaves.length
  · obtain ⟨ad, c3, u, A3, cu, he, hu, hcell, hsl⟩ := HL.out.at i h1
    cases he
    subst hu
    have d1 : decide ((i : Int) < leaves.length) = true := decide_eq_true (by omega)
    have z1 : (0 : Int) ≤ (i : Int) := by omega
    have z2 : (i : Int) < leaves.length := by omega
    have HBL := Aside0.mk (blockL_length data block (i : Int))
    have HO : Aside0 (rightB data block leaves i = (leafL (blockL data block i) == leaves.getD i [])) := ⟨by rw [rightB, decide_eq_true h1]; rfl⟩
    obtain ⟨y, hy⟩ : ∃ y, y = leaves.getD i [] := ⟨_, rfl⟩
    obtain ⟨z, hz⟩ : ∃ z, z = blockL data block i := ⟨_, rfl⟩
    rw [← hy] at hcell hsl HO
    rw [← hz] at HO HBL
    have HZ := Aside0.mk hz
    obtain ⟨o, ho⟩ : ∃ o, (leafL z == y) = o := ⟨_, rfl⟩
    rw [ho] at HO
    have HOE := Aside0.mk ho
    have HK : Aside0 (∀ w', Below w.heap.size w w' → w'.cell? (ad.add i) = some (.slice A3 y.length cu) ∧ Sl bv 5 w' b1 (.slice A3 y.length cu) y) := ⟨fun w' hb' => ⟨cell_keep hb' hcell, hsl.below hb'⟩⟩
    clear hy hz ho hcell hsl
    go_enter Try.func52, Try.ntmps52
    go_wp2_with fail
    go_region_held3 (fun w' => w'.cell? (ad.add i) = some (.slice A3 y.length cu)) (first | exact (HK.out _ HB.out).1 | exact (HK.out _ HB.out.drew).1) (first
      | ((go_at_call 42; refine (block_calls _ _ _ (HV.out.below (Below.refl _ _).drew) hb).mono ?_; rintro e w1 ⟨v1, rfl, hown1, hb1⟩)
         rw [← HZ.out] at hown1
         have H1 := Aside0.mk (Sl.of_own (b := 0) hown1)
         obtain ⟨A1, c1, rfl, _⟩ := Sl.of_own (b := 0) hown1
         have HB := Aside0.mk (below_step HB.out.drew hb1)
         clear hown1 hb1)
      | ((go_at_call 41; refine (leaf_calls _ H1.out (Nat.zero_le _) (by have := HBL.out; have := HD.out; omega)).mono ?_; rintro e w2 ⟨v2, rfl, hown2, hb2⟩)
         have H2 := Aside0.mk (Sl.of_own (b := 0) hown2)
         obtain ⟨A2, c2, rfl, _⟩ := Sl.of_own (b := 0) hown2
         have HB := Aside0.mk (below_step HB.out hb2)
         clear hown2 hb2)
      | ((go_at_call 30; refine (equal_same _ H2.out (HK.out _ HB.out).2).mono ?_; rintro e w3 ⟨rfl, rfl⟩)
         rw [HOE.out]))
    go_wp2_with fail
    go_ret
    exact ⟨ret_b HO.out.symm, HB.out⟩
  · have d1 : decide ((i : Int) < leaves.length) = false := decide_eq_false (by omega)
    have HO : Aside0 (false = rightB data block leaves i) := ⟨by rw [rightB, decide_eq_false h1]; rfl⟩
    go_enter Try.func52, Try.ntmps52
    go_wp2_with fail
    go_quiet (fail)
    go_wp2_with fail
    go_ret
    exact ⟨ret_b HO.out, by first | exact HB.out.drew | exact below_drewN HB.out _⟩

set_option maxHeartbeats 2000000 in
theorem bad_calls {b0 b1 : Nat} {v vl : Value} {data : List UInt8} {leaves : List (List UInt8)} (block : Int) (w : World) (hv : Sl bv 5 w b0 v data) (hl : SlL w b1 vl leaves)
    (hb : -9223372036854775808 ≤ block ∧ block ≤ 9223372036854775807) (hd : data.length ≤ 999999999999) :
    Calls Try.prog 37 #[v, .int .i64 block, vl] w fun e w' => ∃ v', e = .returned v' ∧ OwnI w' w.heap.size v' (badL data block leaves) ∧ Below w.heap.size w w' := by
  have HV := Aside0.mk hv
  have HL := Aside0.mk hl
  have HD := Aside0.mk hd
  obtain ⟨A, c, rfl, hc, hm, _⟩ := hv
  obtain ⟨Al, cl, rfl, hcl, hml⟩ := hl.shape
  have HG := Aside0.mk (cnt_bd data.length block)
  have HBL : Aside0 (badL data block leaves = badN data block leaves (cnt data.length block).toNat) := ⟨rfl⟩
  clear hl
  go_enter Try.func37, Try.ntmps37
  go_wp2_with fail
  refine (count_calls _ _ _ (by omega) hb).mono ?_
  rintro e w' ⟨rfl, rfl⟩
  obtain ⟨q, hq⟩ : ∃ q : Nat, cnt (data.length : Int) block = q := ⟨(cnt (data.length : Int) block).toNat, by have := HG.out; omega⟩
  have hq1 : q ≤ 1048576 := by have := HG.out; omega
  rw [hq] at HBL ⊢
  rw [Int.toNat_natCast] at HBL
  clear hq
  go_wp2_with fail
  go_loopw [6, 12] (fun v i wr => ∃ n : Nat, n ≤ q ∧ i = .int .i64 n ∧ Aside0 (OwnI wr w.heap.size v (badN data block leaves n) ∧ Below w.heap.size w wr)) (fun v i wr => q - (intOf i).toNat)
  case atStart => exact ⟨0, by omega, rfl, ⟨World.ownsRow_nil _ _ _ _, Below.refl _ _⟩⟩
  case round =>
    obtain ⟨n, hn, rfl, hs⟩ := hrel
    by_cases hlt : n < q
    · go_wp2_with fail
      refine (right_calls block n _ (HV.out.below hs.out.2) (HL.out.below hs.out.2) hb (by omega) HD.out).mono ?_
      rintro e w2 ⟨rfl, hb2⟩
      have HS : Aside0 (badN data block leaves (n + 1) = badN data block leaves n ++ if rightB data block leaves n = true then [] else [(n : Int)]) := ⟨rfl⟩
      have HLN := Aside0.mk (badN_length data block leaves n)
      obtain ⟨o, ho⟩ : ∃ o, o = rightB data block leaves n := ⟨_, rfl⟩
      rw [← ho] at HS ⊢
      clear ho
      have HO := Aside0.mk (And.intro (own_below hs.out.1 hb2) (below_step hs.out.2 hb2))
      have HOB := Aside0.mk (own_base hs.out.1)
      clear hb2 hs
      cases o with
      | true =>
        go_wp2_with fail
        go_roundw
        case rel => exact ⟨n + 1, by omega, by go_num, ⟨by rw [HS.out]; simp only [if_true, List.append_nil]; exact HO.out.1, HO.out.2⟩⟩
        case measure => simp [intOf]; omega
      | false =>
        go_wp2_with (at_builtin; go_must (refine append_int rfl rfl (.tmp 21) (.tmp 23) rfl w.heap.size _ (badN data block leaves n) _ _ 1 3 (0, 0) rfl rfl (own_below HO.out.1 ((Below.refl _ _).alloc (Nat.le_refl _) _)) (heap_new rfl) (by have := HLN.out; omega) (by have := HO.out.2.size; simp; omega) ?_); intro v3 w3 hl3 hg3)
        have H3 := Aside0.mk (show OwnI w3 w.heap.size v3 (badN data block leaves (n + 1)) ∧ Below w.heap.size w w3 from ⟨by rw [HS.out, if_neg (by decide)]; exact hl3, (HO.out.2.alloc HO.out.2.size _).grown hg3 (by have := HO.out.2.size; simp; omega) HOB.out⟩)
        clear hl3 hg3
        go_wp2_with fail
        go_roundw
        case rel => exact ⟨n + 1, by omega, by go_num, H3⟩
        case measure => simp [intOf]; omega
    · have HE : Aside0 (badN data block leaves n = badL data block leaves) := ⟨by rw [HBL.out, show n = q by omega]⟩
      go_wp2_with fail
      go_ret
      exact ⟨_, rfl, by rw [← HE.out]; exact hs.out.1, hs.out.2⟩
end Go.Proofs.Ytplbmflgmfoanaa
