/-
  merkle.up: the level above. No condition but that the level can be read and is none too long.
-/
import Derived.Test.YtdikconhdbopdaaMerLeaf
import Derived.Deep.RegionHeld3
import Derived.Test.YtdikconhdbopdaaSteps
namespace Go.Proofs.Ytdikconhdbopdaa
open Go.RowKit
set_option linter.unusedVariables false
set_option linter.unusedSimpArgs false

theorem add_succ (ad : Addr) (n : Nat) : ad.add (n + 1) = { block := ad.block, off := ad.off + (n + 1) } := by unfold Addr.add; simp
theorem sha_short (b : List UInt8) : (shaL b).length ≤ 1000000000 := by unfold shaL; simp [St.bytes, bytesW]

set_option maxHeartbeats 1000000 in
theorem up_calls {b0 : Nat} {v : Value} {L : List (List UInt8)} (w : World) (hv : SlL w b0 v L) (hb0 : b0 ≤ w.heap.size) (hf : FitM L) :
    Calls Try.prog 44 #[v] w fun e w' => ∃ v', e = .returned v' ∧ OwnE w' w.heap.size 0 v' (upL L) ∧ Below w.heap.size w w' := by
  have HV := Aside0.mk hv
  have HF := Aside0.mk hf
  obtain ⟨A, c, rfl, hc, hm⟩ := hv.shape
  have hlen : L.length ≤ 1000000000 := hf.1
  clear hf hv
  go_enter Try.func44, Try.ntmps44
  go_wp2_with fail
  go_loopw [2, 3] (fun v i wr => ∃ n : Nat, n ≤ L.length + 1 ∧ i = .int .i64 n ∧ Aside0 (∃ j, n = 2 * j ∧ OwnE wr w.heap.size 0 v ((upL L).take j) ∧ Below w.heap.size w wr)) (fun v i wr => L.length + 1 - (intOf i).toNat)
  case atStart => exact ⟨0, by omega, rfl, ⟨0, rfl, OwnE.nil _ _ _, Below.refl _ _⟩⟩
  case round =>
    obtain ⟨n, hn, rfl, hs⟩ := hrel
    by_cases h1 : n + 1 < L.length
    · obtain ⟨j, hj, hs⟩ := hs.out
      obtain ⟨ad, c', u, A1, cu, he, hu, hcell, hsl⟩ := HV.out.at n (by omega)
      cases he
      obtain ⟨ad', c', u', A2, cu', he, hu', hcell', hsl'⟩ := HV.out.at (n + 1) h1
      cases he
      have HS := Aside0.mk (And.intro hsl hsl')
      have HN := Aside0.mk (upL_two L n j hj h1)
      have HJ := Aside0.mk hj
      have HLJ := Aside0.mk (show ((upL L).take j).length ≤ 1000000000 by rw [List.length_take, upL_length]; omega)
      subst hu hu'
      have HX := Aside0.mk (And.intro (HF.out.at n) (HF.out.at (n + 1)))
      obtain ⟨x, hx⟩ : ∃ x, x = L.getD n [] := ⟨_, rfl⟩
      obtain ⟨y, hy⟩ : ∃ y, y = L.getD (n + 1) [] := ⟨_, rfl⟩
      rw [← hx, ← hy] at HX HN HS
      rw [← hx] at hcell
      rw [← hy] at hcell'
      have HK : Aside0 (∀ w', Below w.heap.size w w' → w'.cell? (ad.add n) = some (.slice A1 x.length cu) ∧ w'.cell? { block := ad.block, off := ad.off + (n + 1) } = some (.slice A2 y.length cu')) := ⟨fun w' hb => ⟨cell_keep hb hcell, cell_keep hb (add_succ ad n ▸ hcell')⟩⟩
      have HB := Aside0.mk hs.2
      have HO := Aside0.mk hs.1
      have hbl := OwnE.base_le hs.1
      have HBL := Aside0.mk hbl
      clear hj hsl hsl' hx hy hcell hcell' hs hbl
      have z1 : IntKind.i64.wrap ((n : Int) + 1) = (n : Int) + 1 := IntWalk.i64_in _ (by omega)
      have z2 : 0 ≤ (n : Int) + 1 := by omega
      have z3 : ((n : Int) + 1).toNat = n + 1 := by omega
      have z4 : (n : Int) + 1 < L.length := by omega
      go_wp2_with fail
      go_region_held3 (fun w' => w'.cell? (ad.add n) = some (.slice A1 x.length cu) ∧ w'.cell? { block := ad.block, off := ad.off + (n + 1) } = some (.slice A2 y.length cu')) (first | exact HK.out _ HB.out | exact HK.out _ HB.out.drew | exact HK.out _ (HB.out.alloc HB.out.size _)) (first
        | ((go_at_call 49; refine (node_calls _ (HS.out.1.below HB.out.drew) (HS.out.2.below HB.out.drew) (by have := HB.out.size; simp; omega) (by have := HX.out; omega)).mono ?_; rintro e w2 ⟨v2, rfl, hown2, hb2⟩)
           have HY := Aside0.mk (Sl.of_own (b := 0) hown2)
           obtain ⟨A3, c3, rfl, _⟩ := Sl.of_own (b := 0) hown2
           have HO := Aside0.mk (HO.out.below ((Below.refl _ _).drew.trans hb2))
           have HB := Aside0.mk (below_step HB.out.drew hb2)
           clear hown2 hb2)
        | (refine step_append_list rfl rfl (.tmp 15) (.tmp 26) rfl _ _ w2.heap.size 1 22 (0, 0) rfl rfl (HO.out.below ((Below.refl _ _).alloc (Nat.le_refl _) _)) (heap_new rfl) (HY.out.below ((Below.refl _ _).alloc (Nat.le_refl _) _)) (Nat.zero_le _) (by have := HLJ.out; omega) (by have := HB.out.size; simp; omega) ?_
           intro v3 w3 hl3 hg3 hsh
           have HO := Aside0.mk hl3
           have HB := Aside0.mk (show Below w.heap.size w w3 from (HB.out.alloc HB.out.size _).grown hg3 (by have := HB.out.size; simp; omega) HBL.out)
           clear hl3 hg3 hsh))
      have H3 := Aside0.mk (show ∃ j', n + 2 = 2 * j' ∧ OwnE w3 w.heap.size 0 v3 ((upL L).take j') ∧ Below w.heap.size w w3 from ⟨j + 1, by have := HJ.out; omega, by rw [HN.out]; exact HO.out, HB.out⟩)
      clear z1 z2 z3 z4
      go_wp2_with fail
      go_roundw
      case rel => exact ⟨n + 2, by omega, by go_num, H3⟩
      case measure => simp [intOf]; omega
    · by_cases h2 : n < L.length
      · obtain ⟨j, hj, hs⟩ := hs.out
        obtain ⟨ad, c', u, A1, cu, he, hu, hcell, hsl⟩ := (HV.out.below hs.2).at n (by omega)
        cases he
        subst hu
        have HS := Aside0.mk hsl
        have HN := Aside0.mk (upL_one L n j hj (by omega))
        have HJ := Aside0.mk hj
        have HLJ := Aside0.mk (show ((upL L).take j).length ≤ 1000000000 by rw [List.length_take, upL_length]; omega)
        have HX := Aside0.mk (HF.out.at n)
        obtain ⟨x, hx⟩ : ∃ x, x = L.getD n [] := ⟨_, rfl⟩
        rw [← hx] at HX HN HS hcell
        have HB := Aside0.mk hs.2
        have HO := Aside0.mk hs.1
        have hbl := OwnE.base_le hs.1
        have HBL := Aside0.mk hbl
        clear hj hsl hx hs hbl
        go_wp2_with fail
        refine (clone_calls _ HS.out (by have := HX.out; omega)).mono ?_
        rintro e w2 ⟨v2, rfl, hown2, hb2⟩
        have HY := Aside0.mk (Sl.of_own (b := 0) hown2)
        obtain ⟨A3, c3, rfl, _⟩ := Sl.of_own (b := 0) hown2
        have HO := Aside0.mk (HO.out.below hb2)
        have HB := Aside0.mk (below_step HB.out hb2)
        clear hown2 hb2
        go_wp2_with (at_builtin; go_must (refine append_listE rfl rfl (.tmp 28) (.tmp 34) rfl _ _ w2.heap.size 1 22 (0, 0) rfl rfl (HO.out.below ((Below.refl _ _).alloc (Nat.le_refl _) _)) (heap_new rfl) (HY.out.below ((Below.refl _ _).alloc (Nat.le_refl _) _)) (Nat.zero_le _) (by have := HLJ.out; omega) (by have := HB.out.size; simp; omega) ?_); intro v3 w3 hl3 hg3 hsh)
        have H3 := Aside0.mk (show ∃ j', n + 2 = 2 * j' ∧ OwnE w3 w.heap.size 0 v3 ((upL L).take j') ∧ Below w.heap.size w w3 from ⟨j + 1, by have := HJ.out; omega, by rw [HN.out]; exact hl3, (HB.out.alloc HB.out.size _).grown hg3 (by have := HB.out.size; simp; omega) HBL.out⟩)
        clear hl3 hg3 hsh
        go_roundw
        case rel => exact ⟨n + 2, by omega, by go_num, H3⟩
        case measure => simp [intOf]; omega
      · have HE : Aside0 (OwnE wr w.heap.size 0 u2 (upL L) ∧ Below w.heap.size w wr) := ⟨by
          obtain ⟨j, hj, hs⟩ := hs.out
          rw [upL_all L n j hj (by omega)] at hs
          exact hs⟩
        clear hs
        go_wp2_with fail
        go_ret
        exact ⟨_, rfl, HE.out.1, HE.out.2⟩
end Go.Proofs.Ytdikconhdbopdaa
