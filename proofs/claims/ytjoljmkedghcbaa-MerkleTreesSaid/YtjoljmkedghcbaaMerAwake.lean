/-
  What the document fixes of merkle. No condition.
-/
import Derived.Test.YtjoljmkedghcbaaMerProve
import Derived.Test.YtjoljmkedghcbaaMerDiffer
namespace Go.Proofs.Ytjoljmkedghcbaa
open Go.RowKit
set_option linter.unusedVariables false
set_option linter.unusedSimpArgs false

theorem sha_len (b : List UInt8) : (shaL b).length = 32 := by unfold shaL; simp [St.bytes, bytesW]
theorem hgt3 : hgt 3 = 2 := by rw [hgt_high (by decide), hgt_high (by decide), hgt_low (by decide)]
theorem proof3 (L : List (List UInt8)) (h : L.length = 3) : (proofTo L 2 (hgt L.length)).length = 1 := by
  rw [h, hgt3]
  have h1 : (upN L 1).length = 2 := by show (upL L).length = 2; rw [upL_length, h]
  have h0 : (upN L 0).length = 3 := h
  simp only [proofTo, oneP, kAt, sib, h0, h1]
  simp
theorem cnt52 : cnt 5 2 = 3 := by decide
theorem block52 : blockL [97, 98, 99, 100, 101] 2 2 = [101] := by decide

set_option maxHeartbeats 4000000 in
theorem awake2_calls (w : World) : Calls Try.prog 7 #[] w fun e w' => e = .returned (.bool true) ∧ Below w.heap.size w w' := by
  have KC := convert_const (P := Try.prog) 22 5 Try.underlying22 Try.underlying5
  have KC1 := KC w _ rfl
  have KCA := Aside0.mk KC
  clear KC
  go_enter Try.func7, Try.ntmps7
  go_wp2_with fail
  have hB1 : Below w.heap.size w (w.alloc (.cells #[Value.int .u8 97, .int .u8 98, .int .u8 99, .int .u8 100, .int .u8 101] 5 (5, 6))) := (Below.refl _ _).alloc (Nat.le_refl _) _
  refine (leaves_calls (e := 5) (b0 := 0) (data := [97, 98, 99, 100, 101]) 2 _ (Sl.at (heap_new rfl) rfl rfl (by decide) (by decide)) (by decide) (by decide)).mono ?_
  rintro e w1 ⟨v1, rfl, hl1, hb1⟩
  have hlen := leavesL_length [97, 98, 99, 100, 101] 2
  rw [show (cnt (([97, 98, 99, 100, 101] : List UInt8).length : Int) 2).toNat = 3 from rfl] at hlen
  obtain ⟨L, hL⟩ : ∃ L, L = leavesL [97, 98, 99, 100, 101] 2 := ⟨_, rfl⟩
  have HFit : Aside0 (FitM L) := ⟨by
    rw [hL]
    refine ⟨by rw [hlen]; decide, fun x hx => ?_⟩
    obtain ⟨k, _, rfl⟩ := List.mem_map.1 hx
    exact sha_short _⟩
  rw [← hL] at hl1 hlen
  have H1 := Aside0.mk hl1.reads
  have HB1 := Aside0.mk (below_step hB1 hb1)
  have HLEN := Aside0.mk hlen
  obtain ⟨A1, c1, rfl, _, _⟩ := hl1.reads.shape
  rw [hlen]
  clear hl1 hb1 hL hB1 KC1 hlen
  go_wp2_with fail
  have hg := prove_good (L := L) (v := .slice A1 L.length c1) 2 w1 H1.out HFit.out (by rw [HLEN.out]; decide)
  rw [HLEN.out] at hg
  refine hg.mono ?_
  rintro e w2 ⟨v2, rfl, hl2, hb2⟩
  have h3 := proof3 L HLEN.out
  rw [HLEN.out] at h3
  obtain ⟨A2, c2, rfl, _, _⟩ := hl2.reads.shape
  rw [h3]
  have HB2 := Aside0.mk (below_step HB1.out hb2)
  have H2 := Aside0.mk (H1.out.below hb2)
  clear hl2 hb2 h3 hg
  go_wp2_with fail
  have hg := prove_bad (L := L) (v := .slice A1 L.length c1) 3 w2 H2.out (by rw [HLEN.out]; decide)
  rw [HLEN.out] at hg
  refine hg.mono ?_
  rintro e w' ⟨rfl, rfl⟩
  clear hg
  have KC2 := KCA.out w2 _ rfl
  have hB3 : Below w2.heap.size w2 (w2.alloc (.cells #[Value.int .u8 97, .int .u8 98, .int .u8 99, .int .u8 100, .int .u8 101] 5 (5, 6))) := (Below.refl _ _).alloc (Nat.le_refl _) _
  have HB3 := Aside0.mk (below_step HB2.out hB3)
  have hdl : (([97, 98, 99, 100, 101] : List UInt8).length : Int) = 5 := rfl
  clear hB3 KCA
  go_wp2_with (first
    | (go_at_call 13; refine (count_calls _ _ _ (by decide) (by decide)).mono ?_; rintro e w' ⟨rfl, rfl⟩; rw [cnt52])
    | (go_at_call 15
       refine (block_calls (e := 5) (b0 := 0) (data := [97, 98, 99, 100, 101]) 2 2 _ (Sl.at (heap_new rfl) rfl rfl (by decide) (by decide)) (by decide)).mono ?_
       rintro e w4 ⟨v4, rfl, hown4, hb4⟩
       rw [block52] at hown4
       have k4 := (Sl.of_own (b := 0) hown4).string (P := Try.prog) Try.underlying22 Try.underlying5 Try.underlying9
       rw [show str [101] = { data := #[101] } from rfl] at k4
       have HB4 := Aside0.mk (below_step HB3.out hb4)
       clear hown4 hb4)
    | (go_at_call 17
       refine (root_calls (b0 := 0) (L := []) _ (SlL.nil _ _) ⟨by simp, by simp⟩).mono ?_
       rintro e w5 ⟨v5, rfl, hs5, hb5⟩
       rw [show rootL [] = shaL [] from rfl] at hs5
       obtain ⟨A5, c5, rfl, _⟩ := hs5
       rw [sha_len]
       have HB5 := Aside0.mk (below_step HB4.out hb5)
       clear hb5))
  go_ret
  exact ⟨rfl, HB5.out⟩
end Go.Proofs.Ytjoljmkedghcbaa
