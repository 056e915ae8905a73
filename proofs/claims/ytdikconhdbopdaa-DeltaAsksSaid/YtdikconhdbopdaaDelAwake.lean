/-
  What the document fixes of chapter 17. No condition.
-/
import Derived.Test.YtdikconhdbopdaaDelLaw
import Derived.Deep.RegionHeld3
namespace Go.Proofs.Ytdikconhdbopdaa
open Go.RowKit
set_option linter.unusedVariables false
set_option linter.unusedSimpArgs false

theorem upL_len : ∀ {L : List (List UInt8)}, (∀ x ∈ L, x.length = 32) → ∀ x ∈ upL L, x.length = 32
  | a :: b :: r, h, x, hx => by
    simp only [upL] at hx
    rcases List.mem_cons.1 hx with rfl | hx
    · simp [nodeL, sha_len]
    · exact upL_len (fun y hy => h y (by simp [hy])) x hx
  | [a], h, x, hx => h x hx
  | [], h, x, hx => h x hx
theorem upN_len {L : List (List UInt8)} (h : ∀ x ∈ L, x.length = 32) : ∀ k, ∀ x ∈ upN L k, x.length = 32
  | 0 => h
  | k + 1 => upL_len (upN_len h k)
theorem root_len {L : List (List UInt8)} (h : ∀ x ∈ L, x.length = 32) : (rootL L).length = 32 := by
  unfold rootL
  split
  · exact sha_len _
  · rename_i hne
    have h1 := upN_top L (by omega)
    refine upN_len h (hgt L.length) _ ?_
    rw [List.getD_eq_getElem?_getD, List.getElem?_eq_getElem (by omega)]
    exact List.getElem_mem _
theorem leaves_len (data : List UInt8) (block : Int) : ∀ x ∈ leavesL data block, x.length = 32 := by
  intro x hx
  unfold leavesL leavesN at hx
  rw [List.mem_map] at hx
  obtain ⟨i, _, rfl⟩ := hx
  simp [leafL, sha_len]

theorem blk40 {X : List UInt8} (h : X.length = 40) : blockL X 16 2 = X.drop 32 := by
  unfold blockL
  rw [h, if_neg (by decide)]
  have e1 : ((2 : Int) * 16).toNat = 32 := rfl
  have e2 : (16 : Int).toNat = 16 := rfl
  rw [e1, e2, List.take_of_length_le (by rw [List.length_drop]; omega)]
theorem snd40 {X : List UInt8} (h : X.length = 40) : soundD 40 16 (rootL (leavesL X 16)) [2] [X.drop 32] = true := by
  simp only [soundD, root_len (leaves_len X 16), List.length_cons, List.length_nil]
  simp only [lensN, List.getD_cons_zero, List.length_drop, h]
  decide
theorem put40 {X : List UInt8} (h : X.length = 40) : putAll 40 16 [2] [X.drop 32] (X.take 32) = X := by
  unfold putAll
  have e : (40 : Int).toNat = 40 := rfl
  rw [e]
  simp only [List.length_cons, List.length_nil, Nat.zero_add, putN, List.getD_cons_zero]
  have e1 : ((2 : Int) * 16).toNat = 32 := rfl
  rw [e1]
  obtain ⟨y, hy⟩ : ∃ y, y = fitL (X.take 32) 40 := ⟨_, rfl⟩
  have hyl : y.length = 40 := by rw [hy, fitL_length]
  have hyt : y.take 32 = X.take 32 := by
    rw [hy]
    unfold fitL
    rw [List.take_take, List.take_append_of_le_length (by rw [List.length_take, h]; decide), List.take_take]
    rfl
  rw [← hy]
  have hz : (X.drop 32).length = 8 := by rw [List.length_drop, h]
  have hdn : y.drop (32 + 8) = [] := List.drop_eq_nil_of_le (by rw [hyl]; decide)
  unfold splB
  rw [hyt, hyl, List.take_of_length_le (l := X.drop 32) (by rw [hz]; decide), hz, hdn, List.append_nil, List.take_append_drop]
theorem app40 {X : List UInt8} (h : X.length = 40) : applyE 40 16 (rootL (leavesL X 16)) [2] [X.drop 32] (X.take 32) = 0 ∧ applyL 40 16 (rootL (leavesL X 16)) [2] [X.drop 32] (X.take 32) = X := by
  unfold applyE applyL
  rw [snd40 h, put40 h, beq_self_eq_true]
  exact ⟨rfl, rfl⟩

set_option maxHeartbeats 8000000 in
set_option maxRecDepth 100000 in
theorem awake17_calls (w : World) : Calls Try.prog 6 #[] w fun e w' => e = .returned (.bool true) ∧ Below w.heap.size w w' := by
  have HBK : Aside0 (∀ w : World, Calls Try.prog 18 #[.int .i64 40, .int .i64 1] w fun e w' => ∃ v' x, e = .returned v' ∧ OwnB w' w.heap.size v' x ∧ x.length = 40 ∧ Below w.heap.size w w') := ⟨fun w => ablock_calls 40 1 w (by decide) (by decide)⟩
  have HB0 : Aside0 (∀ (w : World) o, Below w.heap.size w (w.alloc o)) := ⟨fun w o => (Below.refl _ _).alloc (Nat.le_refl _) _⟩
  go_enter Try.func6, Try.ntmps6
  go_wp2_with fail
  refine (HBK.out w).mono ?_
  rintro e w1 ⟨v1, X, rfl, ho1, hX, hb1⟩
  have HX := Aside0.mk (Sl.of_own (b := 0) ho1)
  have HXL := Aside0.mk hX
  have HB1 := Aside0.mk hb1
  obtain ⟨A1, c1, rfl, hc1, _, _⟩ := Sl.of_own (b := 0) ho1
  rw [hX] at HX hc1 ⊢
  obtain ⟨ad1, rfl⟩ : ∃ ad, A1 = some ad := by
    obtain ⟨A, c, he, _, _, hR⟩ := HX.out
    injection he with he1 he2 he3
    subst he1
    obtain ⟨ad, h1, _⟩ := hR.cell 0 _ (List.getElem?_eq_getElem (by rw [List.length_map, hX]; decide))
    exact ⟨ad, h1⟩
  clear ho1 hX hb1
  go_wp2_with fail
  have hm : mayD 16 = true := by decide
  have hr2 : risL [2] (cnt (X.length : Int) 16) = true := by rw [HXL.out]; decide
  have HBL := Aside0.mk (show blocksN X 16 [2] ([2] : List Int).length = [X.drop 32] by simp [blocksN, List.range_succ, blk40 HXL.out])
  have HXX : Aside0 (∀ w', Below w1.heap.size w1 w' → Sl bv 5 w' 0 (.slice (some ad1) 40 c1) X) := ⟨fun w' hb => HX.out.below hb⟩
  have HRL := Aside0.mk (root_len (leaves_len X 16))
  refine (dmake_good (b0 := 0) (b1 := 0) (data := X) (l := [2]) 16 _ (HXX.out _ (HB0.out _ _)) (show Sl iv 3 _ 0 (.slice (some ⟨w1.heap.size, 0, none⟩) 1 1) [2] from Sl.at (cur := #[.int .i64 2]) (fr := (0, 0)) (heap_new rfl) rfl rfl (by decide) (by decide)) (by rw [HXL.out]; decide) hm hr2).mono ?_
  rintro e w2 ⟨vr, vl, vb, rfl, hd, hb2⟩
  rw [HBL.out] at hd
  have hXL := HXL.out
  rw [hXL]
  have HD := Aside0.mk hd
  have HB2 := Aside0.mk (below_step HB1.out (below_step (HB0.out _ _) hb2))
  have HX2 := Aside0.mk (HXX.out _ (below_step (HB0.out _ _) hb2))
  obtain ⟨⟨br, hr⟩, ⟨bl, hl⟩, ⟨bb, hbb⟩⟩ := hd
  have HBB := Aside0.mk hbb
  obtain ⟨Ar, cr, rfl, _, hmr, _⟩ := hr
  obtain ⟨Al, cl, rfl, _, hml, _⟩ := hl
  obtain ⟨Ab, cb, rfl, _, hmb⟩ := hbb.shape
  rw [HRL.out] at HD hmr ⊢
  simp only [List.length_cons, List.length_nil, Nat.zero_add] at HD HBB hml hmb ⊢
  clear hbb hb2 hXL hm hr2
  go_wp2_with fail
  have hr3 : (mayD 16 && risL [3] (cnt (X.length : Int) 16)) = false := by rw [HXL.out]; decide
  have hBa := HB0.out w2 (.cells #[.int .i64 40, .int .i64 16, .slice Ar 32 cr, .slice Al 1 cl, .slice Ab 1 cb] 30 (0, 0))
  have HBA := Aside0.mk hBa
  have hBb := below_step hBa (HB0.out _ (.cells #[.int .i64 3] 3 (0, 0)))
  refine (dmake_bad (b0 := 0) (b1 := 0) (data := X) (l := [3]) 16 _ (HX2.out.below hBb) (show Sl iv 3 _ 0 (.slice (some ⟨w2.heap.size + 1, 0, none⟩) 1 1) [3] from Sl.at (cur := #[.int .i64 3]) (fr := (0, 0)) (heap_new (by simp)) rfl rfl (by decide) (by decide)) (by rw [HXL.out]; decide) (by decide) hr3).mono ?_
  rintro e w3 ⟨rfl, hb3⟩
  have HB3 := Aside0.mk (below_step HB2.out (below_step hBb hb3))
  have HX3 := Aside0.mk ((HX2.out.below hBb).below hb3)
  have HD3 := Aside0.mk ((HD.out.below hBb).below hb3)
  have HBB3 := Aside0.mk ((HBB.out.below hBb).below hb3)
  have HG3 := Aside0.mk (below_heap hb3 (heap_old (heap_new rfl)))
  clear hBa hBb hb3 hr3 HBA
  obtain ⟨G, hG⟩ : ∃ G, G = w2.heap.size := ⟨_, rfl⟩
  rw [← hG] at HG3 ⊢
  clear hG
  go_wp2_with fail
  have hB4 := HB0.out w3 (.cells #[.int .i64 0, .int .i64 0, .slice none 0 0, .slice none 0 0, .slice none 0 0] 30 (0, 0))
  obtain ⟨w4, hw4⟩ : ∃ w4, w4 = w3.alloc (.cells #[.int .i64 0, .int .i64 0, .slice none 0 0, .slice none 0 0, .slice none 0 0] 30 (0, 0)) := ⟨_, rfl⟩
  rw [← hw4] at hB4 ⊢
  clear hw4
  have HX4 := Aside0.mk (HX3.out.below hB4)
  have HD4 := Aside0.mk (HD3.out.below hB4)
  have HBB4 := Aside0.mk (HBB3.out.below hB4)
  have HG4 := Aside0.mk (below_heap hB4 HG3.out)
  have HB4 := Aside0.mk (below_step HB3.out hB4)
  have HKC : Aside0 (∀ w', Below w4.heap.size w4 w' → w'.cell? ⟨G, 0, none⟩ = some (.int .i64 40) ∧ w'.cell? ⟨G, 1, none⟩ = some (.int .i64 16) ∧ w'.cell? ⟨G, 2, none⟩ = some (.slice Ar 32 cr) ∧ w'.cell? ⟨G, 3, none⟩ = some (.slice Al 1 cl) ∧ w'.cell? ⟨G, 4, none⟩ = some (.slice Ab 1 cb)) := ⟨fun w' hb' => by
    have := (blk (below_heap hb' HG4.out)).1
    exact ⟨this 0, this 1, this 2, this 3, this 4⟩⟩
  have HW := Aside0.mk (Below.refl w4.heap.size w4)
  have HAP := Aside0.mk (app40 HXL.out)
  have HXT : Aside0 (∀ w', Below w4.heap.size w4 w' → Sl bv 5 w' 0 (.slice (some ad1) 32 c1) (X.take 32)) := ⟨fun w' hb' => by
    have h := HX4.out
    rw [← HXL.out] at h
    exact (h.head 32 (by rw [HXL.out]; decide)).below hb'⟩
  clear hB4
  have z1 : (32 : Int) ≤ (c1 : Int) := by omega
  have z2 : 32 ≤ c1 := by omega
  have z3 : ¬ c1 < 32 := by omega
  have z4 : ¬ (c1 : Int) < 32 := by omega
  go_region_held3 (fun w' => w'.cell? ⟨G, 0, none⟩ = some (.int .i64 40) ∧ w'.cell? ⟨G, 1, none⟩ = some (.int .i64 16) ∧ w'.cell? ⟨G, 2, none⟩ = some (.slice Ar 32 cr) ∧ w'.cell? ⟨G, 3, none⟩ = some (.slice Al 1 cl) ∧ w'.cell? ⟨G, 4, none⟩ = some (.slice Ab 1 cb)) (first | exact HKC.out _ HW.out | exact HKC.out _ HW.out.drew) (first
    | ((go_at_call 9; refine (dapply_calls (b0 := 0) (old := X.take 32) (root := rootL (leavesL X 16)) (l := [2]) (bs := [X.drop 32]) 40 16 _ (HXT.out _ (by first | exact HW.out.drew | exact HW.out)) (HD4.out.below (by first | exact HW.out.drew | exact HW.out))).mono ?_; rintro e w5 ⟨v5, b5, rfl, hs5, hb5⟩)
       rw [HAP.out.1]
       rw [HAP.out.2] at hs5
       have HS5 := Aside0.mk hs5
       obtain ⟨A5, c5, rfl, _⟩ := hs5
       rw [HXL.out] at HS5
       have HW := Aside0.mk (below_step (by first | exact HW.out.drew | exact HW.out) hb5)
       clear hb5))
  rw [HXL.out]
  have K1 := HS5.out.string (P := Try.prog) Try.underlying22 Try.underlying5 Try.underlying9
  have K2 := (HX4.out.below HW.out).string (P := Try.prog) Try.underlying22 Try.underlying5 Try.underlying9
  obtain ⟨k0, k1, k2, k3, k4⟩ := HKC.out _ HW.out
  obtain ⟨adb, cb', u, Au, cu, he, hu, hcb, _⟩ := (HBB4.out.below HW.out).at 0 (by simp)
  cases he
  subst hu
  have h8 : (([X.drop 32] : List (List UInt8)).getD 0 []).length = 8 := by
    show (X.drop 32).length = 8
    rw [List.length_drop, HXL.out]
  rw [h8] at hcb
  have ha0 : adb.add 0 = adb := rfl
  rw [ha0] at hcb
  clear h8 ha0 k0 k1 k2 k3
  go_wp2_with fail
  go_ret
  exact ⟨rfl, below_step HB4.out HW.out⟩
end Go.Proofs.Ytdikconhdbopdaa
