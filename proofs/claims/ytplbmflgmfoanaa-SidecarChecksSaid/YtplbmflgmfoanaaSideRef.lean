/-
  The reference's Make, Repair, SameSide; sides turned. No condition but that what comes in can be read and is none too long.
-/
import Derived.Test.YtplbmflgmfoanaaRSound
import Derived.Test.YtplbmflgmfoanaaRFit
import Derived.Test.YtplbmflgmfoanaaRLists
import Derived.Test.YtplbmflgmfoanaaRFix1
import Derived.Test.YtplbmflgmfoanaaSideProg2
namespace Go.Proofs.Ytplbmflgmfoanaa
open Go.RowKit
set_option linter.unusedVariables false
set_option linter.unusedSimpArgs false

/-- The list of another chapter's words. -/
theorem OwnE.offE {g b eb : Nat} {w w1 : World} {v : Value} {L : List (List UInt8)} (h : OwnE w b eb v L) {cur : Array Value} {t : Nat} {fr : Nat × Nat} (hbox : w.heap[g]? = some (.cells cur t fr)) (ht : t ≠ 22) (hcur : ∀ (j : Nat) (b : UInt8), cur[j]? ≠ some (bv b)) (hg : w.grownBy w1 (some g)) : SlL w1 eb v L := by
  obtain ⟨vs, h1, h2, h3⟩ := h
  refine ⟨vs, h1, Sl.of_own (enc := id) (base := b) ?_, fun i u x hu hx => (h3 i u x hu hx).off hbox hcur hg⟩
  rw [List.map_id]
  refine h2.kept hg (.inr ?_)
  intro he
  obtain ⟨_, cur', fr', e', h5, h6⟩ := own_row h2 g he
  rw [hbox] at h5
  injection h5 with h5
  injection h5 with _ h7
  exact ht (h7.trans h6)

set_option maxHeartbeats 4000000 in
theorem rrepair_good {b0 : Nat} {v vr vl vp : Value} {data root : List UInt8} {leaves par : List (List UInt8)} (size : Nat) (block k : Int) (w : World) (h : SideR w vr vl vp root leaves par) (hv : Sl bv 5 w b0 v data) (hso : soundB size block k root leaves par = true) (hf : leaves.length ≤ 1000000000) (hdl : data.length ≤ 1000000) :
    Calls Try.prog 18 #[.agg #[.int .i64 size, .int .i64 block, .int .i64 k, vr, vl, vp], v] w fun e w' => ∃ vf vb, e = .returned (.tuple #[vf, vb]) ∧ OwnB w' w.heap.size vf (fixL (fitL data size) block k leaves par) ∧ OwnI w' w.heap.size vb (badL (fixL (fitL data size) block k leaves par) block leaves) ∧ Below w.heap.size w w' := by
  have HR := Aside0.mk h
  have HV := Aside0.mk hv
  have HSO := Aside0.mk hso
  obtain ⟨h1, h2, h3, h4, h5, h6⟩ := mayS_iff.1 (sound_get hso)
  obtain ⟨⟨br, hr⟩, ⟨bl, hl⟩, ⟨bp, hp⟩⟩ := h
  have HL := Aside0.mk hl
  have HP := Aside0.mk hp
  obtain ⟨Ar, cr, rfl, _, _, _⟩ := hr
  obtain ⟨Al, cl, rfl, _, _⟩ := hl.shape
  obtain ⟨Ap, cp, rfl, _, _⟩ := hp.shape
  obtain ⟨A, c, rfl, hc, hlv, _⟩ := hv
  have HB0 : Aside0 (∀ o, Below w.heap.size w (w.alloc o)) := ⟨fun o => (Below.refl _ _).alloc (Nat.le_refl _) _⟩
  have HF := Aside0.mk hf
  have HDL := Aside0.mk hdl
  have HFL := Aside0.mk (fitL_length data size)
  have HN := Aside0.mk (And.intro h1 (And.intro h2 (And.intro h3 (And.intro h4 (And.intro h5 h6)))))
  clear hl hp hso hf hdl h3 h4 h5 h6
  go_enter Try.func18, Try.ntmps18
  go_wp2_with fail
  refine (rsound_calls _ _ _ _ (HR.out.below (HB0.out _)) (by omega) (by have := HN.out; omega) HF.out).mono ?_
  rintro e w1 ⟨rfl, hb1⟩
  rw [HSO.out]
  have HB1 := Aside0.mk (below_step (HB0.out _) hb1)
  have hw1 := below_heap hb1 (heap_new rfl)
  have HW1 := Aside0.mk hw1
  have HS : Aside0 (∀ w', Below w1.heap.size w1 w' → w'.cell? ⟨w.heap.size, 0, none⟩ = some (.int .i64 size) ∧ w'.cell? ⟨w.heap.size, 1, none⟩ = some (.int .i64 block) ∧ w'.cell? ⟨w.heap.size, 2, none⟩ = some (.int .i64 k) ∧ w'.cell? ⟨w.heap.size, 4, none⟩ = some (.slice Al leaves.length cl) ∧ w'.cell? ⟨w.heap.size, 5, none⟩ = some (.slice Ap par.length cp)) := ⟨fun w' hb' => by
    have := (blk (below_heap hb' HW1.out)).1
    exact ⟨this 0, this 1, this 2, this 4, this 5⟩⟩
  have HW := Aside0.mk (Below.refl w1.heap.size w1)
  clear hb1 hw1
  go_wp2_with fail
  go_region_held3 (fun w' => w'.cell? ⟨w.heap.size, 0, none⟩ = some (.int .i64 size) ∧ w'.cell? ⟨w.heap.size, 1, none⟩ = some (.int .i64 block) ∧ w'.cell? ⟨w.heap.size, 2, none⟩ = some (.int .i64 k) ∧ w'.cell? ⟨w.heap.size, 4, none⟩ = some (.slice Al leaves.length cl) ∧ w'.cell? ⟨w.heap.size, 5, none⟩ = some (.slice Ap par.length cp)) (first | exact HS.out _ HW.out | exact HS.out _ HW.out.drew) (first
    | ((go_at_call 14; refine (rfit_calls size _ (HV.out.below (below_step HB1.out (by first | exact HW.out.drew | exact HW.out))) (by omega) HDL.out).mono ?_; rintro e w2 ⟨v2, rfl, ho2, hb2⟩)
       have HFO := Aside0.mk (Sl.of_own (b := 0) ho2)
       obtain ⟨A2, c2, rfl, _⟩ := Sl.of_own (b := 0) ho2
       have HW := Aside0.mk (below_step (by first | exact HW.out.drew | exact HW.out) hb2)
       clear ho2 hb2)
    | ((go_at_call 40; refine (rfix_calls block k _ (HFO.out.below (Below.refl _ _)) (HL.out.below (below_step HB1.out HW.out)) (HP.out.below (below_step HB1.out HW.out)) (by have := HN.out; omega) (by have := HN.out; omega) (by rw [HFL.out]; omega)).mono ?_; rintro e w3 ⟨vf, vb, rfl, hf3, ho3, hb3⟩)
       have HBO := Aside0.mk (And.intro (own_mono hf3 (Nat.le_trans HB1.out.size HW.out.size)) (own_mono ho3 (Nat.le_trans HB1.out.size HW.out.size)))
       obtain ⟨A3, c3, rfl, _⟩ := Sl.of_own (b := 0) hf3
       obtain ⟨A4, c4, rfl, _⟩ := Sl.of_own (b := 0) ho3
       have HW := Aside0.mk (below_step HW.out hb3)
       clear hf3 ho3 hb3))
  go_wp2_with fail
  go_ret2
  exact ⟨_, _, rfl, HBO.out.1, HBO.out.2, below_step HB1.out HW.out⟩

set_option maxHeartbeats 4000000 in
theorem rmake_bad {b0 : Nat} {v : Value} {data : List UInt8} (block k : Int) (w : World) (hv : Sl bv 5 w b0 v data) (hm : mayS data.length block k = false) :
    Calls Try.prog 7 #[v, .int .i64 block, .int .i64 k] w fun e w' => e = .returned (.tuple #[.agg #[.int .i64 0, .int .i64 0, .int .i64 0, .slice none 0 0, .slice none 0 0, .slice none 0 0], .int .i64 1]) ∧ Below w.heap.size w w' := by
  obtain ⟨A, c, rfl, hc, hl, _⟩ := hv
  have hm2 : ¬ (16 ≤ block ∧ block ≤ 4096 ∧ 1 ≤ k ∧ k ≤ 8 ∧ data.length ≤ 8192) := fun h => by
    rw [mayS_iff.2 (by omega)] at hm; cases hm
  clear hm
  by_cases h1 : block < 16
  · have d1 : decide (block < 16) = true := decide_eq_true h1
    clear hm2
    go_enter Try.func7, Try.ntmps7
    go_wp2_with fail
    exact bodyPost_ret (v := .tuple #[.agg #[.int .i64 0, .int .i64 0, .int .i64 0, .slice none 0 0, .slice none 0 0, .slice none 0 0], .int .i64 1]) (by simp [results, Try.results7, go_sem]) rfl ⟨rfl, (Below.refl _ _).alloc (Nat.le_refl _) _⟩
  have d1 : decide (block < 16) = false := decide_eq_false h1
  by_cases h2 : 4096 < block
  · have d2 : decide (4096 < block) = true := decide_eq_true h2
    clear hm2
    go_enter Try.func7, Try.ntmps7
    go_wp2_with fail
    exact bodyPost_ret (v := .tuple #[.agg #[.int .i64 0, .int .i64 0, .int .i64 0, .slice none 0 0, .slice none 0 0, .slice none 0 0], .int .i64 1]) (by simp [results, Try.results7, go_sem]) rfl ⟨rfl, (Below.refl _ _).alloc (Nat.le_refl _) _⟩
  have d2 : decide (4096 < block) = false := decide_eq_false h2
  by_cases h3 : k < 1
  · have d3 : decide (k < 1) = true := decide_eq_true h3
    clear hm2
    go_enter Try.func7, Try.ntmps7
    go_wp2_with fail
    exact bodyPost_ret (v := .tuple #[.agg #[.int .i64 0, .int .i64 0, .int .i64 0, .slice none 0 0, .slice none 0 0, .slice none 0 0], .int .i64 1]) (by simp [results, Try.results7, go_sem]) rfl ⟨rfl, (Below.refl _ _).alloc (Nat.le_refl _) _⟩
  have d3 : decide (k < 1) = false := decide_eq_false h3
  by_cases h4 : 8 < k
  · have d4 : decide (8 < k) = true := decide_eq_true h4
    clear hm2
    go_enter Try.func7, Try.ntmps7
    go_wp2_with fail
    exact bodyPost_ret (v := .tuple #[.agg #[.int .i64 0, .int .i64 0, .int .i64 0, .slice none 0 0, .slice none 0 0, .slice none 0 0], .int .i64 1]) (by simp [results, Try.results7, go_sem]) rfl ⟨rfl, (Below.refl _ _).alloc (Nat.le_refl _) _⟩
  have d4 : decide (8 < k) = false := decide_eq_false h4
  by_cases h5 : 8192 < data.length
  · have d5 : decide (8192 < data.length) = true := decide_eq_true h5
    clear hm2
    go_enter Try.func7, Try.ntmps7
    go_wp2_with fail
    exact bodyPost_ret (v := .tuple #[.agg #[.int .i64 0, .int .i64 0, .int .i64 0, .slice none 0 0, .slice none 0 0, .slice none 0 0], .int .i64 1]) (by simp [results, Try.results7, go_sem]) rfl ⟨rfl, (Below.refl _ _).alloc (Nat.le_refl _) _⟩
  have d5 : decide (8192 < data.length) = false := decide_eq_false h5
  exact absurd (by omega) hm2
set_option maxHeartbeats 2000000 in
theorem rmake_good {b0 : Nat} {v : Value} {data : List UInt8} (block k : Int) (w : World) (hv : Sl bv 5 w b0 v data) (hm : mayS data.length block k = true) :
    Calls Try.prog 7 #[v, .int .i64 block, .int .i64 k] w fun e w' => ∃ vr vl vp, e = .returned (.tuple #[.agg #[.int .i64 data.length, .int .i64 block, .int .i64 k, vr, vl, vp], .int .i64 0]) ∧ SideR w' vr vl vp (rootL (leavesL data block)) (leavesL data block) (buildL data block k) ∧ Below w.heap.size w w' := by
  have HV := Aside0.mk hv
  obtain ⟨A, c, rfl, hc, hl, _⟩ := hv
  have HM := Aside0.mk hm
  obtain ⟨h1, h2, h3, h4, h5, h6⟩ := mayS_iff.1 hm
  have HB1 : Aside0 (∀ o, Below w.heap.size w (w.alloc o)) := ⟨fun o => (Below.refl _ _).alloc (Nat.le_refl _) _⟩
  have HN := Aside0.mk (And.intro h2 (And.intro h3 h4))
  have d1 : decide (block < 16) = false := decide_eq_false (by omega)
  have d2 : decide (4096 < block) = false := decide_eq_false (by omega)
  have d3 : decide (k < 1) = false := decide_eq_false (by omega)
  have d4 : decide (8 < k) = false := decide_eq_false (by omega)
  have d5 : decide (8192 < data.length) = false := decide_eq_false (by omega)
  have HK := Aside0.mk (And.intro h5 h6)
  clear hm
  go_enter Try.func7, Try.ntmps7
  go_wp2_with fail
  refine (rleaves_calls block _ (HV.out.below (HB1.out _)) (by have := HN.out; omega) (by have := HN.out; omega)).mono ?_
  rintro e w1 ⟨v1, rfl, ho1, hb1⟩
  obtain ⟨A1, c1, rfl, _, _⟩ := ho1.reads.shape
  obtain ⟨n1, hn1⟩ : ∃ n, (leavesL data block).length = n := ⟨_, rfl⟩
  have H1 := Aside0.mk (And.intro ho1 (below_step (HB1.out _) hb1))
  rw [hn1] at H1 ⊢
  have HGW := Aside0.mk (below_heap hb1 (heap_new rfl))
  clear ho1 hn1 hb1
  go_wp2_with fail
  have HFT := Aside0.mk (leaves_fit data block)
  refine (rroot_calls _ (H1.out.1.reads.old (Nat.le_refl _)) (Nat.le_refl _) HFT.out).mono ?_
  rintro e w2 ⟨v2, rfl, hs2, hb2⟩
  have H2 := Aside0.mk (And.intro (H1.out.1.below hb2) (below_step H1.out.2 hb2))
  have HR2 := Aside0.mk hs2
  have HGW2 := Aside0.mk (below_heap hb2 HGW.out)
  obtain ⟨A2, c2, rfl, _⟩ := hs2
  obtain ⟨n2, hn2⟩ : ∃ n, (rootL (leavesL data block)).length = n := ⟨_, rfl⟩
  rw [hn2] at HR2 ⊢
  clear hb2 hn2 HGW
  go_wp2_with fail
  refine (rbuild_calls block k _ (HV.out.below H2.out.2) (by have := HN.out; omega) (by have := HK.out; omega)).mono ?_
  rintro e w3 ⟨v3, rfl, ho3, hb3⟩
  have HP3 := Aside0.mk ho3
  obtain ⟨A3, c3, rfl, _, _⟩ := ho3.reads.shape
  obtain ⟨n3, hn3⟩ : ∃ n, (buildL data block k).length = n := ⟨_, rfl⟩
  rw [hn3] at HP3 ⊢
  have H3 := Aside0.mk (And.intro (H2.out.1.below hb3) (And.intro (HR2.out.below hb3) (below_step H2.out.2 hb3)))
  have hw3 := below_heap hb3 HGW2.out
  have HW3 := Aside0.mk hw3
  have hcell3 := (blk hw3).1
  have hfr3 := (blk hw3).2
  clear ho3 hn3 hb3
  clear hw3
  go_wp2_with fail
  have hgr := put6_grown w3 w.heap.size (.int .i64 data.length) (.int .i64 block) (.int .i64 k) (.slice A2 n2 c2) (.slice A1 n1 c1) (.slice A3 n3 c3)
  have HGR := Aside0.mk hgr
  clear hgr
  refine bodyPost_ret (v := .tuple #[.agg #[.int .i64 data.length, .int .i64 block, .int .i64 k, .slice A2 n2 c2, .slice A1 n1 c1, .slice A3 n3 c3], .int .i64 0]) (by simp [results, Try.results7, go_sem, hcell3]) rfl ⟨_, _, _, rfl, ⟨⟨_, H3.out.2.1.off HW3.out six_no_byte HGR.out⟩, ⟨_, H3.out.1.offE HW3.out (by decide) six_no_byte HGR.out⟩, ⟨_, HP3.out.off HW3.out (by decide) six_no_byte HGR.out⟩⟩, below_grown H3.out.2.2 H3.out.2.2.size HGR.out (fun k hk => by cases hk; exact Nat.le_refl _)⟩


set_option maxHeartbeats 1000000 in
theorem flat_calls {vr vl vp : Value} (size block k : Int) (w : World) (h1 : ∃ A n c, vr = .slice A n c) (h2 : ∃ A n c, vl = .slice A n c) (h3 : ∃ A n c, vp = .slice A n c) :
    Calls Try.prog 9 #[.agg #[.int .i64 size, .int .i64 block, .int .i64 k, vr, vl, vp]] w fun e w' => e = .returned (.agg #[.int .i64 size, .int .i64 block, .int .i64 k, vr, vl, vp]) ∧ Below w.heap.size w w' := by
  obtain ⟨Ar, nr, cr, rfl⟩ := h1
  obtain ⟨Al, nl, cl, rfl⟩ := h2
  obtain ⟨Ap, np, cp, rfl⟩ := h3
  go_enter Try.func9, Try.ntmps9
  go_wp2_with fail
  exact bodyPost_ret (v := .agg #[.int .i64 size, .int .i64 block, .int .i64 k, .slice Ar nr cr, .slice Al nl cl, .slice Ap np cp]) (by simp [results, Try.results9, go_sem]) rfl ⟨rfl, ((Below.refl _ _).alloc (Nat.le_refl _) _).alloc (by simp) _⟩

set_option maxHeartbeats 1000000 in
theorem made_calls {vr vl vp : Value} (size block k : Int) (w : World) (h1 : ∃ A n c, vr = .slice A n c) (h2 : ∃ A n c, vl = .slice A n c) (h3 : ∃ A n c, vp = .slice A n c) :
    Calls Try.prog 16 #[.agg #[.int .i64 size, .int .i64 block, .int .i64 k, vr, vl, vp]] w fun e w' => e = .returned (.agg #[.int .i64 size, .int .i64 block, .int .i64 k, vr, vl, vp]) ∧ Below w.heap.size w w' := by
  obtain ⟨Ar, nr, cr, rfl⟩ := h1
  obtain ⟨Al, nl, cl, rfl⟩ := h2
  obtain ⟨Ap, np, cp, rfl⟩ := h3
  go_enter Try.func16, Try.ntmps16
  go_wp2_with fail
  exact bodyPost_ret (v := .agg #[.int .i64 size, .int .i64 block, .int .i64 k, .slice Ar nr cr, .slice Al nl cl, .slice Ap np cp]) (by simp [results, Try.results16, go_sem]) rfl ⟨rfl, ((Below.refl _ _).alloc (Nat.le_refl _) _).alloc (by simp) _⟩

set_option maxHeartbeats 4000000 in
set_option maxRecDepth 100000 in
theorem sameside_true {vr vl vp vr' vl' vp' : Value} {root : List UInt8} {leaves par : List (List UInt8)} (size block k : Int) (w : World) (h : SideR w vr vl vp root leaves par) (h' : SideR w vr' vl' vp' root leaves par) :
    Calls Try.prog 8 #[.agg #[.int .i64 size, .int .i64 block, .int .i64 k, vr, vl, vp], .agg #[.int .i64 size, .int .i64 block, .int .i64 k, vr', vl', vp']] w fun e w' => e = .returned (.bool true) ∧ Below w.heap.size w w' := by
  have HH := Aside0.mk h
  have HH' := Aside0.mk h'
  obtain ⟨⟨br, hr⟩, ⟨bl, hl⟩, ⟨bp, hp⟩⟩ := h
  obtain ⟨⟨br', hr'⟩, ⟨bl', hl'⟩, ⟨bp', hp'⟩⟩ := h'
  have HR := Aside0.mk hr
  have HL := Aside0.mk hl
  have HP := Aside0.mk hp
  have HR' := Aside0.mk hr'
  have HL' := Aside0.mk hl'
  have HP' := Aside0.mk hp'
  obtain ⟨Ar, cr, rfl, _, hmr, _⟩ := hr
  obtain ⟨Al, cl, rfl, _, hml⟩ := hl.shape
  obtain ⟨Ap, cp, rfl, _, hmp⟩ := hp.shape
  obtain ⟨Ar', cr', rfl, _, hmr', _⟩ := hr'
  obtain ⟨Al', cl', rfl, _, hml'⟩ := hl'.shape
  obtain ⟨Ap', cp', rfl, _, hmp'⟩ := hp'.shape
  have HB : Aside0 (∀ o o', Below w.heap.size w ((w.alloc o).alloc o')) := ⟨fun o o' => ((Below.refl _ _).alloc (Nat.le_refl _) _).alloc (by simp) _⟩
  have K1 := (HR.out.below (HB.out (.cells #[.int .i64 size, .int .i64 block, .int .i64 k, .slice Ar root.length cr, .slice Al leaves.length cl, .slice Ap par.length cp] 30) (.cells #[.int .i64 size, .int .i64 block, .int .i64 k, .slice Ar' root.length cr', .slice Al' leaves.length cl', .slice Ap' par.length cp'] 30))).string (P := Try.prog) Try.underlying22 Try.underlying5 Try.underlying9
  have K2 := (HR'.out.below (HB.out (.cells #[.int .i64 size, .int .i64 block, .int .i64 k, .slice Ar root.length cr, .slice Al leaves.length cl, .slice Ap par.length cp] 30) (.cells #[.int .i64 size, .int .i64 block, .int .i64 k, .slice Ar' root.length cr', .slice Al' leaves.length cl', .slice Ap' par.length cp'] 30))).string (P := Try.prog) Try.underlying22 Try.underlying5 Try.underlying9
  clear hl hp hl' hp'
  go_enter Try.func8, Try.ntmps8
  go_wp2_with fail
  refine (rlists_calls _ (HL.out.below (HB.out _ _)) (HL'.out.below (HB.out _ _))).mono ?_
  rintro e w1 ⟨rfl, hb1⟩
  rw [beq_self_eq_true]
  have hg1 := below_heap hb1 (heap_old (heap_new rfl))
  have hg2 := below_heap hb1 (heap_new (g := w.heap.size + 1) (by simp))
  have HB1 := Aside0.mk (below_step (HB.out _ _) hb1)
  have c1 := (blk hg1).1
  have c2 := (blk hg2).1
  clear hb1 hg1 hg2 K1 K2
  go_wp2_with fail
  refine (rlists_calls _ (HP.out.below HB1.out) (HP'.out.below HB1.out)).mono ?_
  rintro e w2 ⟨rfl, hb2⟩
  rw [beq_self_eq_true]
  have HB2 := Aside0.mk (below_step HB1.out hb2)
  clear hb2 c1 c2
  go_wp2_with fail
  go_ret
  exact ⟨rfl, HB2.out⟩
end Go.Proofs.Ytplbmflgmfoanaa
