/-
  sidecar.Make, Check, Repair. No condition but that what comes in can be read and is none too long.
-/
import Derived.Test.YtplbmflgmfoanaaSideProg
import Derived.Deep.RegionHeld3
namespace Go.Proofs.Ytplbmflgmfoanaa
open Go.RowKit
set_option linter.unusedVariables false
set_option linter.unusedSimpArgs false

/-- Bytes don't lie in a box that holds none: the box is written. -/
theorem Sl.off {e g b : Nat} {w w1 : World} {v : Value} {xs : List UInt8} (h : Sl bv e w b v xs) {cur : Array Value} {t : Nat} {fr : Nat × Nat} (hbox : w.heap[g]? = some (.cells cur t fr)) (hcur : ∀ (j : Nat) (b : UInt8), cur[j]? ≠ some (bv b)) (hg : w.grownBy w1 (some g)) : Sl bv e w1 b v xs := by
  obtain ⟨A, c, h1, h2, h3, h4⟩ := h
  refine ⟨A, c, h1, h2, h3, h4.move fun ad hA hne => hg.block _ (h4.lt hA hne) ?_⟩
  intro he
  cases he
  cases xs with
  | nil => simp at hne
  | cons x xs =>
    obtain ⟨ad', h8, h9⟩ := h4.cell 0 (bv x) rfl
    rw [hA] at h8; cases h8
    have h10 : ad.add 0 = ad := rfl
    rw [h10] at h9
    simp only [World.cell?, hbox] at h9
    split at h9
    · cases h9
    · exact absurd h9 (hcur _ _)
theorem OwnL.off {g b : Nat} {w w1 : World} {v : Value} {L : List (List UInt8)} (h : OwnL w b v L) {cur : Array Value} {t : Nat} {fr : Nat × Nat} (hbox : w.heap[g]? = some (.cells cur t fr)) (ht : t ≠ 22) (hcur : ∀ (j : Nat) (b : UInt8), cur[j]? ≠ some (bv b)) (hg : w.grownBy w1 (some g)) : SlL w1 b v L := by
  obtain ⟨vs, h1, h2, h3⟩ := h
  refine ⟨vs, h1, Sl.of_own (enc := id) (base := b) ?_, fun i u x hu hx => (h3 i u x hu hx).off hbox hcur hg⟩
  rw [List.map_id]
  refine h2.kept hg (.inr ?_)
  intro he
  obtain ⟨_, cur', fr', e', h5, h6⟩ := own_row h2 g he
  rw [hbox] at h5
  injection h5 with h5
  injection h5 with _ h7
  exact ht (h7.trans h6)
/-- A whole sidecar is written. -/
theorem put6_grown (w : World) (g : Nat) (a b c d e f : Value) : w.grownBy ((((((w.setCell ⟨g, 0, none⟩ a).setCell ⟨g, 1, none⟩ b).setCell ⟨g, 2, none⟩ c).setCell ⟨g, 3, none⟩ d).setCell ⟨g, 4, none⟩ e).setCell ⟨g, 5, none⟩ f) (some g) :=
  grown_then (grown_then (grown_then (grown_then (grown_then (grown_set _ _ _ _) (grown_set _ _ _ _)) (grown_set _ _ _ _)) (grown_set _ _ _ _)) (grown_set _ _ _ _)) (grown_set _ _ _ _)
theorem six_no_byte (j : Nat) (b : UInt8) : (#[Value.int IntKind.i64 0, .int .i64 0, .int .i64 0, .slice none 0 0, .slice none 0 0, .slice none 0 0])[j]? ≠ some (bv b) := by
  intro h
  match j with
  | 0 => simp [bv] at h
  | 1 => simp [bv] at h
  | 2 => simp [bv] at h
  | 3 => simp [bv] at h
  | 4 => simp [bv] at h
  | 5 => simp [bv] at h
  | j + 6 => simp at h

set_option maxHeartbeats 2000000 in
theorem make_bad {b0 : Nat} {v : Value} {data : List UInt8} (block k : Int) (w : World) (hv : Sl bv 5 w b0 v data) (hm : mayS data.length block k = false) :
    Calls Try.prog 6 #[v, .int .i64 block, .int .i64 k] w fun e w' => e = .returned (.tuple #[.agg #[.int .i64 0, .int .i64 0, .int .i64 0, .slice none 0 0, .slice none 0 0, .slice none 0 0], .int .i64 1]) ∧ Below w.heap.size w w' := by
  obtain ⟨A, c, rfl, hc, hl, _⟩ := hv
  have HM := Aside0.mk hm
  clear hm
  go_enter Try.func6, Try.ntmps6
  go_wp2_with fail
  refine (smay_calls _ _ _ _).mono ?_
  rintro e w' ⟨rfl, rfl⟩
  rw [HM.out]
  go_wp2_with fail
  exact bodyPost_ret (v := .tuple #[.agg #[.int .i64 0, .int .i64 0, .int .i64 0, .slice none 0 0, .slice none 0 0, .slice none 0 0], .int .i64 1]) (by simp [results, Try.results6, go_sem]) rfl ⟨rfl, (Below.refl _ _).alloc (Nat.le_refl _) _⟩

set_option maxHeartbeats 2000000 in
theorem make_good {b0 : Nat} {v : Value} {data : List UInt8} (block k : Int) (w : World) (hv : Sl bv 5 w b0 v data) (hm : mayS data.length block k = true) :
    Calls Try.prog 6 #[v, .int .i64 block, .int .i64 k] w fun e w' => ∃ vr vl vp, e = .returned (.tuple #[.agg #[.int .i64 data.length, .int .i64 block, .int .i64 k, vr, vl, vp], .int .i64 0]) ∧ SideR w' vr vl vp (rootL (leavesL data block)) (leavesL data block) (buildL data block k) ∧ Below w.heap.size w w' := by
  have HV := Aside0.mk hv
  obtain ⟨A, c, rfl, hc, hl, _⟩ := hv
  have HM := Aside0.mk hm
  obtain ⟨h1, h2, h3, h4, h5, h6⟩ := mayS_iff.1 hm
  have HB1 : Aside0 (∀ o, Below w.heap.size w (w.alloc o)) := ⟨fun o => (Below.refl _ _).alloc (Nat.le_refl _) _⟩
  have HN := Aside0.mk (And.intro h2 (And.intro h3 h4))
  clear hm h1 h2 h3 h4 h5 h6
  go_enter Try.func6, Try.ntmps6
  go_wp2_with fail
  refine (smay_calls _ _ _ _).mono ?_
  rintro e w' ⟨rfl, rfl⟩
  rw [HM.out]
  go_wp2_with fail
  refine (leaves_calls block _ (HV.out.below (HB1.out _)) (by have := HN.out; omega) (by have := HN.out; omega)).mono ?_
  rintro e w1 ⟨v1, rfl, ho1, hb1⟩
  obtain ⟨A1, c1, rfl, _, _⟩ := ho1.reads.shape
  obtain ⟨n1, hn1⟩ : ∃ n, (leavesL data block).length = n := ⟨_, rfl⟩
  have H1 := Aside0.mk (And.intro ho1 (below_step (HB1.out _) hb1))
  rw [hn1] at H1 ⊢
  have HGW := Aside0.mk (below_heap hb1 (heap_new rfl))
  clear ho1 hn1 hb1
  go_wp2_with fail
  have HFT := Aside0.mk (leaves_fit data block)
  refine (root_calls _ H1.out.1.reads HFT.out).mono ?_
  rintro e w2 ⟨v2, rfl, hs2, hb2⟩
  have H2 := Aside0.mk (And.intro (H1.out.1.below hb2) (below_step H1.out.2 hb2))
  have HR2 := Aside0.mk hs2
  have HGW2 := Aside0.mk (below_heap hb2 HGW.out)
  obtain ⟨A2, c2, rfl, _⟩ := hs2
  obtain ⟨n2, hn2⟩ : ∃ n, (rootL (leavesL data block)).length = n := ⟨_, rfl⟩
  rw [hn2] at HR2 ⊢
  clear hb2 hn2 HGW
  go_wp2_with fail
  refine (build_calls block k _ (HV.out.below H2.out.2) (by have := HN.out; omega)).mono ?_
  rintro e w3 ⟨v3, rfl, ho3, hb3⟩
  have HP3 := Aside0.mk ho3
  obtain ⟨A3, c3, rfl, _, _⟩ := ho3.reads.shape
  obtain ⟨n3, hn3⟩ : ∃ n, (buildL data block k).length = n := ⟨_, rfl⟩
  rw [hn3] at HP3 ⊢
  have H3 := Aside0.mk (And.intro (H2.out.1.below hb3) (And.intro (HR2.out.below hb3) (below_step H2.out.2 hb3)))
  have hw3 := below_heap hb3 HGW2.out
  have HW3 := Aside0.mk hw3
  have hcell3 := (blk hw3).1
  have hfr3 := (blk hw3).2
  clear ho3 hn3 hb3
  clear hw3
  go_wp2_with fail
  have hgr := put6_grown w3 w.heap.size (.int .i64 data.length) (.int .i64 block) (.int .i64 k) (.slice A2 n2 c2) (.slice A1 n1 c1) (.slice A3 n3 c3)
  have HGR := Aside0.mk hgr
  clear hgr
  refine bodyPost_ret (v := .tuple #[.agg #[.int .i64 data.length, .int .i64 block, .int .i64 k, .slice A2 n2 c2, .slice A1 n1 c1, .slice A3 n3 c3], .int .i64 0]) (by simp [results, Try.results6, go_sem, hcell3]) rfl ⟨_, _, _, rfl, ⟨⟨_, H3.out.2.1.off HW3.out six_no_byte HGR.out⟩, ⟨_, H3.out.1.off HW3.out (by decide) six_no_byte HGR.out⟩, ⟨_, HP3.out.off HW3.out (by decide) six_no_byte HGR.out⟩⟩, below_grown H3.out.2.2 H3.out.2.2.size HGR.out (fun k hk => by cases hk; exact Nat.le_refl _)⟩

set_option maxHeartbeats 4000000 in
theorem check_good {b0 : Nat} {v vr vl vp : Value} {data root : List UInt8} {leaves par : List (List UInt8)} (size : Nat) (block k : Int) (w : World) (h : SideR w vr vl vp root leaves par) (hv : Sl bv 5 w b0 v data) (hso : soundB size block k root leaves par = true) (hf : leaves.length ≤ 1000000000) :
    Calls Try.prog 15 #[.agg #[.int .i64 size, .int .i64 block, .int .i64 k, vr, vl, vp], v] w fun e w' => ∃ v', e = .returned (.tuple #[v', .bool ((((badL (fitL data size) block leaves).length : Int) == 0) && ((data.length : Int) == size))]) ∧ OwnI w' w.heap.size v' (badL (fitL data size) block leaves) ∧ Below w.heap.size w w' := by
  have HR := Aside0.mk h
  have HV := Aside0.mk hv
  have HSO := Aside0.mk hso
  obtain ⟨h1, h2, h3, h4, h5, h6⟩ := mayS_iff.1 (sound_get hso)
  obtain ⟨⟨br, hr⟩, ⟨bl, hl⟩, ⟨bp, hp⟩⟩ := h
  have HL := Aside0.mk hl
  obtain ⟨Ar, cr, rfl, _, _, _⟩ := hr
  obtain ⟨Al, cl, rfl, _, _⟩ := hl.shape
  obtain ⟨Ap, cp, rfl, _, _⟩ := hp.shape
  obtain ⟨A, c, rfl, hc, hlv, _⟩ := hv
  have HB0 : Aside0 (∀ o, Below w.heap.size w (w.alloc o)) := ⟨fun o => (Below.refl _ _).alloc (Nat.le_refl _) _⟩
  have HF := Aside0.mk hf
  have HFL := Aside0.mk (fitL_length data size)
  have HN := Aside0.mk (And.intro h1 (And.intro h2 (And.intro h3 h4)))
  clear hl hp hso hf h3 h4 h5 h6
  go_enter Try.func15, Try.ntmps15
  go_wp2_with fail
  refine (sound_calls _ _ _ _ (HR.out.below (HB0.out _)) (by omega) (by have := HN.out; omega) HF.out).mono ?_
  rintro e w1 ⟨rfl, hb1⟩
  rw [HSO.out]
  have HB1 := Aside0.mk (below_step (HB0.out _) hb1)
  have hw1 := below_heap hb1 (heap_new rfl)
  have HW1 := Aside0.mk hw1
  have HS : Aside0 (∀ w', Below w1.heap.size w1 w' → w'.cell? ⟨w.heap.size, 0, none⟩ = some (.int .i64 size) ∧ w'.cell? ⟨w.heap.size, 1, none⟩ = some (.int .i64 block) ∧ w'.cell? ⟨w.heap.size, 4, none⟩ = some (.slice Al leaves.length cl)) := ⟨fun w' hb' => by
    have := (blk (below_heap hb' HW1.out)).1
    exact ⟨this 0, this 1, this 4⟩⟩
  have HW := Aside0.mk (Below.refl w1.heap.size w1)
  clear hb1 hw1
  go_wp2_with fail
  go_region_held3 (fun w' => w'.cell? ⟨w.heap.size, 0, none⟩ = some (.int .i64 size) ∧ w'.cell? ⟨w.heap.size, 1, none⟩ = some (.int .i64 block) ∧ w'.cell? ⟨w.heap.size, 4, none⟩ = some (.slice Al leaves.length cl)) (first | exact HS.out _ HW.out | exact HS.out _ HW.out.drew) (first
    | ((go_at_call 38; refine (fit_calls size _ (HV.out.below (below_step HB1.out (by first | exact HW.out.drew | exact HW.out))) (by omega)).mono ?_; rintro e w2 ⟨v2, rfl, ho2, hb2⟩)
       have HFO := Aside0.mk (Sl.of_own (b := 0) ho2)
       obtain ⟨A2, c2, rfl, _⟩ := Sl.of_own (b := 0) ho2
       have HW := Aside0.mk (below_step (by first | exact HW.out.drew | exact HW.out) hb2)
       clear ho2 hb2)
    | ((go_at_call 37; refine (bad_calls block _ (HFO.out.below (Below.refl _ _)) (HL.out.below (below_step HB1.out HW.out)) (by have := HN.out; omega) (by rw [HFL.out]; omega)).mono ?_; rintro e w3 ⟨v3, rfl, ho3, hb3⟩)
       have HBO := Aside0.mk (own_mono ho3 (Nat.le_trans HB1.out.size HW.out.size))
       obtain ⟨A3, c3, rfl, _⟩ := Sl.of_own (b := 0) ho3
       have HW := Aside0.mk (below_step HW.out hb3)
       clear ho3 hb3))
  have hc0 := (HS.out _ HW.out).1
  obtain ⟨n3, hn3⟩ : ∃ n, (badL (fitL data size) block leaves).length = n := ⟨_, rfl⟩
  have HN3 := Aside0.mk hn3
  rw [hn3]
  clear hn3
  have z1 : (n3 : Int) ≤ 9223372036854775807 := by
    have h1 := badN_length (fitL data size) block leaves (cnt (fitL data size).length block).toNat
    have h2 := HN3.out
    have h3 := cnt_bd (fitL data size).length block
    unfold badL at h2
    omega
  rcases hq : ((n3 : Int) == 0) with _ | _
  · go_wp2_with fail
    go_quiet (fail)
    go_wp2_with fail
    go_ret2
    exact ⟨_, by rw [HN3.out, hq]; rfl, own_below HBO.out (by first | exact (Below.refl _ _).drew | exact below_drewN (Below.refl _ _) _), below_step (below_step HB1.out HW.out) (by first | exact (Below.refl _ _).drew | exact below_drewN (Below.refl _ _) _)⟩
  · go_wp2_with fail
    go_quiet (fail)
    go_wp2_with fail
    go_ret2
    exact ⟨_, by rw [HN3.out, hq]; rfl, own_below HBO.out (by first | exact (Below.refl _ _).drew | exact below_drewN (Below.refl _ _) _), below_step (below_step HB1.out HW.out) (by first | exact (Below.refl _ _).drew | exact below_drewN (Below.refl _ _) _)⟩

set_option maxHeartbeats 4000000 in
theorem repair_good {b0 : Nat} {v vr vl vp : Value} {data root : List UInt8} {leaves par : List (List UInt8)} (size : Nat) (block k : Int) (w : World) (h : SideR w vr vl vp root leaves par) (hv : Sl bv 5 w b0 v data) (hso : soundB size block k root leaves par = true) (hf : leaves.length ≤ 1000000000) :
    Calls Try.prog 17 #[.agg #[.int .i64 size, .int .i64 block, .int .i64 k, vr, vl, vp], v] w fun e w' => ∃ vf vb, e = .returned (.tuple #[vf, vb]) ∧ OwnB w' w.heap.size vf (fixL (fitL data size) block k leaves par) ∧ OwnI w' w.heap.size vb (badL (fixL (fitL data size) block k leaves par) block leaves) ∧ Below w.heap.size w w' := by
  have HR := Aside0.mk h
  have HV := Aside0.mk hv
  have HSO := Aside0.mk hso
  obtain ⟨h1, h2, h3, h4, h5, h6⟩ := mayS_iff.1 (sound_get hso)
  obtain ⟨⟨br, hr⟩, ⟨bl, hl⟩, ⟨bp, hp⟩⟩ := h
  have HL := Aside0.mk hl
  have HP := Aside0.mk hp
  obtain ⟨Ar, cr, rfl, _, _, _⟩ := hr
  obtain ⟨Al, cl, rfl, _, _⟩ := hl.shape
  obtain ⟨Ap, cp, rfl, _, _⟩ := hp.shape
  obtain ⟨A, c, rfl, hc, hlv, _⟩ := hv
  have HB0 : Aside0 (∀ o, Below w.heap.size w (w.alloc o)) := ⟨fun o => (Below.refl _ _).alloc (Nat.le_refl _) _⟩
  have HF := Aside0.mk hf
  have HFL := Aside0.mk (fitL_length data size)
  have HN := Aside0.mk (And.intro h1 (And.intro h2 (And.intro h3 (And.intro h4 (And.intro h5 h6)))))
  clear hl hp hso hf h3 h4 h5 h6
  go_enter Try.func17, Try.ntmps17
  go_wp2_with fail
  refine (sound_calls _ _ _ _ (HR.out.below (HB0.out _)) (by omega) (by have := HN.out; omega) HF.out).mono ?_
  rintro e w1 ⟨rfl, hb1⟩
  rw [HSO.out]
  have HB1 := Aside0.mk (below_step (HB0.out _) hb1)
  have hw1 := below_heap hb1 (heap_new rfl)
  have HW1 := Aside0.mk hw1
  have HS : Aside0 (∀ w', Below w1.heap.size w1 w' → w'.cell? ⟨w.heap.size, 0, none⟩ = some (.int .i64 size) ∧ w'.cell? ⟨w.heap.size, 1, none⟩ = some (.int .i64 block) ∧ w'.cell? ⟨w.heap.size, 2, none⟩ = some (.int .i64 k) ∧ w'.cell? ⟨w.heap.size, 4, none⟩ = some (.slice Al leaves.length cl) ∧ w'.cell? ⟨w.heap.size, 5, none⟩ = some (.slice Ap par.length cp)) := ⟨fun w' hb' => by
    have := (blk (below_heap hb' HW1.out)).1
    exact ⟨this 0, this 1, this 2, this 4, this 5⟩⟩
  have HW := Aside0.mk (Below.refl w1.heap.size w1)
  clear hb1 hw1
  go_wp2_with fail
  go_region_held3 (fun w' => w'.cell? ⟨w.heap.size, 0, none⟩ = some (.int .i64 size) ∧ w'.cell? ⟨w.heap.size, 1, none⟩ = some (.int .i64 block) ∧ w'.cell? ⟨w.heap.size, 2, none⟩ = some (.int .i64 k) ∧ w'.cell? ⟨w.heap.size, 4, none⟩ = some (.slice Al leaves.length cl) ∧ w'.cell? ⟨w.heap.size, 5, none⟩ = some (.slice Ap par.length cp)) (first | exact HS.out _ HW.out | exact HS.out _ HW.out.drew) (first
    | ((go_at_call 38; refine (fit_calls size _ (HV.out.below (below_step HB1.out (by first | exact HW.out.drew | exact HW.out))) (by omega)).mono ?_; rintro e w2 ⟨v2, rfl, ho2, hb2⟩)
       have HFO := Aside0.mk (Sl.of_own (b := 0) ho2)
       obtain ⟨A2, c2, rfl, _⟩ := Sl.of_own (b := 0) ho2
       have HW := Aside0.mk (below_step (by first | exact HW.out.drew | exact HW.out) hb2)
       clear ho2 hb2)
    | ((go_at_call 39; refine (fix_calls block k _ (HFO.out.below (Below.refl _ _)) (HL.out.below (below_step HB1.out HW.out)) (HP.out.below (below_step HB1.out HW.out)) (by have := HN.out; omega) (by rw [HFL.out]; omega)).mono ?_; rintro e w3 ⟨vf, vb, rfl, hf3, ho3, hb3⟩)
       have HBO := Aside0.mk (And.intro (own_mono hf3 (Nat.le_trans HB1.out.size HW.out.size)) (own_mono ho3 (Nat.le_trans HB1.out.size HW.out.size)))
       obtain ⟨A3, c3, rfl, _⟩ := Sl.of_own (b := 0) hf3
       obtain ⟨A4, c4, rfl, _⟩ := Sl.of_own (b := 0) ho3
       have HW := Aside0.mk (below_step HW.out hb3)
       clear hf3 ho3 hb3))
  go_wp2_with fail
  go_ret2
  exact ⟨_, _, rfl, HBO.out.1, HBO.out.2, below_step HB1.out HW.out⟩
end Go.Proofs.Ytplbmflgmfoanaa
