/-
  Of any data and places the blocks are what the document says, or refused; any delta is put into any data, or refused; what is wanted of any leaves is told. No condition.
-/
import Derived.Test.YtdikconhdbopdaaDelAwake
import Derived.Test.YtdikconhdbopdaaIntsEq
namespace Go.Proofs.Ytdikconhdbopdaa
open Go.RowKit
set_option linter.unusedVariables false
set_option linter.unusedSimpArgs false

/-- What is made of a text. -/
structure MkD where
  size : Int
  block : Int
  root : List UInt8
  l : List Int
  bs : List (List UInt8)
  code : Int
def makeD (data : List UInt8) (block : Int) (l : List Int) : MkD := if (mayD block && risL l (cnt data.length block)) = true then ⟨data.length, block, rootL (leavesL data block), l, blocksN data block l l.length, 0⟩ else ⟨0, 0, [], [], [], 1⟩
theorem dmake_any {b0 b1 : Nat} {v vl : Value} {data : List UInt8} {l : List Int} (block : Int) (w : World) (hv : Sl bv 5 w b0 v data) (hl : Sl iv 3 w b1 vl l) (hd : data.length ≤ 2000) (hb : -9223372036854775808 ≤ block ∧ block ≤ 9223372036854775807) :
    Calls Try.prog 7 #[v, .int .i64 block, vl] w fun e w' => ∃ vr vl' vb, e = .returned (.tuple #[.agg #[.int .i64 (makeD data block l).size, .int .i64 (makeD data block l).block, vr, vl', vb], .int .i64 (makeD data block l).code]) ∧ DelR w' vr vl' vb (makeD data block l).root (makeD data block l).l (makeD data block l).bs ∧ Below w.heap.size w w' := by
  unfold makeD
  rcases h : (mayD block && risL l (cnt data.length block)) with _ | _
  · refine (dmake_bad block w hv hl hd hb h).mono ?_
    rintro e w' ⟨rfl, hb'⟩
    exact ⟨_, _, _, rfl, ⟨⟨0, Sl.nil _ _ _ _⟩, ⟨0, Sl.nil _ _ _ _⟩, ⟨0, SlL.nil _ _⟩⟩, hb'⟩
  · simp only [Bool.and_eq_true] at h
    refine (dmake_good block w hv hl hd h.1 h.2).mono ?_
    rintro e w' ⟨vr, vl', vb, rfl, hd', hb'⟩
    exact ⟨_, _, _, rfl, hd', hb'⟩
theorem rdmake_any {b0 b1 : Nat} {v vl : Value} {data : List UInt8} {l : List Int} (block : Int) (w : World) (hv : Sl bv 5 w b0 v data) (hl : Sl iv 3 w b1 vl l) (hd : data.length ≤ 2000) (hb : -9223372036854775808 ≤ block ∧ block ≤ 9223372036854775807) :
    Calls Try.prog 8 #[v, .int .i64 block, vl] w fun e w' => ∃ vr vl' vb, e = .returned (.tuple #[.agg #[.int .i64 (makeD data block l).size, .int .i64 (makeD data block l).block, vr, vl', vb], .int .i64 (makeD data block l).code]) ∧ DelR w' vr vl' vb (makeD data block l).root (makeD data block l).l (makeD data block l).bs ∧ Below w.heap.size w w' := by
  unfold makeD
  rcases h : (mayD block && risL l (cnt data.length block)) with _ | _
  · refine (rdmake_bad block w hv hl hd hb h).mono ?_
    rintro e w' ⟨rfl, hb'⟩
    exact ⟨_, _, _, rfl, ⟨⟨0, Sl.nil _ _ _ _⟩, ⟨0, Sl.nil _ _ _ _⟩, ⟨0, SlL.nil _ _⟩⟩, hb'⟩
  · simp only [Bool.and_eq_true] at h
    refine (rdmake_good block w hv hl hd h.1 h.2).mono ?_
    rintro e w' ⟨vr, vl', vb, rfl, hd', hb'⟩
    exact ⟨_, _, _, rfl, hd', hb'⟩
section
set_option maxRecDepth 100000
/-- What each slot of the region holds. -/
def DAsk (G1 G2 : Nat) (size block E code : Int) (vr vl vb vr2 vl2 vb2 vX vY vh vw : Value) (X : List UInt8) (ND : List Int) : Nat → Value → World → Prop
  | 0, v, w => v = .agg #[.int .i64 size, .int .i64 block, vr, vl, vb]
  | 1, v, w => v = .agg #[.int .i64 size, .int .i64 block, vr, vl, vb]
  | 2, v, w => v = .agg #[.int .i64 size, .int .i64 block, vr2, vl2, vb2]
  | 3, v, w => v = .bool true
  | 4, v, w => v = .bool true
  | 5, v, w => v = .int .i64 code
  | 6, v, w => v = .int .i64 code
  | 7, v, w => v = .bool true
  | 8, v, w => v = .bool true
  | 9, v, w => v = .bool true
  | 10, v, w => v = vX
  | 11, v, w => v = .string (str X)
  | 12, v, w => v = vY
  | 13, v, w => v = .string (str X)
  | 14, v, w => v = .bool true
  | 15, v, w => v = .bool true
  | 16, v, w => v = .bool true
  | 17, v, w => v = .int .i64 E
  | 18, v, w => v = .int .i64 E
  | 19, v, w => v = .bool true
  | 20, v, w => v = .bool true
  | 21, v, w => v = .bool true
  | 22, v, w => v = vh
  | 23, v, w => v = vw
  | 24, v, w => Sl iv 3 w 0 v ND
  | 25, v, w => v = vh
  | 26, v, w => v = vw
  | 27, v, w => Sl iv 3 w 0 v ND
  | 28, v, w => v = .bool true
  | 29, v, w => v = .bool true
  | 30, v, w => v = .bool true
  | 31, v, w => v = .bool true
  | 32, v, w => v = .bool true
  | 33, v, w => v = .bool true
  | _, _, _ => True
theorem DAsk_st (G1 G2 : Nat) (size block E code : Int) (vr vl vb vr2 vl2 vb2 vX vY vh vw : Value) (X : List UInt8) (ND : List Int) : ∀ i v w w', DAsk G1 G2 size block E code vr vl vb vr2 vl2 vb2 vX vY vh vw X ND i v w → Below w.heap.size w w' → DAsk G1 G2 size block E code vr vl vb vr2 vl2 vb2 vX vY vh vw X ND i v w'
  | 0, v, w, w', h, hb => h
  | 1, v, w, w', h, hb => h
  | 2, v, w, w', h, hb => h
  | 3, v, w, w', h, hb => h
  | 4, v, w, w', h, hb => h
  | 5, v, w, w', h, hb => h
  | 6, v, w, w', h, hb => h
  | 7, v, w, w', h, hb => h
  | 8, v, w, w', h, hb => h
  | 9, v, w, w', h, hb => h
  | 10, v, w, w', h, hb => h
  | 11, v, w, w', h, hb => h
  | 12, v, w, w', h, hb => h
  | 13, v, w, w', h, hb => h
  | 14, v, w, w', h, hb => h
  | 15, v, w, w', h, hb => h
  | 16, v, w, w', h, hb => h
  | 17, v, w, w', h, hb => h
  | 18, v, w, w', h, hb => h
  | 19, v, w, w', h, hb => h
  | 20, v, w, w', h, hb => h
  | 21, v, w, w', h, hb => h
  | 22, v, w, w', h, hb => h
  | 23, v, w, w', h, hb => h
  | 24, v, w, w', h, hb => Sl.below h hb
  | 25, v, w, w', h, hb => h
  | 26, v, w, w', h, hb => h
  | 27, v, w, w', h, hb => Sl.below h hb
  | 28, v, w, w', h, hb => h
  | 29, v, w, w', h, hb => h
  | 30, v, w, w', h, hb => h
  | 31, v, w, w', h, hb => h
  | 32, v, w, w', h, hb => h
  | 33, v, w, w', h, hb => h
  | _ + 34, _, _, _, _, _ => trivial
end
set_option maxHeartbeats 8000000 in
set_option maxRecDepth 100000 in
theorem asks17 {b0 b2 b3 b5 b6 : Nat} {v0 v2 v3 v5 v6 vr vl vb : Value} {data old root : List UInt8} {places l : List Int} {bs have_ want : List (List UInt8)} (block dsize dblock : Int) (w : World)
    (hv : Sl bv 5 w b0 v0 data) (hb : -9223372036854775808 ≤ block ∧ block ≤ 9223372036854775807) (hp : Sl iv 3 w b2 v2 places) (ho : Sl bv 5 w b3 v3 old) (hd : DelR w vr vl vb root l bs) (hh : SlL w b5 v5 have_) (hw : SlL w b6 v6 want) :
    Calls Try.prog 3 #[v0, .int .i64 block, v2, v3, .agg #[.int .i64 dsize, .int .i64 dblock, vr, vl, vb], v5, v6] w fun e w' => e = .returned (.bool true) ∧ Below w.heap.size w w' := by
  have HV := Aside0.mk hv
  have HBK := Aside0.mk hb
  have HPL := Aside0.mk hp
  have HOL := Aside0.mk ho
  have HD := Aside0.mk hd
  have HH := Aside0.mk hh
  have HWA := Aside0.mk hw
  obtain ⟨A0, c0, rfl, _, hm0, _⟩ := hv
  obtain ⟨A2, c2, rfl, _, hm2, _⟩ := hp
  obtain ⟨A3, c3, rfl, _, hm3, _⟩ := ho
  obtain ⟨A5, c5, rfl, _, hm5⟩ := hh.shape
  obtain ⟨A6, c6, rfl, _, hm6⟩ := hw.shape
  obtain ⟨⟨br, hr⟩, ⟨bl, hl⟩, ⟨bb, hbb⟩⟩ := hd
  obtain ⟨Ar, cr, rfl, _, _, _⟩ := hr
  obtain ⟨Al, cl, rfl, _, _, _⟩ := hl
  obtain ⟨Ab, cb, rfl, _, _⟩ := hbb.shape
  have HB := Aside0.mk (show Below w.heap.size w (w.alloc (.cells #[.int .i64 dsize, .int .i64 dblock, .slice Ar root.length cr, .slice Al l.length cl, .slice Ab bs.length cb] 26)) from (Below.refl _ _).alloc (Nat.le_refl _) _)
  clear hh hw hbb hb
  by_cases h1 : 2000 < data.length
  · have d1 : decide (2000 < data.length) = true := decide_eq_true h1
    go_enter Try.func3, Try.ntmps3
    go_wp2_with (go_at_call 6; refine (awake17_calls _).mono ?_; rintro e w1 ⟨rfl, hb1⟩; have HB := Aside0.mk (below_step HB.out hb1); clear hb1)
    go_ret
    exact ⟨rfl, HB.out⟩
  have d1 : decide (2000 < data.length) = false := decide_eq_false h1
  by_cases h2 : 200 < places.length
  · have d2 : decide (200 < places.length) = true := decide_eq_true h2
    go_enter Try.func3, Try.ntmps3
    go_wp2_with (go_at_call 6; refine (awake17_calls _).mono ?_; rintro e w1 ⟨rfl, hb1⟩; have HB := Aside0.mk (below_step HB.out hb1); clear hb1)
    go_ret
    exact ⟨rfl, HB.out⟩
  have d2 : decide (200 < places.length) = false := decide_eq_false h2
  by_cases h3 : 2000 < old.length
  · have d3 : decide (2000 < old.length) = true := decide_eq_true h3
    go_enter Try.func3, Try.ntmps3
    go_wp2_with (go_at_call 6; refine (awake17_calls _).mono ?_; rintro e w1 ⟨rfl, hb1⟩; have HB := Aside0.mk (below_step HB.out hb1); clear hb1)
    go_ret
    exact ⟨rfl, HB.out⟩
  have d3 : decide (2000 < old.length) = false := decide_eq_false h3
  go_enter Try.func3, Try.ntmps3
  go_wp2_with fail
  refine (small17_calls _ _ _ (HD.out.below HB.out)).mono ?_
  rintro e w1 ⟨⟨b, rfl, hs1⟩, hb1⟩
  have HG := Aside0.mk (below_heap hb1 (heap_new rfl))
  have HB := Aside0.mk (below_step HB.out hb1)
  clear hb1
  cases b with
  | false =>
    clear hs1
    go_wp2_with (go_at_call 6; refine (awake17_calls _).mono ?_; rintro e w1 ⟨rfl, hb1⟩; have HB := Aside0.mk (below_step HB.out hb1); clear hb1)
    go_ret
    exact ⟨rfl, HB.out⟩
  | true =>
    clear hs1
    go_wp2_with fail
    refine (bytes_calls 2000 _ (HH.out.below HB.out) (by decide)).mono ?_
    rintro e w2 ⟨q1, rfl, hq1, _, hq1', hb2⟩
    have HG := Aside0.mk (below_heap hb2 HG.out)
    have HB := Aside0.mk (below_step HB.out hb2)
    have HQ1 := Aside0.mk hq1
    clear hb2 hq1
    by_cases h4 : 2000 < q1
    · have d4 : decide (2000 < q1) = true := decide_eq_true h4
      go_wp2_with (go_at_call 6; refine (awake17_calls _).mono ?_; rintro e w1 ⟨rfl, hb1⟩; have HB := Aside0.mk (below_step HB.out hb1); clear hb1)
      go_ret
      exact ⟨rfl, HB.out⟩
    · have d4 : decide (2000 < q1) = false := decide_eq_false h4
      go_wp2_with fail
      refine (bytes_calls 2000 _ (HWA.out.below HB.out) (by decide)).mono ?_
      rintro e w3 ⟨q2, rfl, hq2, _, hq2', hb3⟩
      have HG := Aside0.mk (below_heap hb3 HG.out)
      have HB := Aside0.mk (below_step HB.out hb3)
      have HQ2 := Aside0.mk hq2
      clear hb3 hq2
      by_cases h5 : 2000 < q2
      · have d5 : decide (2000 < q2) = true := decide_eq_true h5
        go_wp2_with (go_at_call 6; refine (awake17_calls _).mono ?_; rintro e w1 ⟨rfl, hb1⟩; have HB := Aside0.mk (below_step HB.out hb1); clear hb1)
        go_ret
        exact ⟨rfl, HB.out⟩
      · have d5 : decide (2000 < q2) = false := decide_eq_false h5
        have HWL : Aside0 (want.length ≤ 1000000000) := ⟨by have h := HQ2.out (by omega); have := wt_length want; omega⟩
        obtain ⟨MD, hMD⟩ : ∃ MD, makeD data block places = MD := ⟨_, rfl⟩
        have HMD := Aside0.mk hMD
        obtain ⟨E, hE⟩ : ∃ E, applyE dsize dblock root l bs old = E := ⟨_, rfl⟩
        have HE := Aside0.mk hE
        obtain ⟨X, hX⟩ : ∃ X, applyL dsize dblock root l bs old = X := ⟨_, rfl⟩
        have HX := Aside0.mk hX
        obtain ⟨ND, hND⟩ : ∃ ND, needN have_ want want.length = ND := ⟨_, rfl⟩
        have HND := Aside0.mk hND
        clear hMD hE hX hND
        go_wp2_with fail
        refine (dmake_any block _ (HV.out.below HB.out) (HPL.out.below HB.out) (by omega) HBK.out).mono ?_
        rintro e w4 ⟨vr1, vl1, vb1, rfl, hd1, hb4⟩
        rw [HMD.out] at hd1 ⊢
        have HG := Aside0.mk (below_heap hb4 HG.out)
        have HB := Aside0.mk (below_step HB.out hb4)
        have HD1 := Aside0.mk hd1
        obtain ⟨⟨br1, hr1⟩, ⟨bl1, hl1⟩, ⟨bb1, hbb1⟩⟩ := hd1
        obtain ⟨Ar1, cr1, rfl, _, _, _⟩ := hr1
        obtain ⟨Al1, cl1, rfl, _, _, _⟩ := hl1
        obtain ⟨Ab1, cb1, rfl, _, _⟩ := hbb1.shape
        clear hb4 hbb1
        go_wp2_with fail
        have hBa : Below w4.heap.size w4 (w4.alloc (.cells #[.int .i64 MD.size, .int .i64 MD.block, .slice Ar1 MD.root.length cr1, .slice Al1 MD.l.length cl1, .slice Ab1 MD.bs.length cb1] 30)) := (Below.refl _ _).alloc (Nat.le_refl _) _
        have HBA := Aside0.mk hBa
        clear hBa
        refine (rdmake_any block _ (HV.out.below (below_step HB.out HBA.out)) (HPL.out.below (below_step HB.out HBA.out)) (by omega) HBK.out).mono ?_
        rintro e w5 ⟨vr2, vl2, vb2, rfl, hd2, hb5⟩
        rw [HMD.out] at hd2 ⊢
        have HG := Aside0.mk (below_heap (below_step HBA.out hb5) HG.out)
        have HG1 := Aside0.mk (below_heap hb5 (heap_new rfl))
        have HB := Aside0.mk (below_step HB.out (below_step HBA.out hb5))
        have HD1 := Aside0.mk (HD1.out.below (below_step HBA.out hb5))
        have HD2 := Aside0.mk hd2
        obtain ⟨⟨br2, hr2⟩, ⟨bl2, hl2⟩, ⟨bb2, hbb2⟩⟩ := hd2
        obtain ⟨Ar2, cr2, rfl, _, _, _⟩ := hr2
        obtain ⟨Al2, cl2, rfl, _, _, _⟩ := hl2
        obtain ⟨Ab2, cb2, rfl, _, _⟩ := hbb2.shape
        obtain ⟨G1, hG1⟩ : ∃ G, G = w4.heap.size := ⟨_, rfl⟩
        rw [← hG1] at HG1 ⊢
        clear hb5 hbb2 HBA hG1
        have hgw := below_heap ((Below.refl w5.heap.size w5).alloc (Nat.le_refl _) (.cells #[.int .i64 MD.size, .int .i64 MD.block, .slice Ar2 MD.root.length cr2, .slice Al2 MD.l.length cl2, .slice Ab2 MD.bs.length cb2] 26)) HG.out
        have hgc := (blk hgw).1
        go_wp2_with fail
        obtain ⟨w6, hw6⟩ : ∃ w6, w6 = w5.alloc (.cells #[.int .i64 MD.size, .int .i64 MD.block, .slice Ar2 MD.root.length cr2, .slice Al2 MD.l.length cl2, .slice Ab2 MD.bs.length cb2] 26) := ⟨_, rfl⟩
        have hBa : Below w5.heap.size w5 w6 := by rw [hw6]; exact (Below.refl _ _).alloc (Nat.le_refl _) _
        obtain ⟨G2, hG2⟩ : ∃ G, G = w5.heap.size := ⟨_, rfl⟩
        have HG2 := Aside0.mk (show w6.heap[G2]? = some (.cells #[.int .i64 MD.size, .int .i64 MD.block, .slice Ar2 MD.root.length cr2, .slice Al2 MD.l.length cl2, .slice Ab2 MD.bs.length cb2] 26 (0, 0)) by rw [hw6, hG2]; exact heap_new rfl)
        rw [← hw6] at hgw hgc ⊢
        rw [← hG2]
        have HG1 := Aside0.mk (below_heap hBa HG1.out)
        have HG := Aside0.mk hgw
        have HB := Aside0.mk (below_step HB.out hBa)
        have HD1 := Aside0.mk (HD1.out.below hBa)
        have HD2 := Aside0.mk (HD2.out.below hBa)
        clear hw6 hG2 hBa hgw hgc
        refine (made17_calls _ _ _ ⟨_, _, _, rfl⟩ ⟨_, _, _, rfl⟩ ⟨_, _, _, rfl⟩).mono ?_
        rintro e w7 ⟨rfl, hb7⟩
        have HG1 := Aside0.mk (below_heap hb7 HG1.out)
        have HG2 := Aside0.mk (below_heap hb7 HG2.out)
        have HG := Aside0.mk (below_heap hb7 HG.out)
        have HB := Aside0.mk (below_step HB.out hb7)
        have HD1 := Aside0.mk (HD1.out.below hb7)
        have HD2 := Aside0.mk (HD2.out.below hb7)
        clear hb7
        go_wp2_with fail
        refine (dapply_calls dsize dblock _ (HOL.out.below HB.out) (HD.out.below HB.out)).mono ?_
        rintro e w8 ⟨vX, bX, rfl, hsX, hb8⟩
        rw [HX.out] at hsX
        rw [HE.out]
        have HX1 := Aside0.mk hsX
        have HG1 := Aside0.mk (below_heap hb8 HG1.out)
        have HG2 := Aside0.mk (below_heap hb8 HG2.out)
        have HG := Aside0.mk (below_heap hb8 HG.out)
        have HB := Aside0.mk (below_step HB.out hb8)
        have HD1 := Aside0.mk (HD1.out.below hb8)
        have HD2 := Aside0.mk (HD2.out.below hb8)
        obtain ⟨AX, cX, rfl, _⟩ := hsX
        have hgc := (blk HG.out).1
        clear hb8
        go_wp2_with fail
        refine (rdapply_calls dsize dblock _ (HOL.out.below HB.out) (HD.out.below HB.out) (by omega)).mono ?_
        rintro e w9 ⟨vY, bY, rfl, hsY, hb9⟩
        rw [HX.out] at hsY
        rw [HE.out]
        have HX2 := Aside0.mk hsY
        have HX1 := Aside0.mk (HX1.out.below hb9)
        have HG1 := Aside0.mk (below_heap hb9 HG1.out)
        have HG2 := Aside0.mk (below_heap hb9 HG2.out)
        have HB1 := Aside0.mk (below_step HB.out hb9)
        have HD1 := Aside0.mk (HD1.out.below hb9)
        have HD2 := Aside0.mk (HD2.out.below hb9)
        have HH := Aside0.mk (HH.out.below HB1.out)
        have HWA := Aside0.mk (HWA.out.below HB1.out)
        obtain ⟨AY, cY, rfl, _⟩ := hsY
        clear hb9 hgc
        go_wp2_with fail
        obtain ⟨W, hW⟩ : ∃ W, W = w9 := ⟨_, rfl⟩
        rw [← hW] at HX2 HX1 HG1 HG2 HB1 HD1 HD2 HH HWA ⊢
        obtain ⟨vr, hvr⟩ : ∃ v, v = Value.slice Ar1 MD.root.length cr1 := ⟨_, rfl⟩
        obtain ⟨vl, hvl⟩ : ∃ v, v = Value.slice Al1 MD.l.length cl1 := ⟨_, rfl⟩
        obtain ⟨vb, hvb⟩ : ∃ v, v = Value.slice Ab1 MD.bs.length cb1 := ⟨_, rfl⟩
        obtain ⟨vr2, hvr2⟩ : ∃ v, v = Value.slice Ar2 MD.root.length cr2 := ⟨_, rfl⟩
        obtain ⟨vl2, hvl2⟩ : ∃ v, v = Value.slice Al2 MD.l.length cl2 := ⟨_, rfl⟩
        obtain ⟨vb2, hvb2⟩ : ∃ v, v = Value.slice Ab2 MD.bs.length cb2 := ⟨_, rfl⟩
        obtain ⟨vX, hvX⟩ : ∃ v, v = Value.slice AX X.length cX := ⟨_, rfl⟩
        obtain ⟨vY, hvY⟩ : ∃ v, v = Value.slice AY X.length cY := ⟨_, rfl⟩
        obtain ⟨vh, hvh⟩ : ∃ v, v = Value.slice A5 have_.length c5 := ⟨_, rfl⟩
        obtain ⟨vw, hvw⟩ : ∃ v, v = Value.slice A6 want.length c6 := ⟨_, rfl⟩
        rw [← hvr, ← hvl, ← hvb] at HG1 HD1
        rw [← hvr2, ← hvl2, ← hvb2] at HG2 HD2
        rw [← hvX] at HX1 ⊢
        rw [← hvY] at HX2 ⊢
        rw [← hvh] at HH ⊢
        rw [← hvw] at HWA ⊢
        have HS1 : Aside0 (∃ A n c, vr = .slice A n c) := ⟨⟨_, _, _, hvr⟩⟩
        have HS2 : Aside0 (∃ A n c, vl = .slice A n c) := ⟨⟨_, _, _, hvl⟩⟩
        have HS3 : Aside0 (∃ A n c, vb = .slice A n c) := ⟨⟨_, _, _, hvb⟩⟩
        obtain ⟨size, hsize⟩ : ∃ s, s = MD.size := ⟨_, rfl⟩
        obtain ⟨block', hblock⟩ : ∃ s, s = MD.block := ⟨_, rfl⟩
        obtain ⟨code, hcode⟩ : ∃ s, s = MD.code := ⟨_, rfl⟩
        rw [← hsize, ← hblock] at HG1 HG2
        rw [← hcode]
        clear hvr hvl hvb hvr2 hvl2 hvb2 hvX hvY hvh hvw hsize hblock hcode hW
        refine wp_region_flowA (DAsk G1 G2 size block' E code vr vl vb vr2 vl2 vb2 vX vY vh vw X ND) (by kernel_rfl) (by kernel_rfl) (DAsk_st _ _ _ _ _ _ _ _ _ _ _ _ _ _ _ _ _ _) ?_ ?_
        · intro i o ho aa w' F
          have hlow := F.low
          match i, ho with
          | 0, ho =>
            obtain rfl := Option.some.inj ho
            refine flow_plain rfl rfl ?_
            have f15 : aa.tmps.getD 15 undef = .pointer (some ⟨G1, 0, none⟩) := eval_out F 15 (by kernel_rfl) _ rfl
            have hc := (blk (below_heap hlow HG1.out)).1
            refine op_pure (.agg #[.int .i64 size, .int .i64 block', vr, vl, vb]) ?_ ⟨_, rfl, Below.refl _ _, rfl⟩
            simp [execOp, Act.eval, go_sem, f15, hc]
          | 1, ho =>
            obtain rfl := Option.some.inj ho
            refine flow_plain rfl rfl ?_
            have f79 : (aa.tmps.getD 79 undef) = .agg #[.int .i64 size, .int .i64 block', vr, vl, vb] := F.of 0 (by kernel_rfl)
            refine op_call 13 #[.tmp 79] #[30] rfl _ rfl rfl rfl #[.agg #[.int .i64 size, .int .i64 block', vr, vl, vb]] (by simp [Act.eval, f79]) ?_
            refine (flat17_calls _ _ _ HS1.out HS2.out HS3.out).mono ?_
            rintro e w7 ⟨rfl, hb7⟩
            exact ⟨_, rfl, _, rfl, hb7, rfl⟩
          | 2, ho =>
            obtain rfl := Option.some.inj ho
            refine flow_plain rfl rfl ?_
            have f17 : aa.tmps.getD 17 undef = .pointer (some ⟨G2, 0, none⟩) := eval_out F 17 (by kernel_rfl) _ rfl
            have hc := (blk (below_heap hlow HG2.out)).1
            refine op_pure (.agg #[.int .i64 size, .int .i64 block', vr2, vl2, vb2]) ?_ ⟨_, rfl, Below.refl _ _, rfl⟩
            simp [execOp, Act.eval, go_sem, f17, hc]
          | 3, ho =>
            obtain rfl := Option.some.inj ho
            refine flow_plain rfl rfl ?_
            have f80 : (aa.tmps.getD 80 undef) = .agg #[.int .i64 size, .int .i64 block', vr, vl, vb] := F.of 1 (by kernel_rfl)
            have f81 : (aa.tmps.getD 81 undef) = .agg #[.int .i64 size, .int .i64 block', vr2, vl2, vb2] := F.of 2 (by kernel_rfl)
            refine op_call 12 #[.tmp 80, .tmp 81] #[26, 26] rfl _ rfl rfl rfl #[.agg #[.int .i64 size, .int .i64 block', vr, vl, vb], .agg #[.int .i64 size, .int .i64 block', vr2, vl2, vb2]] (by simp [Act.eval, f80, f81]) ?_
            refine (samedelta_true _ _ _ (HD1.out.below hlow) (HD2.out.below hlow)).mono ?_
            rintro e w7 ⟨rfl, hb7⟩
            exact ⟨_, rfl, _, rfl, hb7, rfl⟩
          | 4, ho =>
            obtain rfl := Option.some.inj ho
            refine flow_plain rfl rfl ?_
            have f82 : (aa.tmps.getD 82 undef) = .bool true := F.of 3 (by kernel_rfl)
            exact op_move (.tmp 82) rfl ⟨_, rfl, Below.refl _ _, f82⟩
          | 5, ho =>
            obtain rfl := Option.some.inj ho
            have hg : aa.tmps.getD 83 undef = .bool true := F.of 4 (by kernel_rfl)
            refine flow_yes rfl rfl 83 rfl hg ?_
            have f16 : aa.tmps.getD 16 undef = .int .i64 code := eval_out F 16 (by kernel_rfl) _ rfl
            exact op_move (.tmp 16) rfl ⟨_, rfl, Below.refl _ _, f16⟩
          | 6, ho =>
            obtain rfl := Option.some.inj ho
            have hg : aa.tmps.getD 83 undef = .bool true := F.of 4 (by kernel_rfl)
            refine flow_yes rfl rfl 83 rfl hg ?_
            have f18 : aa.tmps.getD 18 undef = .int .i64 code := eval_out F 18 (by kernel_rfl) _ rfl
            exact op_move (.tmp 18) rfl ⟨_, rfl, Below.refl _ _, f18⟩
          | 7, ho =>
            obtain rfl := Option.some.inj ho
            have hg : aa.tmps.getD 83 undef = .bool true := F.of 4 (by kernel_rfl)
            refine flow_yes rfl rfl 83 rfl hg ?_
            have f84 : (aa.tmps.getD 84 undef) = .int .i64 code := F.of 5 (by kernel_rfl)
            have f85 : (aa.tmps.getD 85 undef) = .int .i64 code := F.of 6 (by kernel_rfl)
            refine op_pure (.bool true) ?_ ⟨_, rfl, Below.refl _ _, rfl⟩
            simp [execOp, Act.eval, go_sem, f84, f85]
          | 8, ho =>
            obtain rfl := Option.some.inj ho
            refine flow_plain rfl rfl ?_
            have f83 : (aa.tmps.getD 83 undef) = .bool true := F.of 4 (by kernel_rfl)
            have f86 : (aa.tmps.getD 86 undef) = .bool true := F.of 7 (by kernel_rfl)
            refine op_pure (.bool true) ?_ ⟨_, rfl, Below.refl _ _, rfl⟩
            simp [execOp, Act.eval, go_sem, f83, f86]
          | 9, ho =>
            obtain rfl := Option.some.inj ho
            refine flow_plain rfl rfl ?_
            have f87 : (aa.tmps.getD 87 undef) = .bool true := F.of 8 (by kernel_rfl)
            exact op_move (.tmp 87) rfl ⟨_, rfl, Below.refl _ _, f87⟩
          | 10, ho =>
            obtain rfl := Option.some.inj ho
            have hg : aa.tmps.getD 88 undef = .bool true := F.of 9 (by kernel_rfl)
            refine flow_yes rfl rfl 88 rfl hg ?_
            have f19 : aa.tmps.getD 19 undef = vX := eval_out F 19 (by kernel_rfl) _ rfl
            exact op_move (.tmp 19) rfl ⟨_, rfl, Below.refl _ _, f19⟩
          | 11, ho =>
            obtain rfl := Option.some.inj ho
            have hg : aa.tmps.getD 88 undef = .bool true := F.of 9 (by kernel_rfl)
            refine flow_yes rfl rfl 88 rfl hg ?_
            have f89 : (aa.tmps.getD 89 undef) = vX := F.of 10 (by kernel_rfl)
            refine op_conv _ _ _ rfl (.string (str X)) ?_ ⟨_, rfl, Below.refl _ _, rfl⟩
            rw [show aa.eval (.tmp 89) = _ from f89]
            exact (HX1.out.below hlow).string (P := Try.prog) Try.underlying22 Try.underlying5 Try.underlying9
          | 12, ho =>
            obtain rfl := Option.some.inj ho
            have hg : aa.tmps.getD 88 undef = .bool true := F.of 9 (by kernel_rfl)
            refine flow_yes rfl rfl 88 rfl hg ?_
            have f21 : aa.tmps.getD 21 undef = vY := eval_out F 21 (by kernel_rfl) _ rfl
            exact op_move (.tmp 21) rfl ⟨_, rfl, Below.refl _ _, f21⟩
          | 13, ho =>
            obtain rfl := Option.some.inj ho
            have hg : aa.tmps.getD 88 undef = .bool true := F.of 9 (by kernel_rfl)
            refine flow_yes rfl rfl 88 rfl hg ?_
            have f91 : (aa.tmps.getD 91 undef) = vY := F.of 12 (by kernel_rfl)
            refine op_conv _ _ _ rfl (.string (str X)) ?_ ⟨_, rfl, Below.refl _ _, rfl⟩
            rw [show aa.eval (.tmp 91) = _ from f91]
            exact (HX2.out.below hlow).string (P := Try.prog) Try.underlying22 Try.underlying5 Try.underlying9
          | 14, ho =>
            obtain rfl := Option.some.inj ho
            have hg : aa.tmps.getD 88 undef = .bool true := F.of 9 (by kernel_rfl)
            refine flow_yes rfl rfl 88 rfl hg ?_
            have f90 : (aa.tmps.getD 90 undef) = .string (str X) := F.of 11 (by kernel_rfl)
            have f92 : (aa.tmps.getD 92 undef) = .string (str X) := F.of 13 (by kernel_rfl)
            refine op_pure (.bool true) ?_ ⟨_, rfl, Below.refl _ _, rfl⟩
            simp [execOp, Act.eval, go_sem, f90, f92]
          | 15, ho =>
            obtain rfl := Option.some.inj ho
            refine flow_plain rfl rfl ?_
            have f88 : (aa.tmps.getD 88 undef) = .bool true := F.of 9 (by kernel_rfl)
            have f93 : (aa.tmps.getD 93 undef) = .bool true := F.of 14 (by kernel_rfl)
            refine op_pure (.bool true) ?_ ⟨_, rfl, Below.refl _ _, rfl⟩
            simp [execOp, Act.eval, go_sem, f88, f93]
          | 16, ho =>
            obtain rfl := Option.some.inj ho
            refine flow_plain rfl rfl ?_
            have f94 : (aa.tmps.getD 94 undef) = .bool true := F.of 15 (by kernel_rfl)
            exact op_move (.tmp 94) rfl ⟨_, rfl, Below.refl _ _, f94⟩
          | 17, ho =>
            obtain rfl := Option.some.inj ho
            have hg : aa.tmps.getD 95 undef = .bool true := F.of 16 (by kernel_rfl)
            refine flow_yes rfl rfl 95 rfl hg ?_
            have f20 : aa.tmps.getD 20 undef = .int .i64 E := eval_out F 20 (by kernel_rfl) _ rfl
            exact op_move (.tmp 20) rfl ⟨_, rfl, Below.refl _ _, f20⟩
          | 18, ho =>
            obtain rfl := Option.some.inj ho
            have hg : aa.tmps.getD 95 undef = .bool true := F.of 16 (by kernel_rfl)
            refine flow_yes rfl rfl 95 rfl hg ?_
            have f22 : aa.tmps.getD 22 undef = .int .i64 E := eval_out F 22 (by kernel_rfl) _ rfl
            exact op_move (.tmp 22) rfl ⟨_, rfl, Below.refl _ _, f22⟩
          | 19, ho =>
            obtain rfl := Option.some.inj ho
            have hg : aa.tmps.getD 95 undef = .bool true := F.of 16 (by kernel_rfl)
            refine flow_yes rfl rfl 95 rfl hg ?_
            have f96 : (aa.tmps.getD 96 undef) = .int .i64 E := F.of 17 (by kernel_rfl)
            have f97 : (aa.tmps.getD 97 undef) = .int .i64 E := F.of 18 (by kernel_rfl)
            refine op_pure (.bool true) ?_ ⟨_, rfl, Below.refl _ _, rfl⟩
            simp [execOp, Act.eval, go_sem, f96, f97]
          | 20, ho =>
            obtain rfl := Option.some.inj ho
            refine flow_plain rfl rfl ?_
            have f95 : (aa.tmps.getD 95 undef) = .bool true := F.of 16 (by kernel_rfl)
            have f98 : (aa.tmps.getD 98 undef) = .bool true := F.of 19 (by kernel_rfl)
            refine op_pure (.bool true) ?_ ⟨_, rfl, Below.refl _ _, rfl⟩
            simp [execOp, Act.eval, go_sem, f95, f98]
          | 21, ho =>
            obtain rfl := Option.some.inj ho
            refine flow_plain rfl rfl ?_
            have f99 : (aa.tmps.getD 99 undef) = .bool true := F.of 20 (by kernel_rfl)
            exact op_move (.tmp 99) rfl ⟨_, rfl, Below.refl _ _, f99⟩
          | 22, ho =>
            obtain rfl := Option.some.inj ho
            have hg : aa.tmps.getD 100 undef = .bool true := F.of 21 (by kernel_rfl)
            refine flow_yes rfl rfl 100 rfl hg ?_
            have f5 : aa.tmps.getD 5 undef = vh := eval_out F 5 (by kernel_rfl) _ rfl
            exact op_move (.tmp 5) rfl ⟨_, rfl, Below.refl _ _, f5⟩
          | 23, ho =>
            obtain rfl := Option.some.inj ho
            have hg : aa.tmps.getD 100 undef = .bool true := F.of 21 (by kernel_rfl)
            refine flow_yes rfl rfl 100 rfl hg ?_
            have f6 : aa.tmps.getD 6 undef = vw := eval_out F 6 (by kernel_rfl) _ rfl
            exact op_move (.tmp 6) rfl ⟨_, rfl, Below.refl _ _, f6⟩
          | 24, ho =>
            obtain rfl := Option.some.inj ho
            have hg : aa.tmps.getD 100 undef = .bool true := F.of 21 (by kernel_rfl)
            refine flow_yes rfl rfl 100 rfl hg ?_
            have f101 : (aa.tmps.getD 101 undef) = vh := F.of 22 (by kernel_rfl)
            have f102 : (aa.tmps.getD 102 undef) = vw := F.of 23 (by kernel_rfl)
            refine op_call 15 #[.tmp 101, .tmp 102] #[24, 24] rfl _ rfl rfl rfl #[vh, vw] (by simp [Act.eval, f101, f102]) ?_
            refine (need_calls _ (HH.out.below hlow) (HWA.out.below hlow) HWL.out).mono ?_
            rintro e w7 ⟨v7, rfl, ho7, hb7⟩
            rw [HND.out] at ho7
            exact ⟨_, rfl, _, rfl, hb7, Sl.of_own ho7⟩
          | 25, ho =>
            obtain rfl := Option.some.inj ho
            have hg : aa.tmps.getD 100 undef = .bool true := F.of 21 (by kernel_rfl)
            refine flow_yes rfl rfl 100 rfl hg ?_
            have f5 : aa.tmps.getD 5 undef = vh := eval_out F 5 (by kernel_rfl) _ rfl
            exact op_move (.tmp 5) rfl ⟨_, rfl, Below.refl _ _, f5⟩
          | 26, ho =>
            obtain rfl := Option.some.inj ho
            have hg : aa.tmps.getD 100 undef = .bool true := F.of 21 (by kernel_rfl)
            refine flow_yes rfl rfl 100 rfl hg ?_
            have f6 : aa.tmps.getD 6 undef = vw := eval_out F 6 (by kernel_rfl) _ rfl
            exact op_move (.tmp 6) rfl ⟨_, rfl, Below.refl _ _, f6⟩
          | 27, ho =>
            obtain rfl := Option.some.inj ho
            have hg : aa.tmps.getD 100 undef = .bool true := F.of 21 (by kernel_rfl)
            refine flow_yes rfl rfl 100 rfl hg ?_
            have f104 : (aa.tmps.getD 104 undef) = vh := F.of 25 (by kernel_rfl)
            have f105 : (aa.tmps.getD 105 undef) = vw := F.of 26 (by kernel_rfl)
            refine op_call 16 #[.tmp 104, .tmp 105] #[24, 24] rfl _ rfl rfl rfl #[vh, vw] (by simp [Act.eval, f104, f105]) ?_
            refine (rneed_calls _ (HH.out.below hlow) (HWA.out.below hlow) HWL.out).mono ?_
            rintro e w7 ⟨v7, rfl, ho7, hb7⟩
            rw [HND.out] at ho7
            exact ⟨_, rfl, _, rfl, hb7, Sl.of_own ho7⟩
          | 28, ho =>
            obtain rfl := Option.some.inj ho
            have hg : aa.tmps.getD 100 undef = .bool true := F.of 21 (by kernel_rfl)
            refine flow_yes rfl rfl 100 rfl hg ?_
            have f103 : Sl iv 3 w' 0 (aa.tmps.getD 103 undef) ND := F.of 24 (by kernel_rfl)
            have f106 : Sl iv 3 w' 0 (aa.tmps.getD 106 undef) ND := F.of 27 (by kernel_rfl)
            refine op_call 14 #[.tmp 103, .tmp 106] #[23, 23] rfl _ rfl rfl rfl #[aa.tmps.getD 103 undef, aa.tmps.getD 106 undef] (by simp [Act.eval]) ?_
            refine (ints_calls _ f103 f106).mono ?_
            rintro e w7 ⟨rfl, hb7⟩
            exact ⟨_, rfl, _, rfl, hb7, by rw [beq_self_eq_true]; rfl⟩
          | 29, ho =>
            obtain rfl := Option.some.inj ho
            refine flow_plain rfl rfl ?_
            have f100 : (aa.tmps.getD 100 undef) = .bool true := F.of 21 (by kernel_rfl)
            have f107 : (aa.tmps.getD 107 undef) = .bool true := F.of 28 (by kernel_rfl)
            refine op_pure (.bool true) ?_ ⟨_, rfl, Below.refl _ _, rfl⟩
            simp [execOp, Act.eval, go_sem, f100, f107]
          | 30, ho =>
            obtain rfl := Option.some.inj ho
            refine flow_plain rfl rfl ?_
            have f108 : (aa.tmps.getD 108 undef) = .bool true := F.of 29 (by kernel_rfl)
            exact op_move (.tmp 108) rfl ⟨_, rfl, Below.refl _ _, f108⟩
          | 31, ho =>
            obtain rfl := Option.some.inj ho
            have hg : aa.tmps.getD 109 undef = .bool true := F.of 30 (by kernel_rfl)
            refine flow_yes rfl rfl 109 rfl hg ?_
            refine op_call 6 #[] #[] rfl _ rfl rfl rfl #[] (by simp [Act.eval]) ?_
            refine (awake17_calls _).mono ?_
            rintro e w7 ⟨rfl, hb7⟩
            exact ⟨_, rfl, _, rfl, hb7, rfl⟩
          | 32, ho =>
            obtain rfl := Option.some.inj ho
            refine flow_plain rfl rfl ?_
            have f109 : (aa.tmps.getD 109 undef) = .bool true := F.of 30 (by kernel_rfl)
            have f110 : (aa.tmps.getD 110 undef) = .bool true := F.of 31 (by kernel_rfl)
            refine op_pure (.bool true) ?_ ⟨_, rfl, Below.refl _ _, rfl⟩
            simp [execOp, Act.eval, go_sem, f109, f110]
          | 33, ho =>
            obtain rfl := Option.some.inj ho
            refine flow_plain rfl rfl ?_
            have f111 : (aa.tmps.getD 111 undef) = .bool true := F.of 32 (by kernel_rfl)
            exact op_assign (.tmp 111) rfl ⟨_, rfl, Below.refl _ _, f111⟩
          | j + 34, ho => exact absurd (Array.getElem?_eq_some_iff.1 ho).1 (by simp)
        · intro a' w' htsz hdfs hsame hlow hgot
          have h14 : a'.tmps.getD 14 undef = .bool true := hgot 33 (by simp)
          have hB := Aside0.mk (below_step HB1.out hlow)
          clear hgot hlow hsame
          go_wp2_with fail
          exact bodyPost_ret (results_tmp rfl _ _ _) hdfs ⟨by rw [h14], hB.out⟩
end Go.Proofs.Ytdikconhdbopdaa
