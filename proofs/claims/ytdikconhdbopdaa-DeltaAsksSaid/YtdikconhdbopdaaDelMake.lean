/-
  delta.Make: these blocks of a text. No condition but that what comes in can be read and is none too long.
-/
import Derived.Test.YtdikconhdbopdaaDelSound
import Derived.Test.YtdikconhdbopdaaMerLevels
import Derived.Test.YtdikconhdbopdaaOff
import Derived.Test.YtdikconhdbopdaaFlowP
namespace Go.Proofs.Ytdikconhdbopdaa
open Go.RowKit
set_option linter.unusedVariables false
set_option linter.unusedSimpArgs false

set_option maxHeartbeats 2000000 in
theorem dmake_bad {b0 b1 : Nat} {v vl : Value} {data : List UInt8} {l : List Int} (block : Int) (w : World) (hv : Sl bv 5 w b0 v data) (hl : Sl iv 3 w b1 vl l) (hd : data.length ≤ 2000) (hb : -9223372036854775808 ≤ block ∧ block ≤ 9223372036854775807)
    (hm : (mayD block && risL l (cnt data.length block)) = false) :
    Calls Try.prog 7 #[v, .int .i64 block, vl] w fun e w' => e = .returned (.tuple #[.agg #[.int .i64 0, .int .i64 0, .slice none 0 0, .slice none 0 0, .slice none 0 0], .int .i64 1]) ∧ Below w.heap.size w w' := by
  have HL := Aside0.mk hl
  obtain ⟨A, c, rfl, hc, hlv, _⟩ := hv
  obtain ⟨Al, cl, rfl, _, hml, _⟩ := hl
  have HB1 : Aside0 (∀ o, Below w.heap.size w (w.alloc o)) := ⟨fun o => (Below.refl _ _).alloc (Nat.le_refl _) _⟩
  rcases h1 : mayD block with _ | _
  · have HM := Aside0.mk h1
    clear hm h1
    go_enter Try.func7, Try.ntmps7
    go_wp2_with fail
    refine (dmay_calls _ _).mono ?_
    rintro e w' ⟨rfl, rfl⟩
    rw [HM.out]
    go_wp2_with fail
    exact bodyPost_ret (v := .tuple #[.agg #[.int .i64 0, .int .i64 0, .slice none 0 0, .slice none 0 0, .slice none 0 0], .int .i64 1]) (by simp [results, Try.results7, go_sem]) rfl ⟨rfl, HB1.out _⟩
  · have HM := Aside0.mk h1
    have HR : Aside0 (risL l (cnt data.length block) = false) := ⟨by rw [h1, Bool.true_and] at hm; exact hm⟩
    have HBB := Aside0.mk hb
    clear hm h1 hb
    go_enter Try.func7, Try.ntmps7
    go_wp2_with fail
    refine (dmay_calls _ _).mono ?_
    rintro e w' ⟨rfl, rfl⟩
    rw [HM.out]
    go_wp2_with fail
    refine (count_calls _ _ _ (by omega) HBB.out).mono ?_
    rintro e w' ⟨rfl, rfl⟩
    go_wp2_with fail
    refine (rising_calls _ _ (HL.out.below (HB1.out _))).mono ?_
    rintro e w' ⟨rfl, rfl⟩
    rw [HR.out]
    go_wp2_with fail
    exact bodyPost_ret (v := .tuple #[.agg #[.int .i64 0, .int .i64 0, .slice none 0 0, .slice none 0 0, .slice none 0 0], .int .i64 1]) (by simp [results, Try.results7, go_sem]) rfl ⟨rfl, HB1.out _⟩

/-- A whole delta but its blocks is written. -/
theorem put5_grown (w : World) (g : Nat) (a b c d e : Value) : w.grownBy (((((w.setCell ⟨g, 0, none⟩ a).setCell ⟨g, 1, none⟩ b).setCell ⟨g, 2, none⟩ c).setCell ⟨g, 3, none⟩ d).setCell ⟨g, 4, none⟩ e) (some g) :=
  grown_then (grown_then (grown_then (grown_then (grown_set _ _ _ _) (grown_set _ _ _ _)) (grown_set _ _ _ _)) (grown_set _ _ _ _)) (grown_set _ _ _ _)
theorem five_set (a0 a1 a2 a3 a4 a b c d e : Value) : ((((#[a0, a1, a2, a3, a4].setIfInBounds 0 a).setIfInBounds 1 b).setIfInBounds 2 c).setIfInBounds 3 d).setIfInBounds 4 e = #[a, b, c, d, e] := rfl
theorem put5_block {w : World} {g t : Nat} {a0 a1 a2 a3 a4 : Value} (a b c d e : Value) (h : w.heap[g]? = some (.cells #[a0, a1, a2, a3, a4] t (0, 0))) : (((((w.setCell ⟨g, 0, none⟩ a).setCell ⟨g, 1, none⟩ b).setCell ⟨g, 2, none⟩ c).setCell ⟨g, 3, none⟩ d).setCell ⟨g, 4, none⟩ e).heap[g]? = some (.cells #[a, b, c, d, e] t (0, 0)) := by
  have e0 := arr_set (i := 0) (u := a) h
  have e1 := arr_set (i := 1) (u := b) e0
  have e2 := arr_set (i := 2) (u := c) e1
  have e3 := arr_set (i := 3) (u := d) e2
  have e4 := arr_set (i := 4) (u := e) e3
  rw [e4, five_set]
theorem five_no_byte (x y : Int) (A B C : Value) (hA : ∃ A' n c, A = .slice A' n c) (hB : ∃ A' n c, B = .slice A' n c) (hC : ∃ A' n c, C = .slice A' n c) (j : Nat) (b : UInt8) : (#[Value.int IntKind.i64 x, .int .i64 y, A, B, C])[j]? ≠ some (bv b) := by
  intro h
  obtain ⟨_, _, _, rfl⟩ := hA
  obtain ⟨_, _, _, rfl⟩ := hB
  obtain ⟨_, _, _, rfl⟩ := hC
  match j with
  | 0 => simp [bv] at h
  | 1 => simp [bv] at h
  | 2 => simp [bv] at h
  | 3 => simp [bv] at h
  | 4 => simp [bv] at h
  | j + 5 => simp at h

/-- Where the loop over places stands: the delta's box, its blocks so far. -/
def DMk (W wr : World) (G t : Nat) (a b : Int) (vr vl : Value) (data : List UInt8) (block : Int) (l : List Int) (eb n : Nat) : Prop :=
  ∃ A m c, wr.heap[G]? = some (.cells #[.int .i64 a, .int .i64 b, vr, vl, .slice A m c] t (0, 0)) ∧ OwnE wr W.heap.size eb (.slice A m c) (blocksN data block l n) ∧ W.grownBy wr (some G)

/-- What each slot of the region that appends a block holds. -/
def MkR (G : Nat) (A : Option Addr) (c : Nat) (A4 : Option Addr) (m4 c4 : Nat) (block x : Int) (data : List UInt8) : Nat → Value → World → Prop
  | 0, v, w => v = .pointer (some ⟨G, 4, none⟩)
  | 1, v, w => v = .slice A4 m4 c4
  | 2, v, w => v = .slice A data.length c
  | 3, v, w => v = .int .i64 block
  | 4, v, w => v = .int .i64 x
  | 5, v, w => Sl bv 5 w 0 v (blockL data block x)
  | 6, v, w => ∃ g u, v = .slice (some ⟨g, 0, none⟩) 1 1 ∧ w.heap[g]? = some (.cells #[u] 22 (0, 0)) ∧ Sl bv 5 w 0 u (blockL data block x)
  | 8, v, w => v = .pointer (some ⟨G, 4, none⟩)
  | _, _, _ => True
def MkP (G : Nat) : Nat → Value → Prop
  | 8, v => v = .pointer (some ⟨G, 4, none⟩)
  | _, _ => True
theorem MkR_st (G : Nat) (A : Option Addr) (c : Nat) (A4 : Option Addr) (m4 c4 : Nat) (block x : Int) (data : List UInt8) : ∀ i v w w', MkR G A c A4 m4 c4 block x data i v w → Below w.heap.size w w' → MkR G A c A4 m4 c4 block x data i v w'
  | 0, v, w, w', h, hb => h
  | 1, v, w, w', h, hb => h
  | 2, v, w, w', h, hb => h
  | 3, v, w, w', h, hb => h
  | 4, v, w, w', h, hb => h
  | 5, v, w, w', h, hb => Sl.below h hb
  | 6, v, w, w', h, hb => h.elim fun g h => h.elim fun u h => ⟨g, u, h.1, below_heap hb h.2.1, h.2.2.below hb⟩
  | 7, v, w, w', h, hb => trivial
  | 8, v, w, w', h, hb => h
  | _ + 9, _, _, _, _, _ => trivial
theorem MkR_pure (G : Nat) (A : Option Addr) (c : Nat) (A4 : Option Addr) (m4 c4 : Nat) (block x : Int) (data : List UInt8) : ∀ i v w, MkR G A c A4 m4 c4 block x data i v w → MkP G i v
  | 0, v, w, h => trivial
  | 1, v, w, h => trivial
  | 2, v, w, h => trivial
  | 3, v, w, h => trivial
  | 4, v, w, h => trivial
  | 5, v, w, h => trivial
  | 6, v, w, h => trivial
  | 7, v, w, h => trivial
  | 8, v, w, h => h
  | _ + 9, _, _, _ => trivial

set_option maxHeartbeats 8000000 in
set_option maxRecDepth 100000 in
theorem dmake_good {b0 b1 : Nat} {v vl : Value} {data : List UInt8} {l : List Int} (block : Int) (w : World) (hv : Sl bv 5 w b0 v data) (hl : Sl iv 3 w b1 vl l) (hd : data.length ≤ 2000)
    (hm : mayD block = true) (hri : risL l (cnt data.length block) = true) :
    Calls Try.prog 7 #[v, .int .i64 block, vl] w fun e w' => ∃ vr vl' vb, e = .returned (.tuple #[.agg #[.int .i64 data.length, .int .i64 block, vr, vl', vb], .int .i64 0]) ∧ DelR w' vr vl' vb (rootL (leavesL data block)) l (blocksN data block l l.length) ∧ Below w.heap.size w w' := by
  have HL := Aside0.mk hl
  have HV := Aside0.mk hv
  have hll : (l.length : Int) ≤ 1048576 := by
    have h1 := cnt_bd data.length block
    have h2 := risL_len hri h1.1
    omega
  obtain ⟨A, c, rfl, hc, hlv, _⟩ := hv
  obtain ⟨Al, cl, rfl, _, hml, _⟩ := hl
  have HB1 : Aside0 (∀ o, Below w.heap.size w (w.alloc o)) := ⟨fun o => (Below.refl _ _).alloc (Nat.le_refl _) _⟩
  have HM := Aside0.mk hm
  have HRI := Aside0.mk hri
  have HBK := Aside0.mk (mayD_iff.1 hm)
  have HND : Aside0 (-9223372036854775808 ≤ block ∧ block ≤ 9223372036854775807) := ⟨by have := HBK.out; omega⟩
  have d8 : decide (8192 < data.length) = false := decide_eq_false (by omega)
  have d8' : decide ((8192 : Int) < (data.length : Int)) = false := decide_eq_false (by omega)
  clear hm hri
  go_enter Try.func7, Try.ntmps7
  go_wp2_with fail
  refine (dmay_calls _ _).mono ?_
  rintro e w' ⟨rfl, rfl⟩
  rw [HM.out]
  go_wp2_with fail
  refine (count_calls _ _ _ (by omega) HND.out).mono ?_
  rintro e w' ⟨rfl, rfl⟩
  go_wp2_with fail
  refine (rising_calls _ _ (HL.out.below (HB1.out _))).mono ?_
  rintro e w' ⟨rfl, rfl⟩
  rw [HRI.out]
  go_wp2_with fail
  refine (leaves_calls block _ (HV.out.below (HB1.out _)) HND.out (by omega)).mono ?_
  rintro e w1 ⟨v1, rfl, ho1, hb1⟩
  obtain ⟨A1, c1, rfl, _, _⟩ := ho1.reads.shape
  have H1 := Aside0.mk (And.intro ho1 (below_step (HB1.out _) hb1))
  have HGW := Aside0.mk (below_heap hb1 (heap_new rfl))
  obtain ⟨n1, hn1⟩ : ∃ n, (leavesL data block).length = n := ⟨_, rfl⟩
  rw [hn1] at H1 ⊢
  clear ho1 hn1 hb1
  go_wp2_with fail
  have HFT := Aside0.mk (leaves_fit data block)
  refine (root_calls _ H1.out.1.reads HFT.out).mono ?_
  rintro e w2 ⟨v2, rfl, hs2, hb2⟩
  have H2 := Aside0.mk (below_step H1.out.2 hb2)
  have HR2 := Aside0.mk hs2
  have HGW2 := Aside0.mk (below_heap hb2 HGW.out)
  obtain ⟨A2, c2, rfl, _⟩ := hs2
  obtain ⟨n2, hn2⟩ : ∃ n, (rootL (leavesL data block)).length = n := ⟨_, rfl⟩
  rw [hn2] at HR2 ⊢
  clear hb2 hn2 HGW H1
  go_wp2_with fail
  refine (clonei_calls _ (HL.out.below H2.out) (by omega)).mono ?_
  rintro e w3 ⟨v3, rfl, ho3, hb3⟩
  have HP3 := Aside0.mk ho3
  obtain ⟨A3, c3, rfl, _⟩ := Sl.of_own (b := 0) ho3
  have H3 := Aside0.mk (And.intro (HR2.out.below hb3) (below_step H2.out hb3))
  have hw3 := below_heap hb3 HGW2.out
  have HW3 := Aside0.mk hw3
  have hcell3 := (blk hw3).1
  have hfr3 := (blk hw3).2
  have HG0 := Aside0.mk (show w.heap.size < w2.heap.size by have := blk_lt HGW2.out; exact this)
  clear ho3 hb3 hw3 HR2 HGW2
  go_wp2_with fail
  obtain ⟨G, hG⟩ : ∃ G, G = w.heap.size := ⟨_, rfl⟩
  obtain ⟨W, hW⟩ : ∃ W, W = ((((w3.setCell ⟨w.heap.size, 0, none⟩ (.int .i64 data.length)).setCell ⟨w.heap.size, 1, none⟩ (.int .i64 block)).setCell ⟨w.heap.size, 2, none⟩ (.slice A2 n2 c2)).setCell ⟨w.heap.size, 3, none⟩ (.slice A3 l.length c3)).setCell ⟨w.heap.size, 4, none⟩ (.slice none 0 0) := ⟨_, rfl⟩
  have HGR := Aside0.mk (show w3.grownBy W (some G) by rw [hW, hG]; exact put5_grown _ _ _ _ _ _ _)
  have HWB := Aside0.mk (show W.heap[G]? = some (.cells #[.int .i64 data.length, .int .i64 block, .slice A2 n2 c2, .slice A3 l.length c3, .slice none 0 0] 30 (0, 0)) by rw [hW, hG]; exact put5_block _ _ _ _ _ HW3.out)
  rw [← hG] at HW3
  have HGE := Aside0.mk hG
  rw [← hW]
  rw [← hG]
  have HGW := Aside0.mk (blk_lt HWB.out)
  have HBW : Aside0 (∀ wr, W.grownBy wr (some G) → Below w.heap.size w wr) := ⟨fun wr h => below_grown H3.out.2 H3.out.2.size (grown_then HGR.out h) (fun k hk => by cases hk; rw [HGE.out]; exact Nat.le_refl _)⟩
  clear hW hG hcell3 hfr3
  go_loopw [41] (fun i wr => ∃ n : Nat, n ≤ l.length ∧ i = .int .i64 n ∧ Aside0 (DMk W wr G 30 data.length block (.slice A2 n2 c2) (.slice A3 l.length c3) data block l 0 n)) (fun i wr => l.length - (intOf i).toNat)
  case atStart => exact ⟨0, Nat.zero_le _, rfl, ⟨none, 0, 0, HWB.out, OwnE.nil _ _ _, World.grownBy.refl _ _⟩⟩
  case round =>
    obtain ⟨n, hn, rfl, hs⟩ := hrel
    obtain ⟨A4, m4, c4, hbox, hown, hgr⟩ := hs.out
    have HBR := Aside0.mk (HBW.out _ hgr)
    by_cases hlt : n < l.length
    · obtain ⟨adl, hAl, hcl⟩ := (HL.out.below HBR.out).nth n hlt
      subst hAl
      obtain ⟨x, hx⟩ : ∃ x, x = l.getD n 0 := ⟨_, rfl⟩
      rw [← hx] at hcl
      have HX := Aside0.mk hx
      have HO := Aside0.mk hown
      have HBX := Aside0.mk hbox
      have HGN := Aside0.mk hgr
      have HLN := Aside0.mk (blocksN_length data block l n)
      have HKC : Aside0 (∀ w', Below wr.heap.size wr w' → w'.cell? ⟨G, 4, none⟩ = some (.slice A4 m4 c4)) := ⟨fun w' hb' => (blk (below_heap hb' HBX.out)).1 4⟩
      have HB := Aside0.mk (Below.refl wr.heap.size wr)
      clear hx hown hbox hgr hs
      go_wp2_with fail
      obtain ⟨wl, hwl⟩ : ∃ wl, wl = wr := ⟨_, rfl⟩
      rw [← hwl] at HBX HGN HBR HO HB ⊢
      clear hwl
      refine wp_region_flowPB (fun a b => Below a.heap.size a b) (fun a b => a.grownBy b (Value.slice A4 m4 c4).ownBlock) 9 7 (MkR G A c A4 m4 c4 block x data) (MkP G) (fun v w' => ∃ A n' c, v = .slice A n' c ∧ OwnE w' W.heap.size 0 v (blocksN data block l (n + 1))) [45, 46, 47, 48, 49, 50, 51, 52, 53] (by kernel_rfl) (by kernel_rfl) (by kernel_rfl) (by decide) ((Below.refl _ _).drew) (fun _ _ _ h k => below_step h k) (MkR_st _ _ _ _ _ _ _ _ _) (MkR_pure _ _ _ _ _ _ _ _ _) (fun v w w' h hb => h.elim fun A h => h.elim fun n' h => h.elim fun c h => ⟨A, n', c, h.1, h.2.below hb⟩) (fun _ _ h hb => grown_then h (grown_of_below _ hb)) ?_ ?_ ?_ (.inr (by kernel_rfl)) ?_
      · intro i o hi hne ho aa w' F
        have hlow := F.low
        match i, ho with
        | 0, ho =>
          obtain rfl := Option.some.inj ho
          refine flow_plain rfl rfl ?_
          have f6 : aa.tmps.getD 6 undef = .pointer (some ⟨G, 0, none⟩) := F.out 6 (by kernel_rfl) _ rfl
          refine op_pure (.pointer (some ⟨G, 4, none⟩)) ?_ ⟨_, rfl, Below.refl _ _, rfl⟩
          simp [execOp, Act.eval, go_sem, f6]
        | 1, ho =>
          obtain rfl := Option.some.inj ho
          refine flow_plain rfl rfl ?_
          have f45 : aa.tmps.getD 45 undef = .pointer (some ⟨G, 4, none⟩) := F.of 0 (by kernel_rfl)
          have hc := (blk (below_heap hlow HBX.out)).1
          refine op_pure (.slice A4 m4 c4) ?_ ⟨_, rfl, Below.refl _ _, rfl⟩
          simp [execOp, Act.eval, go_sem, f45, hc]
        | 2, ho =>
          obtain rfl := Option.some.inj ho
          refine flow_plain rfl rfl ?_
          have f0 : aa.tmps.getD 0 undef = .slice A data.length c := F.out 0 (by kernel_rfl) _ rfl
          exact op_move (.tmp 0) rfl ⟨_, rfl, Below.refl _ _, f0⟩
        | 3, ho =>
          obtain rfl := Option.some.inj ho
          refine flow_plain rfl rfl ?_
          have f1 : aa.tmps.getD 1 undef = .int .i64 block := F.out 1 (by kernel_rfl) _ rfl
          exact op_move (.tmp 1) rfl ⟨_, rfl, Below.refl _ _, f1⟩
        | 4, ho =>
          obtain rfl := Option.some.inj ho
          refine flow_plain rfl rfl ?_
          have f9 : aa.tmps.getD 9 undef = .int .i64 x := F.out 9 (by kernel_rfl) _ rfl
          exact op_move (.tmp 9) rfl ⟨_, rfl, Below.refl _ _, f9⟩
        | 5, ho =>
          obtain rfl := Option.some.inj ho
          refine flow_plain rfl rfl ?_
          have f47 : aa.tmps.getD 47 undef = .slice A data.length c := F.of 2 (by kernel_rfl)
          have f48 : aa.tmps.getD 48 undef = .int .i64 block := F.of 3 (by kernel_rfl)
          have f49 : aa.tmps.getD 49 undef = .int .i64 x := F.of 4 (by kernel_rfl)
          refine op_call 25 #[.tmp 47, .tmp 48, .tmp 49] #[22, 3, 3] rfl _ rfl rfl rfl #[.slice A data.length c, .int .i64 block, .int .i64 x] (by simp [Act.eval, f47, f48, f49]) ?_
          refine (block_calls block x _ ((HV.out.below HBR.out).below hlow) HND.out).mono ?_
          rintro e w7 ⟨v7, rfl, hown7, hb7⟩
          exact ⟨_, rfl, _, rfl, hb7, Sl.of_own hown7⟩
        | 6, ho =>
          obtain rfl := Option.some.inj ho
          refine flow_plain rfl rfl ?_
          have f50 : Sl bv 5 w' 0 (aa.tmps.getD 50 undef) (blockL data block x) := F.of 5 (by kernel_rfl)
          refine op_val (.slice (some ⟨w'.heap.size, 0, none⟩) 1 1) (w'.alloc (.cells #[aa.tmps.getD 50 undef] 22)) ?_ ⟨_, rfl, (Below.refl _ _).alloc (Nat.le_refl _) _, _, _, rfl, heap_new rfl, f50.below ((Below.refl _ _).alloc (Nat.le_refl _) _)⟩
          obtain ⟨A7, c7, h7, _⟩ := f50
          have h7' : aa.tmps[50]?.getD undef = .slice A7 (blockL data block x).length c7 := by rw [← Array.getD_eq_getD_getElem?]; exact h7
          simp [execOp, Act.eval, go_sem, h7, h7']
        | 7, ho => exact absurd rfl hne
        | 8, ho =>
          obtain rfl := Option.some.inj ho
          refine flow_plain rfl rfl ?_
          have f6 : aa.tmps.getD 6 undef = .pointer (some ⟨G, 0, none⟩) := F.out 6 (by kernel_rfl) _ rfl
          refine op_pure (.pointer (some ⟨G, 4, none⟩)) ?_ ⟨_, rfl, Below.refl _ _, rfl⟩
          simp [execOp, Act.eval, go_sem, f6]
        | j + 9, ho => omega
      · intro o ho aa w' F
        have hlow := F.low
        obtain rfl := Option.some.inj ho
        refine flow_plain rfl rfl ?_
        have f46 : aa.tmps.getD 46 undef = .slice A4 m4 c4 := F.of 1 (by kernel_rfl)
        obtain ⟨g7, u7, f51, hg7, hs7⟩ : ∃ g u, aa.tmps.getD 51 undef = .slice (some ⟨g, 0, none⟩) 1 1 ∧ w'.heap[g]? = some (.cells #[u] 22 (0, 0)) ∧ Sl bv 5 w' 0 u (blockL data block x) := F.of 6 (by kernel_rfl)
        refine wp_append_list (.tmp 46) (.tmp 51) rfl u7 (blockL data block x) g7 1 22 (0, 0) f46 f51 (HO.out.below hlow) hg7 hs7 (Nat.zero_le _) (by rw [HLN.out]; omega) (Nat.le_trans HGN.out.size hlow.size) ?_
        intro v8 w8 hown8 hg8 hsh8
        obtain ⟨A8, n8, c8, rfl⟩ := hsh8
        refine ⟨_, rfl, grown_then (grown_of_below _ hlow) hg8, _, _, _, rfl, ?_⟩
        rw [blocksN_succ, ← HX.out]; exact hown8
      · intro i o hi hne hrc ho aa w' F
        match i, ho with
        | 0, ho => exact Bool.noConfusion (hrc.symm.trans (show _ = true by kernel_rfl))
        | 1, ho => exact Bool.noConfusion (hrc.symm.trans (show _ = true by kernel_rfl))
        | 2, ho => exact Bool.noConfusion (hrc.symm.trans (show _ = true by kernel_rfl))
        | 3, ho => exact Bool.noConfusion (hrc.symm.trans (show _ = true by kernel_rfl))
        | 4, ho => exact Bool.noConfusion (hrc.symm.trans (show _ = true by kernel_rfl))
        | 5, ho => exact Bool.noConfusion (hrc.symm.trans (show _ = true by kernel_rfl))
        | 6, ho => exact Bool.noConfusion (hrc.symm.trans (show _ = true by kernel_rfl))
        | 7, ho => exact absurd rfl hne
        | 8, ho =>
          obtain rfl := Option.some.inj ho
          refine flow_plain rfl rfl ?_
          have f6 : aa.tmps.getD 6 undef = .pointer (some ⟨G, 0, none⟩) := F.out 6 (by kernel_rfl) _ rfl
          refine op_pure (.pointer (some ⟨G, 4, none⟩)) ?_ ⟨_, rfl, Below.refl _ _, rfl⟩
          simp [execOp, Act.eval, go_sem, f6]
        | j + 9, ho => omega
      · intro vs w' hlow hgot hrs
        refine ⟨fun h => absurd h (by decide), fun _ => ?_⟩
        obtain ⟨A8, n8, c8, f52, hown8⟩ := hrs
        have f53 : vs 8 = .pointer (some ⟨G, 4, none⟩) := hgot 8 (by decide) (by decide)
        have hbW : w'.heap[G]? = some (.cells #[.int .i64 data.length, .int .i64 block, .slice A2 n2 c2, .slice A3 l.length c3, .slice A4 m4 c4] 30 (0, 0)) := (hlow.block G (blk_lt HBX.out) (fun he => by
          have := OwnE.base_le HO.out G he.symm
          have := HGW.out
          omega)).trans HBX.out
        have hc := (blk hbW).1
        have hf := (blk hbW).2
        rw [f52] at hown8
        have H8 := Aside0.mk (And.intro hown8 (And.intro hbW (show W.grownBy w' (some G) from ⟨hlow.os.trans HGN.out.os, hlow.tape.trans HGN.out.tape, hlow.output.trans HGN.out.output, Nat.le_trans HGN.out.size hlow.size, fun k hk hne => (hlow.block k (Nat.lt_of_lt_of_le hk HGN.out.size) (fun he => by
          have := OwnE.base_le HO.out k he.symm
          omega)).trans (HGN.out.block k hk hne)⟩)))
        refine flow_plain rfl rfl ?_
        simp only [putL, Act.put, List.setIfInBounds_toArray, List.set_cons_zero, List.set_cons_succ, Nat.reduceAdd]
        rw [f52, f53]
        refine op_skip (w'.setCell ⟨G, 4, none⟩ (.slice A8 n8 c8)) ?_ ?_
        · simp [execOp, Act.eval, go_sem, hc, hf]
        · clear hgot hlow hown8 hbW hc hf
          go_wp2_with fail
          go_roundw
          case rel => exact ⟨n + 1, by omega, by go_num, ⟨_, _, _, arr_set (i := 4) H8.out.2.1, H8.out.1.keepOff H8.out.2.1 (by decide) (five_no_byte _ _ _ _ _ ⟨_, _, _, rfl⟩ ⟨_, _, _, rfl⟩ ⟨_, _, _, rfl⟩) (grown_set _ _ _ _), grown_then H8.out.2.2 (grown_set _ _ _ _)⟩⟩
          case measure => simp [intOf]; omega
    · have HO := Aside0.mk hown
      have HBX := Aside0.mk hbox
      have HGN := Aside0.mk hgr
      have hnl : n = l.length := by omega
      have HE : Aside0 (OwnE wr W.heap.size 0 (.slice A4 m4 c4) (blocksN data block l l.length)) := ⟨by rw [← hnl]; exact hown⟩
      have hcx := (blk hbox).1
      have hfx := (blk hbox).2
      clear hnl hown hbox hgr hs
      go_wp2_with fail
      have hg5 := put5_grown wr G (.int .i64 data.length) (.int .i64 block) (.slice A2 n2 c2) (.slice A3 l.length c3) (.slice A4 m4 c4)
      have HG3 := Aside0.mk (grown_then (grown_then HGR.out HGN.out) hg5)
      have HG5 := Aside0.mk hg5
      have hnb := Aside0.mk (five_no_byte 0 0 (.slice none 0 0) (.slice none 0 0) (.slice none 0 0) ⟨_, _, _, rfl⟩ ⟨_, _, _, rfl⟩ ⟨_, _, _, rfl⟩)
      have hnb5 := Aside0.mk (five_no_byte data.length block (.slice A2 n2 c2) (.slice A3 l.length c3) (.slice A4 m4 c4) ⟨_, _, _, rfl⟩ ⟨_, _, _, rfl⟩ ⟨_, _, _, rfl⟩)
      clear hg5
      refine bodyPost_ret (v := .tuple #[.agg #[.int .i64 data.length, .int .i64 block, .slice A2 n2 c2, .slice A3 l.length c3, .slice A4 m4 c4], .int .i64 0]) (by simp [results, Try.results7, go_sem, hcx]) rfl ⟨_, _, _, rfl, ⟨⟨_, H3.out.1.off HW3.out hnb.out HG3.out⟩, ⟨0, Sl.of_own (own_off HP3.out HW3.out (by decide) HG3.out)⟩, ⟨_, (HE.out.keepOff HBX.out (by decide) hnb5.out HG5.out).reads⟩⟩, below_grown H3.out.2 H3.out.2.size HG3.out (fun k hk => by cases hk; rw [HGE.out]; exact Nat.le_refl _)⟩
end Go.Proofs.Ytdikconhdbopdaa
