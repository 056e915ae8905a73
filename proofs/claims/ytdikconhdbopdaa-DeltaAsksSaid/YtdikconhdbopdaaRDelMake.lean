/-
  The reference's MakeDelta. No condition but that what comes in can be read and is none too long.
-/
import Derived.Test.YtdikconhdbopdaaDelMake
import Derived.Test.YtdikconhdbopdaaRDelSound
import Derived.Test.YtdikconhdbopdaaMerRoot
namespace Go.Proofs.Ytdikconhdbopdaa
open Go.RowKit
set_option linter.unusedVariables false
set_option linter.unusedSimpArgs false

theorem rising_rb {e b : Nat} {v : Value} {l : List Int} (count : Int) (w : World) (hv : Sl iv e w b v l) :
    Calls Try.prog 26 #[v, .int .i64 count] w fun e w' => e = .returned (.bool (risL l count)) ∧ Below w.heap.size w w' := (rising_ref count w hv).mono fun e w' ⟨a, n, b⟩ => ⟨a, by rw [b]; exact below_drewN (Below.refl _ _) _⟩

set_option maxHeartbeats 2000000 in
theorem rdmake_bad {b0 b1 : Nat} {v vl : Value} {data : List UInt8} {l : List Int} (block : Int) (w : World) (hv : Sl bv 5 w b0 v data) (hl : Sl iv 3 w b1 vl l) (hd : data.length ≤ 2000) (hb : -9223372036854775808 ≤ block ∧ block ≤ 9223372036854775807)
    (hm : (mayD block && risL l (cnt data.length block)) = false) :
    Calls Try.prog 8 #[v, .int .i64 block, vl] w fun e w' => e = .returned (.tuple #[.agg #[.int .i64 0, .int .i64 0, .slice none 0 0, .slice none 0 0, .slice none 0 0], .int .i64 1]) ∧ Below w.heap.size w w' := by
  have HL := Aside0.mk hl
  obtain ⟨A, c, rfl, hc, hlv, _⟩ := hv
  obtain ⟨Al, cl, rfl, _, hml, _⟩ := hl
  have HB1 : Aside0 (∀ o, Below w.heap.size w (w.alloc o)) := ⟨fun o => (Below.refl _ _).alloc (Nat.le_refl _) _⟩
  by_cases h1 : block < 16
  · have d1 : decide (block < 16) = true := decide_eq_true h1
    clear hm
    go_enter Try.func8, Try.ntmps8
    go_wp2_with fail
    exact bodyPost_ret (v := .tuple #[.agg #[.int .i64 0, .int .i64 0, .slice none 0 0, .slice none 0 0, .slice none 0 0], .int .i64 1]) (by simp [results, Try.results8, go_sem]) rfl ⟨rfl, HB1.out _⟩
  · have d1 : decide (block < 16) = false := decide_eq_false h1
    by_cases h2 : 4096 < block
    · have d2 : decide (4096 < block) = true := decide_eq_true h2
      clear hm
      go_enter Try.func8, Try.ntmps8
      go_wp2_with fail
      exact bodyPost_ret (v := .tuple #[.agg #[.int .i64 0, .int .i64 0, .slice none 0 0, .slice none 0 0, .slice none 0 0], .int .i64 1]) (by simp [results, Try.results8, go_sem]) rfl ⟨rfl, HB1.out _⟩
    · have d2 : decide (4096 < block) = false := decide_eq_false h2
      have HR : Aside0 (risL l (cnt data.length block) = false) := ⟨by rw [mayD_iff.2 (by omega), Bool.true_and] at hm; exact hm⟩
      have HBB := Aside0.mk hb
      clear hm hb
      go_enter Try.func8, Try.ntmps8
      go_wp2_with fail
      refine (rcount_calls _ _ _ (by omega) HBB.out).mono ?_
      rintro e w' ⟨rfl, rfl⟩
      go_wp2_with fail
      refine (rising_rb _ _ (HL.out.below (HB1.out _))).mono ?_
      rintro e w1 ⟨rfl, hb1⟩
      rw [HR.out]
      have hc1 := (blk (below_heap hb1 (heap_new rfl))).1
      have hf1 := (blk (below_heap hb1 (heap_new rfl))).2
      have HB2 := Aside0.mk (And.intro (below_step (HB1.out _) hb1) (below_heap hb1 (heap_new rfl)))
      clear hb1
      go_wp2_with fail
      exact bodyPost_ret (v := .tuple #[.agg #[.int .i64 0, .int .i64 0, .slice none 0 0, .slice none 0 0, .slice none 0 0], .int .i64 1]) (by simp [results, Try.results8, go_sem, hc1]) rfl ⟨rfl, below_grown HB2.out.1 HB2.out.1.size (put5_grown _ _ _ _ _ _ _) (fun k hk => by cases hk; exact Nat.le_refl _)⟩

/-- What each slot of the region that appends a block holds. -/
def RMkR (G : Nat) (A : Option Addr) (c : Nat) (adl : Addr) (nl cl n : Nat) (A4 : Option Addr) (m4 c4 : Nat) (block x : Int) (data : List UInt8) (eb : Nat) : Nat → Value → World → Prop
  | 0, v, w => v = .pointer (some ⟨G, 4, none⟩)
  | 1, v, w => v = .slice A4 m4 c4
  | 2, v, w => v = .slice A data.length c
  | 3, v, w => v = .int .i64 block
  | 4, v, w => v = .slice (some adl) nl cl
  | 5, v, w => v = .int .i64 n
  | 6, v, w => v = .pointer (some (adl.add n))
  | 7, v, w => v = .int .i64 x
  | 8, v, w => Sl bv 5 w eb v (blockL data block x)
  | 9, v, w => ∃ g u, v = .slice (some ⟨g, 0, none⟩) 1 1 ∧ w.heap[g]? = some (.cells #[u] 22 (0, 0)) ∧ Sl bv 5 w eb u (blockL data block x)
  | 10, v, w => True
  | 11, v, w => v = .pointer (some ⟨G, 4, none⟩)
  | _, _, _ => True
def RMkP (G : Nat) : Nat → Value → Prop
  | 11, v => v = .pointer (some ⟨G, 4, none⟩)
  | _, _ => True
theorem RMkR_st (G : Nat) (A : Option Addr) (c : Nat) (adl : Addr) (nl cl n : Nat) (A4 : Option Addr) (m4 c4 : Nat) (block x : Int) (data : List UInt8) (eb : Nat) : ∀ i v w w', RMkR G A c adl nl cl n A4 m4 c4 block x data eb i v w → Below w.heap.size w w' → RMkR G A c adl nl cl n A4 m4 c4 block x data eb i v w'
  | 0, v, w, w', h, hb => h
  | 1, v, w, w', h, hb => h
  | 2, v, w, w', h, hb => h
  | 3, v, w, w', h, hb => h
  | 4, v, w, w', h, hb => h
  | 5, v, w, w', h, hb => h
  | 6, v, w, w', h, hb => h
  | 7, v, w, w', h, hb => h
  | 8, v, w, w', h, hb => Sl.below h hb
  | 9, v, w, w', h, hb => h.elim fun g h => h.elim fun u h => ⟨g, u, h.1, below_heap hb h.2.1, h.2.2.below hb⟩
  | 10, v, w, w', h, hb => trivial
  | 11, v, w, w', h, hb => h
  | _ + 12, _, _, _, _, _ => trivial
theorem RMkR_pure (G : Nat) (A : Option Addr) (c : Nat) (adl : Addr) (nl cl n : Nat) (A4 : Option Addr) (m4 c4 : Nat) (block x : Int) (data : List UInt8) (eb : Nat) : ∀ i v w, RMkR G A c adl nl cl n A4 m4 c4 block x data eb i v w → RMkP G i v
  | 0, v, w, h => trivial
  | 1, v, w, h => trivial
  | 2, v, w, h => trivial
  | 3, v, w, h => trivial
  | 4, v, w, h => trivial
  | 5, v, w, h => trivial
  | 6, v, w, h => trivial
  | 7, v, w, h => trivial
  | 8, v, w, h => trivial
  | 9, v, w, h => trivial
  | 10, v, w, h => trivial
  | 11, v, w, h => h
  | _ + 12, _, _, _ => trivial

set_option maxHeartbeats 8000000 in
set_option maxRecDepth 100000 in
theorem rdmake_good {b0 b1 : Nat} {v vl : Value} {data : List UInt8} {l : List Int} (block : Int) (w : World) (hv : Sl bv 5 w b0 v data) (hl : Sl iv 3 w b1 vl l) (hd : data.length ≤ 2000)
    (hm : mayD block = true) (hri : risL l (cnt data.length block) = true) :
    Calls Try.prog 8 #[v, .int .i64 block, vl] w fun e w' => ∃ vr vl' vb, e = .returned (.tuple #[.agg #[.int .i64 data.length, .int .i64 block, vr, vl', vb], .int .i64 0]) ∧ DelR w' vr vl' vb (rootL (leavesL data block)) l (blocksN data block l l.length) ∧ Below w.heap.size w w' := by
  have HL := Aside0.mk hl
  have HV := Aside0.mk hv
  have hll : (l.length : Int) ≤ 1048576 := by
    have h1 := cnt_bd data.length block
    have h2 := risL_len hri h1.1
    omega
  obtain ⟨A, c, rfl, hc, hlv, _⟩ := hv
  obtain ⟨Al, cl, rfl, _, hml, _⟩ := hl
  have HB1 : Aside0 (∀ o, Below w.heap.size w (w.alloc o)) := ⟨fun o => (Below.refl _ _).alloc (Nat.le_refl _) _⟩
  have HM := Aside0.mk hm
  have HRI := Aside0.mk hri
  have HBK := Aside0.mk (mayD_iff.1 hm)
  have HND : Aside0 (-9223372036854775808 ≤ block ∧ block ≤ 9223372036854775807) := ⟨by have := HBK.out; omega⟩
  have d8 : decide (8192 < data.length) = false := decide_eq_false (by omega)
  have d8' : decide ((8192 : Int) < (data.length : Int)) = false := decide_eq_false (by omega)
  clear hm hri
  have HVO := Aside0.mk (HV.out.old (e' := 5) (Nat.le_refl w.heap.size))
  have d1 : decide (block < 16) = false := decide_eq_false (by have := HBK.out; omega)
  have d2 : decide (4096 < block) = false := decide_eq_false (by have := HBK.out; omega)
  have g1 : ¬ block < 16 := by have := HBK.out; omega
  have g2 : ¬ 4096 < block := by have := HBK.out; omega
  go_enter Try.func8, Try.ntmps8
  go_wp2_with fail
  refine (rcount_calls _ _ _ (by omega) HND.out).mono ?_
  rintro e w' ⟨rfl, rfl⟩
  go_wp2_with fail
  refine (rising_rb _ _ (HL.out.below (HB1.out _))).mono ?_
  rintro e w0 ⟨rfl, hb0⟩
  rw [HRI.out]
  have HB0 := Aside0.mk (below_step (HB1.out _) hb0)
  have HG0 := Aside0.mk (below_heap hb0 (heap_new rfl))
  clear hb0
  go_wp2_with fail
  refine (rleaves_calls block _ (HV.out.below HB0.out) HND.out (by omega)).mono ?_
  rintro e w1 ⟨v1, rfl, ho1, hb1⟩
  obtain ⟨A1, c1, rfl, _, _⟩ := ho1.reads.shape
  have H1 := Aside0.mk (And.intro ho1 (below_step HB0.out hb1))
  have HGW := Aside0.mk (below_heap hb1 HG0.out)
  obtain ⟨n1, hn1⟩ : ∃ n, (leavesL data block).length = n := ⟨_, rfl⟩
  rw [hn1] at H1 ⊢
  clear ho1 hn1 hb1
  go_wp2_with fail
  have HFT := Aside0.mk (leaves_fit data block)
  refine (rroot_calls _ (H1.out.1.reads.old (Nat.le_refl _)) (Nat.le_refl _) HFT.out).mono ?_
  rintro e w2 ⟨v2, rfl, hs2, hb2⟩
  have H2 := Aside0.mk (below_step H1.out.2 hb2)
  have HR2 := Aside0.mk hs2
  have HGW2 := Aside0.mk (below_heap hb2 HGW.out)
  obtain ⟨A2, c2, rfl, _⟩ := hs2
  obtain ⟨n2, hn2⟩ : ∃ n, (rootL (leavesL data block)).length = n := ⟨_, rfl⟩
  rw [hn2] at HR2 ⊢
  clear hb2 hn2 HGW H1
  go_wp2_with fail
  obtain ⟨G, hG⟩ : ∃ G, G = w2.heap.size := ⟨_, rfl⟩
  obtain ⟨W, hW⟩ : ∃ W, W = w2.alloc (.cells #[.int .i64 data.length, .int .i64 block, .slice A2 n2 c2, .slice Al l.length cl, .slice none 0 0] 26) := ⟨_, rfl⟩
  have HBW0 := Aside0.mk (show Below w.heap.size w W by rw [hW]; exact H2.out.alloc H2.out.size _)
  have HRW := Aside0.mk (show Sl bv 5 W w1.heap.size (.slice A2 n2 c2) (rootL (leavesL data block)) by rw [hW]; exact HR2.out.below ((Below.refl _ _).alloc (Nat.le_refl _) _))
  have HWB := Aside0.mk (show W.heap[G]? = some (.cells #[.int .i64 data.length, .int .i64 block, .slice A2 n2 c2, .slice Al l.length cl, .slice none 0 0] 26 (0, 0)) by rw [hW, hG]; exact heap_new rfl)
  have HW0 := Aside0.mk (show W.heap[w.heap.size]? = some (.cells #[.int .i64 0, .int .i64 0, .slice none 0 0, .slice none 0 0, .slice none 0 0] 26 (0, 0)) by rw [hW]; exact heap_old HGW2.out)
  have HGE := Aside0.mk (show w.heap.size < G by rw [hG]; exact blk_lt HGW2.out)
  rw [← hW]
  rw [← hG]
  have HGW := Aside0.mk (blk_lt HWB.out)
  have HBW : Aside0 (∀ wr, W.grownBy wr (some G) → Below w.heap.size w wr) := ⟨fun wr h => below_grown HBW0.out HBW0.out.size h (fun k hk => by cases hk; exact Nat.le_of_lt HGE.out)⟩
  clear hW hG
  go_loopw [9] (fun i wr => ∃ n : Nat, n ≤ l.length ∧ i = .int .i64 n ∧ Aside0 (DMk W wr G 26 data.length block (.slice A2 n2 c2) (.slice Al l.length cl) data block l w.heap.size n)) (fun i wr => l.length - (intOf i).toNat)
  case atStart => exact ⟨0, Nat.zero_le _, rfl, ⟨none, 0, 0, HWB.out, OwnE.nil _ _ _, World.grownBy.refl _ _⟩⟩
  case round =>
    obtain ⟨n, hn, rfl, hs⟩ := hrel
    obtain ⟨A4, m4, c4, hbox, hown, hgr⟩ := hs.out
    have HBR := Aside0.mk (HBW.out _ hgr)
    by_cases hlt : n < l.length
    · obtain ⟨adl, hAl, hcl⟩ := (HL.out.below HBR.out).nth n hlt
      subst hAl
      obtain ⟨x, hx⟩ : ∃ x, x = l.getD n 0 := ⟨_, rfl⟩
      rw [← hx] at hcl
      have HX := Aside0.mk hx
      have HO := Aside0.mk hown
      have HBX := Aside0.mk hbox
      have HGN := Aside0.mk hgr
      have HLN := Aside0.mk (blocksN_length data block l n)
      have HKC : Aside0 (∀ w', Below wr.heap.size wr w' → w'.cell? ⟨G, 4, none⟩ = some (.slice A4 m4 c4)) := ⟨fun w' hb' => (blk (below_heap hb' HBX.out)).1 4⟩
      have HB := Aside0.mk (Below.refl wr.heap.size wr)
      have HCL := Aside0.mk hcl
      clear hx hown hbox hgr hs
      go_wp2_with fail
      obtain ⟨wl, hwl⟩ : ∃ wl, wl = wr := ⟨_, rfl⟩
      rw [← hwl] at HBX HGN HBR HO HB HCL ⊢
      clear hwl
      have z1 : (0 : Int) ≤ (n : Int) := by omega
      have z2 : (n : Int) < l.length := by omega
      refine wp_region_flowPB (fun a b => Below a.heap.size a b) (fun a b => a.grownBy b (Value.slice A4 m4 c4).ownBlock) 12 10 (RMkR G A c adl l.length cl n A4 m4 c4 block x data w.heap.size) (RMkP G) (fun v w' => ∃ A n' c, v = .slice A n' c ∧ OwnE w' W.heap.size w.heap.size v (blocksN data block l (n + 1))) [45, 46, 47, 48, 49, 50, 51, 52, 53, 54, 55, 56] (by kernel_rfl) (by kernel_rfl) (by kernel_rfl) (by decide) ((Below.refl _ _).drew) (fun _ _ _ h k => below_step h k) (RMkR_st _ _ _ _ _ _ _ _ _ _ _ _ _ _) (RMkR_pure _ _ _ _ _ _ _ _ _ _ _ _ _ _) (fun v w w' h hb => h.elim fun A h => h.elim fun n' h => h.elim fun c h => ⟨A, n', c, h.1, h.2.below hb⟩) (fun _ _ h hb => grown_then h (grown_of_below _ hb)) ?_ ?_ ?_ (.inr (by kernel_rfl)) ?_
      · intro i o hi hne ho aa w' F
        have hlow := F.low
        match i, ho with
        | 0, ho =>
          obtain rfl := Option.some.inj ho
          refine flow_plain rfl rfl ?_
          have f8 : aa.tmps.getD 8 undef = .pointer (some ⟨G, 0, none⟩) := F.out 8 (by kernel_rfl) _ rfl
          refine op_pure (.pointer (some ⟨G, 4, none⟩)) ?_ ⟨_, rfl, Below.refl _ _, rfl⟩
          simp [execOp, Act.eval, go_sem, f8]
        | 1, ho =>
          obtain rfl := Option.some.inj ho
          refine flow_plain rfl rfl ?_
          have f45 : aa.tmps.getD 45 undef = .pointer (some ⟨G, 4, none⟩) := F.of 0 (by kernel_rfl)
          have hc := (blk (below_heap hlow HBX.out)).1
          refine op_pure (.slice A4 m4 c4) ?_ ⟨_, rfl, Below.refl _ _, rfl⟩
          simp [execOp, Act.eval, go_sem, f45, hc]
        | 2, ho =>
          obtain rfl := Option.some.inj ho
          refine flow_plain rfl rfl ?_
          have f : aa.tmps.getD 0 undef = .slice A data.length c := F.out 0 (by kernel_rfl) _ rfl
          exact op_move (.tmp 0) rfl ⟨_, rfl, Below.refl _ _, f⟩
        | 3, ho =>
          obtain rfl := Option.some.inj ho
          refine flow_plain rfl rfl ?_
          have f : aa.tmps.getD 1 undef = .int .i64 block := F.out 1 (by kernel_rfl) _ rfl
          exact op_move (.tmp 1) rfl ⟨_, rfl, Below.refl _ _, f⟩
        | 4, ho =>
          obtain rfl := Option.some.inj ho
          refine flow_plain rfl rfl ?_
          have f : aa.tmps.getD 2 undef = .slice (some adl) l.length cl := F.out 2 (by kernel_rfl) _ rfl
          exact op_move (.tmp 2) rfl ⟨_, rfl, Below.refl _ _, f⟩
        | 5, ho =>
          obtain rfl := Option.some.inj ho
          refine flow_plain rfl rfl ?_
          have f : aa.tmps.getD 9 undef = .int .i64 n := F.out 9 (by kernel_rfl) _ rfl
          exact op_move (.tmp 9) rfl ⟨_, rfl, Below.refl _ _, f⟩
        | 6, ho =>
          obtain rfl := Option.some.inj ho
          refine flow_plain rfl rfl ?_
          have f49 : aa.tmps.getD 49 undef = .slice (some adl) l.length cl := F.of 4 (by kernel_rfl)
          have f50 : aa.tmps.getD 50 undef = .int .i64 n := F.of 5 (by kernel_rfl)
          refine op_pure (.pointer (some (adl.add n))) ?_ ⟨_, rfl, Below.refl _ _, rfl⟩
          simp [execOp, Act.eval, go_sem, f49, f50, z1, z2]
        | 7, ho =>
          obtain rfl := Option.some.inj ho
          refine flow_plain rfl rfl ?_
          have f51 : aa.tmps.getD 51 undef = .pointer (some (adl.add n)) := F.of 6 (by kernel_rfl)
          have hc := cell_keep hlow HCL.out
          refine op_pure (.int .i64 x) ?_ ⟨_, rfl, Below.refl _ _, rfl⟩
          simp [execOp, Act.eval, go_sem, f51, hc]
        | 8, ho =>
          obtain rfl := Option.some.inj ho
          refine flow_plain rfl rfl ?_
          have f47 : aa.tmps.getD 47 undef = .slice A data.length c := F.of 2 (by kernel_rfl)
          have f48 : aa.tmps.getD 48 undef = .int .i64 block := F.of 3 (by kernel_rfl)
          have f52 : aa.tmps.getD 52 undef = .int .i64 x := F.of 7 (by kernel_rfl)
          refine op_call 30 #[.tmp 47, .tmp 48, .tmp 52] #[22, 3, 3] rfl _ rfl rfl rfl #[.slice A data.length c, .int .i64 block, .int .i64 x] (by simp [Act.eval, f47, f48, f52]) ?_
          refine (rblock_calls block x _ ((HVO.out.below HBR.out).below hlow) HND.out).mono ?_
          rintro e w7 ⟨v7, rfl, hs7, rfl⟩
          exact ⟨_, rfl, _, rfl, Below.refl _ _, hs7⟩
        | 9, ho =>
          obtain rfl := Option.some.inj ho
          refine flow_plain rfl rfl ?_
          have f53 : Sl bv 5 w' w.heap.size (aa.tmps.getD 53 undef) (blockL data block x) := F.of 8 (by kernel_rfl)
          refine op_val (.slice (some ⟨w'.heap.size, 0, none⟩) 1 1) (w'.alloc (.cells #[aa.tmps.getD 53 undef] 22)) ?_ ⟨_, rfl, (Below.refl _ _).alloc (Nat.le_refl _) _, _, _, rfl, heap_new rfl, f53.below ((Below.refl _ _).alloc (Nat.le_refl _) _)⟩
          obtain ⟨A7, c7, h7, _⟩ := f53
          have h7' : aa.tmps[53]?.getD undef = .slice A7 (blockL data block x).length c7 := by rw [← Array.getD_eq_getD_getElem?]; exact h7
          simp [execOp, Act.eval, go_sem, h7, h7']
        | 10, ho => exact absurd rfl hne
        | 11, ho =>
          obtain rfl := Option.some.inj ho
          refine flow_plain rfl rfl ?_
          have f8 : aa.tmps.getD 8 undef = .pointer (some ⟨G, 0, none⟩) := F.out 8 (by kernel_rfl) _ rfl
          refine op_pure (.pointer (some ⟨G, 4, none⟩)) ?_ ⟨_, rfl, Below.refl _ _, rfl⟩
          simp [execOp, Act.eval, go_sem, f8]
        | j + 12, ho => omega
      · intro o ho aa w' F
        have hlow := F.low
        obtain rfl := Option.some.inj ho
        refine flow_plain rfl rfl ?_
        have f46 : aa.tmps.getD 46 undef = .slice A4 m4 c4 := F.of 1 (by kernel_rfl)
        obtain ⟨g7, u7, f54, hg7, hs7⟩ : ∃ g u, aa.tmps.getD 54 undef = .slice (some ⟨g, 0, none⟩) 1 1 ∧ w'.heap[g]? = some (.cells #[u] 22 (0, 0)) ∧ Sl bv 5 w' w.heap.size u (blockL data block x) := F.of 9 (by kernel_rfl)
        refine wp_append_list (.tmp 46) (.tmp 54) rfl u7 (blockL data block x) g7 1 22 (0, 0) f46 f54 (HO.out.below hlow) hg7 hs7 HBW0.out.size (by rw [HLN.out]; omega) (Nat.le_trans HGN.out.size hlow.size) ?_
        intro v8 w8 hown8 hg8 hsh8
        obtain ⟨A8, n8, c8, rfl⟩ := hsh8
        refine ⟨_, rfl, grown_then (grown_of_below _ hlow) hg8, _, _, _, rfl, ?_⟩
        rw [blocksN_succ, ← HX.out]; exact hown8
      · intro i o hi hne hrc ho aa w' F
        match i, ho with
        | 0, ho => exact Bool.noConfusion (hrc.symm.trans (show _ = true by kernel_rfl))
        | 1, ho => exact Bool.noConfusion (hrc.symm.trans (show _ = true by kernel_rfl))
        | 2, ho => exact Bool.noConfusion (hrc.symm.trans (show _ = true by kernel_rfl))
        | 3, ho => exact Bool.noConfusion (hrc.symm.trans (show _ = true by kernel_rfl))
        | 4, ho => exact Bool.noConfusion (hrc.symm.trans (show _ = true by kernel_rfl))
        | 5, ho => exact Bool.noConfusion (hrc.symm.trans (show _ = true by kernel_rfl))
        | 6, ho => exact Bool.noConfusion (hrc.symm.trans (show _ = true by kernel_rfl))
        | 7, ho => exact Bool.noConfusion (hrc.symm.trans (show _ = true by kernel_rfl))
        | 8, ho => exact Bool.noConfusion (hrc.symm.trans (show _ = true by kernel_rfl))
        | 9, ho => exact Bool.noConfusion (hrc.symm.trans (show _ = true by kernel_rfl))
        | 10, ho => exact absurd rfl hne
        | 11, ho =>
          obtain rfl := Option.some.inj ho
          refine flow_plain rfl rfl ?_
          have f8 : aa.tmps.getD 8 undef = .pointer (some ⟨G, 0, none⟩) := F.out 8 (by kernel_rfl) _ rfl
          refine op_pure (.pointer (some ⟨G, 4, none⟩)) ?_ ⟨_, rfl, Below.refl _ _, rfl⟩
          simp [execOp, Act.eval, go_sem, f8]
        | j + 12, ho => omega
      · intro vs w' hlow hgot hrs
        refine ⟨fun h => absurd h (by decide), fun _ => ?_⟩
        obtain ⟨A8, n8, c8, f52, hown8⟩ := hrs
        have f53 : vs 11 = .pointer (some ⟨G, 4, none⟩) := hgot 11 (by decide) (by decide)
        have hbW : w'.heap[G]? = some (.cells #[.int .i64 data.length, .int .i64 block, .slice A2 n2 c2, .slice (some adl) l.length cl, .slice A4 m4 c4] 26 (0, 0)) := (hlow.block G (blk_lt HBX.out) (fun he => by
          have := OwnE.base_le HO.out G he.symm
          have := HGW.out
          omega)).trans HBX.out
        have hc := (blk hbW).1
        have hf := (blk hbW).2
        rw [f52] at hown8
        have H8 := Aside0.mk (And.intro hown8 (And.intro hbW (show W.grownBy w' (some G) from ⟨hlow.os.trans HGN.out.os, hlow.tape.trans HGN.out.tape, hlow.output.trans HGN.out.output, Nat.le_trans HGN.out.size hlow.size, fun k hk hne => (hlow.block k (Nat.lt_of_lt_of_le hk HGN.out.size) (fun he => by
          have := OwnE.base_le HO.out k he.symm
          omega)).trans (HGN.out.block k hk hne)⟩)))
        refine flow_plain rfl rfl ?_
        simp only [putL, Act.put, List.setIfInBounds_toArray, List.set_cons_zero, List.set_cons_succ, Nat.reduceAdd]
        rw [f52, f53]
        refine op_skip (w'.setCell ⟨G, 4, none⟩ (.slice A8 n8 c8)) ?_ ?_
        · simp [execOp, Act.eval, go_sem, hc, hf]
        · clear hgot hlow hown8 hbW hc hf
          go_wp2_with fail
          go_roundw
          case rel => exact ⟨n + 1, by omega, by go_num, ⟨_, _, _, arr_set (i := 4) H8.out.2.1, H8.out.1.keepOff H8.out.2.1 (by decide) (five_no_byte _ _ _ _ _ ⟨_, _, _, rfl⟩ ⟨_, _, _, rfl⟩ ⟨_, _, _, rfl⟩) (grown_set _ _ _ _), grown_then H8.out.2.2 (grown_set _ _ _ _)⟩⟩
          case measure => simp [intOf]; omega
    · have HO := Aside0.mk hown
      have HBX := Aside0.mk hbox
      have HGN := Aside0.mk hgr
      have hnl : n = l.length := by omega
      have HE : Aside0 (OwnE wr W.heap.size w.heap.size (.slice A4 m4 c4) (blocksN data block l l.length)) := ⟨by rw [← hnl]; exact hown⟩
      have hcx := (blk hbox).1
      have hfx := (blk hbox).2
      clear hnl hown hbox hgr hs
      have HG3 := Aside0.mk HGN.out
      have h0b := HGN.out.block w.heap.size (blk_lt HW0.out) (fun he => by have := HGE.out; cases he; omega)
      have h0 := h0b.trans HW0.out
      have H0 := Aside0.mk h0
      have hc0 := (blk h0).1
      have hf0 := (blk h0).2
      have hg5 := put5_grown wr w.heap.size (.int .i64 data.length) (.int .i64 block) (.slice A2 n2 c2) (.slice Al l.length cl) (.slice A4 m4 c4)
      have HG5 := Aside0.mk hg5
      have hnb := Aside0.mk (five_no_byte 0 0 (.slice none 0 0) (.slice none 0 0) (.slice none 0 0) ⟨_, _, _, rfl⟩ ⟨_, _, _, rfl⟩ ⟨_, _, _, rfl⟩)
      have hnb5 := Aside0.mk (five_no_byte data.length block (.slice A2 n2 c2) (.slice Al l.length cl) (.slice none 0 0) ⟨_, _, _, rfl⟩ ⟨_, _, _, rfl⟩ ⟨_, _, _, rfl⟩)
      have HRR := Aside0.mk ((HRW.out.off HWB.out hnb5.out HGN.out).off h0 hnb.out hg5)
      have HBE := Aside0.mk (below_grown HBR.out HBR.out.size hg5 (fun k hk => by cases hk; exact Nat.le_refl _))
      clear hg5 h0 h0b
      go_wp2_with fail
      refine bodyPost_ret (v := .tuple #[.agg #[.int .i64 data.length, .int .i64 block, .slice A2 n2 c2, .slice Al l.length cl, .slice A4 m4 c4], .int .i64 0]) (by simp [results, Try.results8, go_sem, hcx, hc0]) rfl ⟨_, _, _, rfl, ⟨⟨_, HRR.out⟩, ⟨_, HL.out.below HBE.out⟩, ⟨_, (HE.out.keepOff H0.out (by decide) hnb.out HG5.out).reads⟩⟩, HBE.out⟩
end Go.Proofs.Ytdikconhdbopdaa
