/-
  delta.Apply: blocks laid over an elder text. No condition but that what comes in can be read.
-/
import Derived.Test.YtdikconhdbopdaaDelMake
import Derived.Test.YtdikconhdbopdaaSFit
import Derived.Test.YtdikconhdbopdaaCopyWp
import Derived.Test.YtdikconhdbopdaaFlowP
import Derived.Deep.RegionHeld3
namespace Go.Proofs.Ytdikconhdbopdaa
open Go.RowKit
set_option linter.unusedVariables false
set_option linter.unusedSimpArgs false

/-- Bytes, and a number. -/
def DelAns (w : World) (E : Int) (X : List UInt8) (e : Ending) (w' : World) : Prop := ∃ v' b, e = .returned (.tuple #[v', .int .i64 E]) ∧ Sl bv 5 w' b v' X ∧ Below w.heap.size w w'
/-- What a delta makes of a text. -/
def putAll (size block : Int) (l : List Int) (bs : List (List UInt8)) (old : List UInt8) : List UInt8 := putN (fitL old size.toNat) block l bs l.length
def applyE (size block : Int) (root : List UInt8) (l : List Int) (bs : List (List UInt8)) (old : List UInt8) : Int := if soundD size block root l bs = true then (if (rootL (leavesL (putAll size block l bs old) block) == root) = true then 0 else 2) else 1
def applyL (size block : Int) (root : List UInt8) (l : List Int) (bs : List (List UInt8)) (old : List UInt8) : List UInt8 := if soundD size block root l bs = true then (if (rootL (leavesL (putAll size block l bs old) block) == root) = true then putAll size block l bs old else []) else []
theorem soundD_get {size block : Int} {root : List UInt8} {l : List Int} {bs : List (List UInt8)} (h : soundD size block root l bs = true) : 0 ≤ size ∧ size ≤ 8192 ∧ mayD block = true ∧ (l.length : Int) = bs.length ∧ risL l (cnt size block) = true ∧ lensN size block l bs l.length = true := by
  simp only [soundD, Bool.and_eq_true, decide_eq_true_eq, beq_iff_eq] at h
  exact ⟨h.1, h.2.1, h.2.2.1, h.2.2.2.2.1, h.2.2.2.2.2.1, h.2.2.2.2.2.2⟩
theorem putN_length (x : List UInt8) (block : Int) (l : List Int) (bs : List (List UInt8)) : ∀ n, (∀ i, i < n → (l.getD i 0 * block).toNat ≤ x.length) → (putN x block l bs n).length = x.length
  | 0, _ => rfl
  | n + 1, h => by
    have h1 := putN_length x block l bs n (fun i hi => h i (by omega))
    rw [putN, splB_length _ _ _ (by rw [h1]; exact h n (by omega))]
    exact h1

section
set_option maxRecDepth 100000
/-- What each slot of the region holds. -/
def ApR (G g : Nat) (block p : Int) (q sz cap : Nat) (Ar : Option Addr) (ad adl : Addr) (nr nl nb cr cl cb n : Nat) (Au : Option Addr) (xl cu : Nat) : Nat → Value → World → Prop
  | 0, v, w => v = .slice (some ⟨g, 0, none⟩) sz cap
  | 1, v, w => v = .int .i64 p
  | 2, v, w => v = .pointer (some ⟨G, 1, none⟩)
  | 3, v, w => v = .int .i64 block
  | 4, v, w => v = .int .i64 q
  | 5, v, w => v = .slice (some ⟨g, q, none⟩) (sz - q) (cap - q)
  | 6, v, w => v = .pointer (some ⟨G, 4, none⟩)
  | 7, v, w => v = .slice (some ad) nb cb
  | 8, v, w => v = .int .i64 n
  | 9, v, w => v = .pointer (some (ad.add n))
  | 10, v, w => v = .slice Au xl cu
  | 11, v, w => True
  | _, _, _ => True
theorem ApR_st (G g : Nat) (block p : Int) (q sz cap : Nat) (Ar : Option Addr) (ad adl : Addr) (nr nl nb cr cl cb n : Nat) (Au : Option Addr) (xl cu : Nat) : ∀ i v w w', ApR G g block p q sz cap Ar ad adl nr nl nb cr cl cb n Au xl cu i v w → Below w.heap.size w w' → ApR G g block p q sz cap Ar ad adl nr nl nb cr cl cb n Au xl cu i v w'
  | 0, v, w, w', h, hb => h
  | 1, v, w, w', h, hb => h
  | 2, v, w, w', h, hb => h
  | 3, v, w, w', h, hb => h
  | 4, v, w, w', h, hb => h
  | 5, v, w, w', h, hb => h
  | 6, v, w, w', h, hb => h
  | 7, v, w, w', h, hb => h
  | 8, v, w, w', h, hb => h
  | 9, v, w, w', h, hb => h
  | 10, v, w, w', h, hb => h
  | 11, v, w, w', h, hb => trivial
  | _ + 12, _, _, _, _, _ => trivial
def ApR_p (G g : Nat) (block p : Int) (q sz cap : Nat) (Ar : Option Addr) (ad adl : Addr) (nr nl nb cr cl cb n : Nat) (Au : Option Addr) (xl cu : Nat) : Nat → Value → Prop
  | _, _ => True
theorem ApR_pure (G g : Nat) (block p : Int) (q sz cap : Nat) (Ar : Option Addr) (ad adl : Addr) (nr nl nb cr cl cb n : Nat) (Au : Option Addr) (xl cu : Nat) : ∀ i v w, ApR G g block p q sz cap Ar ad adl nr nl nb cr cl cb n Au xl cu i v w → ApR_p G g block p q sz cap Ar ad adl nr nl nb cr cl cb n Au xl cu i v
  | 0, v, w, h => trivial
  | 1, v, w, h => trivial
  | 2, v, w, h => trivial
  | 3, v, w, h => trivial
  | 4, v, w, h => trivial
  | 5, v, w, h => trivial
  | 6, v, w, h => trivial
  | 7, v, w, h => trivial
  | 8, v, w, h => trivial
  | 9, v, w, h => trivial
  | 10, v, w, h => trivial
  | 11, v, w, h => trivial
  | _ + 12, _, _, _ => trivial
end
set_option maxHeartbeats 8000000 in
set_option maxRecDepth 100000 in
theorem dapply_calls {b0 : Nat} {v vr vl vb : Value} {old root : List UInt8} {l : List Int} {bs : List (List UInt8)} (size block : Int) (w : World) (hv : Sl bv 5 w b0 v old) (h : DelR w vr vl vb root l bs) :
    Calls Try.prog 9 #[v, .agg #[.int .i64 size, .int .i64 block, vr, vl, vb]] w fun e w' => DelAns w (applyE size block root l bs old) (applyL size block root l bs old) e w' := by
  have HD := Aside0.mk h
  have HV := Aside0.mk hv
  obtain ⟨⟨br, hr⟩, ⟨bl, hl⟩, ⟨bb, hbb⟩⟩ := h
  have HR := Aside0.mk hr
  have HL := Aside0.mk hl
  have HBS := Aside0.mk (hbb.old (Nat.le_refl _))
  obtain ⟨Ar, cr, rfl, _, hmr, _⟩ := hr
  obtain ⟨Al, cl, rfl, _, hml, _⟩ := hl
  obtain ⟨Ab, cb, rfl, _, hmb⟩ := hbb.shape
  obtain ⟨A, c, rfl, hc, hlv, _⟩ := hv
  obtain ⟨nr, hnr⟩ : ∃ n, root.length = n := ⟨_, rfl⟩
  obtain ⟨nl, hnl⟩ : ∃ n, l.length = n := ⟨_, rfl⟩
  obtain ⟨nb, hnb⟩ : ∃ n, bs.length = n := ⟨_, rfl⟩
  rw [hnr] at HD HR hmr ⊢
  rw [hnl] at HD HL hml ⊢
  rw [hnb] at HD HBS hmb ⊢
  have HNL := Aside0.mk hnl
  have HNB := Aside0.mk hnb
  have HB0 : Aside0 (∀ o, Below w.heap.size w (w.alloc o)) := ⟨fun o => (Below.refl _ _).alloc (Nat.le_refl _) _⟩
  clear hbb hnr hnl hnb
  rcases hso : soundD size block root l bs with _ | _
  · have HE : Aside0 (applyE size block root l bs old = 1 ∧ applyL size block root l bs old = []) := ⟨by unfold applyE applyL; rw [hso]; exact ⟨rfl, rfl⟩⟩
    rw [HE.out.1, HE.out.2]
    have HSO := Aside0.mk hso
    clear hso
    go_enter Try.func9, Try.ntmps9
    go_wp2_with fail
    refine (dsound_calls size block _ (HD.out.below (HB0.out _))).mono ?_
    rintro e w1 ⟨rfl, hb1⟩
    rw [HSO.out]
    have HB1 := Aside0.mk (below_step (HB0.out _) hb1)
    clear hb1
    go_wp2_with fail
    go_ret2
    exact ⟨_, 0, rfl, Sl.nil _ _ _ _, HB1.out⟩
  · have HSO := Aside0.mk hso
    obtain ⟨hs0, hs1, hs2, hs3, hs4, hs5⟩ := soundD_get hso
    rw [HNL.out, HNB.out] at hs3
    obtain ⟨sz, rfl⟩ : ∃ sz : Nat, size = sz := ⟨size.toNat, by omega⟩
    obtain ⟨hb16, hb40⟩ := mayD_iff.1 hs2
    have HRI := Aside0.mk hs4
    have hcn := cnt_bd sz block
    have hln := risL_len hs4 hcn.1
    rw [HNL.out] at hln
    have hsz : sz ≤ 8192 := by omega
    have hnb : nl = nb := by omega
    have HNN := Aside0.mk hnb
    obtain ⟨X0, hX0⟩ : ∃ X0, X0 = fitL old sz := ⟨_, rfl⟩
    have HX0 := Aside0.mk hX0
    have HX0L := Aside0.mk (show X0.length = sz by rw [hX0, fitL_length])
    have HPLA : Aside0 (∀ n, n ≤ nl → (putN X0 block l bs n).length = sz) := ⟨fun n hn => by
      rw [putN_length X0 block l bs n (fun i hi => by
        have h1 := risL_at hs4 (show i < l.length by rw [HNL.out]; omega)
        have h2 := cnt_pos h1.1 h1.2
        have h3 : 0 ≤ l.getD i 0 * block := Int.mul_nonneg h1.1 (by omega)
        rw [HX0L.out]; omega)]
      exact HX0L.out⟩
    have hnl8 : (nl : Int) ≤ 1048576 := by omega
    obtain ⟨o, ho⟩ : ∃ o, (rootL (leavesL (putN X0 block l bs nl) block) == root) = o := ⟨_, rfl⟩
    have HRO := Aside0.mk ho
    have HE : Aside0 (applyE sz block root l bs old = (if o = true then 0 else 2) ∧ applyL sz block root l bs old = (if o = true then putN X0 block l bs nl else [])) := ⟨by unfold applyE applyL putAll; rw [hso, ← ho, hX0, HNL.out, Int.toNat_natCast]; exact ⟨rfl, rfl⟩⟩
    rw [HE.out.1, HE.out.2]
    have HBB : Aside0 (-9223372036854775808 ≤ block ∧ block ≤ 9223372036854775807) := ⟨by omega⟩
    clear hso hs0 hs1 hs2 hs3 hs4 hs5 hcn hln hnb hX0 ho
    go_enter Try.func9, Try.ntmps9
    go_wp2_with fail
    refine (dsound_calls sz block _ (HD.out.below (HB0.out _))).mono ?_
    rintro e w1 ⟨rfl, hb1⟩
    rw [HSO.out]
    have HB1 := Aside0.mk (below_step (HB0.out _) hb1)
    have HG1 := Aside0.mk (below_heap hb1 (heap_new rfl))
    have hc1 := (blk HG1.out).1
    clear hb1
    go_wp2_with fail
    refine (fit_calls sz _ (HV.out.below HB1.out) (by omega)).mono ?_
    rintro e w2 ⟨v2, rfl, ho2, hb2⟩
    rw [← HX0.out] at ho2
    have H2 := Aside0.mk (show OwnB w2 w1.heap.size v2 X0 from ho2)
    have HB2 := Aside0.mk (below_step HB1.out hb2)
    have HG2 := Aside0.mk (below_heap hb2 HG1.out)
    have HGB := Aside0.mk (blk_lt HG1.out)
    have hc2 := (blk HG2.out).1
    clear ho2 hb2 hc1
    go_wp2_with fail
    clear hc2
    obtain ⟨G, hG⟩ : ∃ G, G = w.heap.size := ⟨_, rfl⟩
    rw [← hG] at HG2 HGB ⊢
    clear hG HG1
    go_loopw [19] (fun i wr => ∃ n : Nat, n ≤ nl ∧ i = .int .i64 n ∧ Aside0 (OwnB wr w1.heap.size v2 (putN X0 block l bs n) ∧ wr.heap[G]? = some (.cells #[.int .i64 sz, .int .i64 block, .slice Ar nr cr, .slice Al nl cl, .slice Ab nb cb] 30 (0, 0)) ∧ Below w.heap.size w wr)) (fun i wr => nl - (intOf i).toNat)
    case atStart => exact ⟨0, Nat.zero_le _, rfl, ⟨H2.out, HG2.out, HB2.out⟩⟩
    case round =>
      obtain ⟨n, hn, rfl, hs⟩ := hrel
      have hcw := (blk hs.out.2.1).1
      by_cases hlt : n < nl
      · have hlt' : n < l.length := by rw [HNL.out]; exact hlt
        obtain ⟨adl, hAl, hcl⟩ := (HL.out.below hs.out.2.2).nth n hlt'
        subst hAl
        obtain ⟨ad, ca, u, Au, cu, he, hu, hcell, hsl⟩ := (HBS.out.below hs.out.2.2).at n (by rw [HNB.out, ← HNN.out]; exact hlt)
        obtain ⟨rfl, he1, he2⟩ : Ab = some ad ∧ nb = bs.length ∧ cb = ca := by cases he; exact ⟨rfl, rfl, rfl⟩
        clear he he1 he2
        have hp := risL_at HRI.out hlt'
        obtain ⟨x, hxx⟩ : ∃ x, x = bs.getD n [] := ⟨_, rfl⟩
        obtain ⟨p, hpp⟩ : ∃ p, p = l.getD n 0 := ⟨_, rfl⟩
        rw [← hxx] at hu hsl
        rw [← hpp] at hcl hp
        subst hu
        obtain ⟨b4, HX⟩ : ∃ b4, Aside0 (Sl bv 5 wr b4 (.slice Au x.length cu) x) := ⟨_, ⟨hsl⟩⟩
        have hk := cnt_pos hp.1 hp.2
        have hpb0 : 0 ≤ p * block := Int.mul_nonneg hp.1 (by omega)
        obtain ⟨q, hq⟩ : ∃ q : Nat, p * block = q := ⟨(p * block).toNat, by omega⟩
        have hqs : q < sz := by omega
        have HPN : Aside0 (putN X0 block l bs (n + 1) = splB (putN X0 block l bs n) q x) := ⟨by rw [putN, ← hpp, ← hxx, hq, Int.toNat_natCast]⟩
        have HPL := Aside0.mk (HPLA.out n (by omega))
        have hqw : IntKind.i64.wrap (p * block) = (q : Int) := by rw [hq]; exact IntWalk.i64_in _ (by omega)
        have z1 : (0 : Int) ≤ (n : Int) := by omega
        have z2 : (n : Int) < nb := by have := HNN.out; omega
        have z3 : (n : Int) < nl := by omega
        obtain ⟨g, cap, rfl, hgB, hcap⟩ : ∃ g cap, v2 = .slice (some ⟨g, 0, none⟩) sz cap ∧ w1.heap.size ≤ g ∧ sz ≤ cap := by
          rcases hs.out.1.2 with ⟨_, h0⟩ | ⟨g, cap, cur, h1, h2, h3, h4, _⟩
          · rw [HPL.out] at h0; omega
          · rw [HPL.out] at h1 h4; exact ⟨g, cap, h1, h2, h4⟩
        have HGG := Aside0.mk hgB
        have HO := Aside0.mk hs.out.1
        have HG := Aside0.mk hs.out.2.1
        have HBR := Aside0.mk hs.out.2.2
        have HCL := Aside0.mk hcell
        have HCP := Aside0.mk hcl
        clear hs hpb0 hgB hsl hxx hpp hk
        go_wp2_with fail
        have hq1 : (0 : Int) ≤ (q : Int) := by omega
        have hq2 : (q : Int) ≤ (sz : Int) := by omega
        have hq3 : ¬ q = cap := by omega
        have hq5 : ¬ cap = q := by omega
        have hq4 : q ≤ sz := by omega
        clear hq hcw hcell
        refine wp_region_flowPB (fun a b => Below a.heap.size a b) (fun a b => a.grownBy b (some g)) 12 11 (ApR G g block p q sz cap Ar ad adl nr nl nb cr cl cb n Au x.length cu) (ApR_p G g block p q sz cap Ar ad adl nr nl nb cr cl cb n Au x.length cu) (fun v w' => OwnB w' w1.heap.size (.slice (some ⟨g, 0, none⟩) sz cap) (putN X0 block l bs (n + 1))) [24, 25, 26, 27, 28, 29, 30, 31, 32, 33, 34, 35] (by kernel_rfl) (by kernel_rfl) (by kernel_rfl) (by decide) ((Below.refl _ _).drew) (fun _ _ _ h k => below_step h k) (ApR_st _ _ _ _ _ _ _ _ _ _ _ _ _ _ _ _ _ _ _ _) (ApR_pure _ _ _ _ _ _ _ _ _ _ _ _ _ _ _ _ _ _ _ _) (fun v w w' h hb => own_below h hb) (fun _ _ h hb => grown_then h (grown_of_below _ hb)) ?_ ?_ ?_ (.inl (by kernel_rfl)) ?_
        · intro i o hi hne ho aa w' F
          have hlow := F.low
          match i, ho with
          | 0, ho =>
            obtain rfl := Option.some.inj ho
            refine flow_plain rfl rfl ?_
            have f6 : aa.tmps.getD 6 undef = .slice (some ⟨g, 0, none⟩) sz cap := F.out 6 (by kernel_rfl) _ rfl
            exact op_move (.tmp 6) rfl ⟨_, rfl, Below.refl _ _, f6⟩
          | 1, ho =>
            obtain rfl := Option.some.inj ho
            refine flow_plain rfl rfl ?_
            have f8 : aa.tmps.getD 8 undef = .int .i64 p := F.out 8 (by kernel_rfl) _ rfl
            exact op_move (.tmp 8) rfl ⟨_, rfl, Below.refl _ _, f8⟩
          | 2, ho =>
            obtain rfl := Option.some.inj ho
            refine flow_plain rfl rfl ?_
            have f3 : aa.tmps.getD 3 undef = .pointer (some ⟨G, 0, none⟩) := F.out 3 (by kernel_rfl) _ rfl
            refine op_pure (.pointer (some ⟨G, 1, none⟩)) ?_ ⟨_, rfl, Below.refl _ _, rfl⟩
            simp [execOp, Act.eval, go_sem, f3]
          | 3, ho =>
            obtain rfl := Option.some.inj ho
            refine flow_plain rfl rfl ?_
            have f26 : (aa.tmps.getD 26 undef) = .pointer (some ⟨G, 1, none⟩) := F.of 2 (by kernel_rfl)
            have hc := (blk (below_heap hlow HG.out)).1
            refine op_pure (.int .i64 block) ?_ ⟨_, rfl, Below.refl _ _, rfl⟩
            simp [execOp, Act.eval, go_sem, f26, hc]
          | 4, ho =>
            obtain rfl := Option.some.inj ho
            refine flow_plain rfl rfl ?_
            have f25 : (aa.tmps.getD 25 undef) = .int .i64 p := F.of 1 (by kernel_rfl)
            have f27 : (aa.tmps.getD 27 undef) = .int .i64 block := F.of 3 (by kernel_rfl)
            refine op_pure (.int .i64 q) ?_ ⟨_, rfl, Below.refl _ _, rfl⟩
            simp [execOp, Act.eval, go_sem, f25, f27, hqw]
          | 5, ho =>
            obtain rfl := Option.some.inj ho
            refine flow_plain rfl rfl ?_
            have f24 : (aa.tmps.getD 24 undef) = .slice (some ⟨g, 0, none⟩) sz cap := F.of 0 (by kernel_rfl)
            have f28 : (aa.tmps.getD 28 undef) = .int .i64 q := F.of 4 (by kernel_rfl)
            refine op_pure (.slice (some ⟨g, q, none⟩) (sz - q) (cap - q)) ?_ ⟨_, rfl, Below.refl _ _, rfl⟩
            simp [execOp, Act.eval, go_sem, f24, f28, hq1, hq2, hq3, hq4, hq5]
          | 6, ho =>
            obtain rfl := Option.some.inj ho
            refine flow_plain rfl rfl ?_
            have f3 : aa.tmps.getD 3 undef = .pointer (some ⟨G, 0, none⟩) := F.out 3 (by kernel_rfl) _ rfl
            refine op_pure (.pointer (some ⟨G, 4, none⟩)) ?_ ⟨_, rfl, Below.refl _ _, rfl⟩
            simp [execOp, Act.eval, go_sem, f3]
          | 7, ho =>
            obtain rfl := Option.some.inj ho
            refine flow_plain rfl rfl ?_
            have f30 : (aa.tmps.getD 30 undef) = .pointer (some ⟨G, 4, none⟩) := F.of 6 (by kernel_rfl)
            have hc := (blk (below_heap hlow HG.out)).1
            refine op_pure (.slice (some ad) nb cb) ?_ ⟨_, rfl, Below.refl _ _, rfl⟩
            simp [execOp, Act.eval, go_sem, f30, hc]
          | 8, ho =>
            obtain rfl := Option.some.inj ho
            refine flow_plain rfl rfl ?_
            have f7 : aa.tmps.getD 7 undef = .int .i64 n := F.out 7 (by kernel_rfl) _ rfl
            exact op_move (.tmp 7) rfl ⟨_, rfl, Below.refl _ _, f7⟩
          | 9, ho =>
            obtain rfl := Option.some.inj ho
            refine flow_plain rfl rfl ?_
            have f31 : (aa.tmps.getD 31 undef) = .slice (some ad) nb cb := F.of 7 (by kernel_rfl)
            have f32 : (aa.tmps.getD 32 undef) = .int .i64 n := F.of 8 (by kernel_rfl)
            refine op_pure (.pointer (some (ad.add n))) ?_ ⟨_, rfl, Below.refl _ _, rfl⟩
            simp [execOp, Act.eval, go_sem, f31, f32, z1, z2]
          | 10, ho =>
            obtain rfl := Option.some.inj ho
            refine flow_plain rfl rfl ?_
            have f33 : (aa.tmps.getD 33 undef) = .pointer (some (ad.add n)) := F.of 9 (by kernel_rfl)
            have hc := cell_keep hlow HCL.out
            refine op_pure (.slice Au x.length cu) ?_ ⟨_, rfl, Below.refl _ _, rfl⟩
            simp [execOp, Act.eval, go_sem, f33, hc]
          | 11, ho => exact absurd rfl hne
          | j + 12, ho => omega
        · intro o ho aa w' F
          have hlow := F.low
          obtain rfl := Option.some.inj ho
          refine flow_plain rfl rfl ?_
          have fd : aa.tmps.getD 29 undef = .slice (some ⟨g, q, none⟩) (sz - q) (cap - q) := F.of 5 (by kernel_rfl)
          have fs : aa.tmps.getD 34 undef = .slice Au x.length cu := F.of 10 (by kernel_rfl)
          refine wp_copy_bytes rfl (.tmp 29) (.tmp 34) rfl (off := q) (g := g) (n := sz) (cap := cap) (x := putN X0 block l bs n) (u := .slice Au x.length cu) (y := x) (e := 5) (b0 := b4) (base := w1.heap.size) (dp := some ⟨g, q, none⟩) (dLen := sz - q) (dCap := cap - q) fd (fun _ => rfl) (own_below HO.out hlow) (by rw [HPL.out]; omega) fs (HX.out.below hlow) ?_
          intro m8 w8 ho8 hg8
          exact ⟨_, rfl, grown_then (grown_of_below _ hlow) hg8, by rw [HPN.out]; exact ho8⟩
        · intro i o hi hne hrc ho aa w' F
          match i, ho with
          | 0, ho => exact Bool.noConfusion (hrc.symm.trans (show _ = true by kernel_rfl))
          | 1, ho => exact Bool.noConfusion (hrc.symm.trans (show _ = true by kernel_rfl))
          | 2, ho => exact Bool.noConfusion (hrc.symm.trans (show _ = true by kernel_rfl))
          | 3, ho => exact Bool.noConfusion (hrc.symm.trans (show _ = true by kernel_rfl))
          | 4, ho => exact Bool.noConfusion (hrc.symm.trans (show _ = true by kernel_rfl))
          | 5, ho => exact Bool.noConfusion (hrc.symm.trans (show _ = true by kernel_rfl))
          | 6, ho => exact Bool.noConfusion (hrc.symm.trans (show _ = true by kernel_rfl))
          | 7, ho => exact Bool.noConfusion (hrc.symm.trans (show _ = true by kernel_rfl))
          | 8, ho => exact Bool.noConfusion (hrc.symm.trans (show _ = true by kernel_rfl))
          | 9, ho => exact Bool.noConfusion (hrc.symm.trans (show _ = true by kernel_rfl))
          | 10, ho => exact Bool.noConfusion (hrc.symm.trans (show _ = true by kernel_rfl))
          | 11, ho => exact absurd rfl hne
          | j + 12, ho => omega
        · intro vs w' hlow hgot hrs
          refine ⟨fun _ => ?_, fun h => absurd h (by decide)⟩
          have hbW : w'.heap[G]? = some (.cells #[.int .i64 sz, .int .i64 block, .slice Ar nr cr, .slice (some adl) nl cl, .slice (some ad) nb cb] 30 (0, 0)) := (hlow.block G (blk_lt HG.out) (fun he => by cases he; have := HGG.out; have := HGB.out; omega)).trans HG.out
          have H8 := Aside0.mk (And.intro hrs (And.intro hbW (below_grown HBR.out HBR.out.size hlow (fun k hk => by cases hk; exact Nat.le_trans HB1.out.size HGG.out))))
          clear hgot hlow hrs hbW
          simp only [putL, Act.put, List.setIfInBounds_toArray, List.set_cons_zero, List.set_cons_succ, Nat.reduceAdd]
          go_wp2_with fail
          go_roundw
          case rel => exact ⟨n + 1, by omega, by go_num, H8⟩
          case measure => simp [intOf]; omega
      · have hnn : n = nl := by omega
        have HO := Aside0.mk (show OwnB wr w1.heap.size v2 (putN X0 block l bs nl) by rw [← hnn]; exact hs.out.1)
        have HPL := Aside0.mk (HPLA.out nl (Nat.le_refl _))
        have HG := Aside0.mk hs.out.2.1
        have HBR := Aside0.mk hs.out.2.2
        have HXS := Aside0.mk (Sl.of_own (b := 0) HO.out)
        obtain ⟨A9, c9, hv9, _⟩ := Sl.of_own (b := 0) HO.out
        rw [HPL.out] at hv9
        subst hv9
        obtain ⟨X, hX⟩ : ∃ X, X = putN X0 block l bs nl := ⟨_, rfl⟩
        rw [← hX] at HRO HO HPL HXS
        have HFT := Aside0.mk (leaves_fit X block)
        have HXE := Aside0.mk hX
        clear hnn hs hcw hX
        go_wp2_with fail
        have HW := Aside0.mk (Below.refl wr.heap.size wr)
        have HKC : Aside0 (∀ w', Below wr.heap.size wr w' → w'.cell? ⟨G, 1, none⟩ = some (.int .i64 block) ∧ w'.cell? ⟨G, 2, none⟩ = some (.slice Ar nr cr)) := ⟨fun w' hb' => by
          have := (blk (below_heap hb' HG.out)).1
          exact ⟨this 1, this 2⟩⟩
        go_region_held3 (fun w' => w'.cell? ⟨G, 1, none⟩ = some (.int .i64 block) ∧ w'.cell? ⟨G, 2, none⟩ = some (.slice Ar nr cr)) (first | exact HKC.out _ HW.out | exact HKC.out _ HW.out.drew) (first
          | ((go_at_call 23; refine (leaves_calls block _ (HXS.out.below (by first | exact HW.out.drew | exact HW.out)) HBB.out (by rw [HPL.out]; omega)).mono ?_; rintro e w3 ⟨v3, rfl, ho3, hb3⟩)
             have HO3 := Aside0.mk ho3.reads
             obtain ⟨A3, c3, rfl, _⟩ := ho3.reads.shape
             have HW := Aside0.mk (below_step (by first | exact HW.out.drew | exact HW.out) hb3)
             clear ho3 hb3)
          | ((go_at_call 22; refine (root_calls _ HO3.out HFT.out).mono ?_; rintro e w4 ⟨v4, rfl, hs4, hb4⟩)
             have HO4 := Aside0.mk hs4
             obtain ⟨A4, c4, rfl, _⟩ := hs4
             have HW := Aside0.mk (below_step HW.out hb4)
             clear hb4)
          | ((go_at_call 33; refine (equal_same _ HO4.out (HR.out.below (below_step HBR.out HW.out))).mono ?_; rintro e w5 ⟨rfl, rfl⟩)
             rw [HRO.out]))
        cases o with
        | false =>
          go_wp2_with fail
          go_ret2
          exact ⟨_, 0, rfl, Sl.nil _ _ _ _, below_step HBR.out HW.out⟩
        | true =>
          go_wp2_with fail
          go_ret2
          exact ⟨_, 0, rfl, by have h := HXS.out.below HW.out; rw [HXE.out] at h; exact h, below_step HBR.out HW.out⟩
end Go.Proofs.Ytdikconhdbopdaa
