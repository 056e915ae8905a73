/-
  The reference's ApplyDelta: blocks laid over an elder text. No condition but that what comes in can be read.
-/
import Derived.Test.YtdikconhdbopdaaDelApply
import Derived.Test.YtdikconhdbopdaaRDelMake
import Derived.Test.YtdikconhdbopdaaRFit
namespace Go.Proofs.Ytdikconhdbopdaa
open Go.RowKit
set_option linter.unusedVariables false
set_option linter.unusedSimpArgs false

section
set_option maxRecDepth 100000
/-- What each slot of the region holds. -/
def RApR (G g : Nat) (block p : Int) (q sz cap : Nat) (Ar : Option Addr) (ad adl : Addr) (nr nl nb cr cl cb n : Nat) (Au : Option Addr) (xl cu : Nat) : Nat → Value → World → Prop
  | 0, v, w => v = .slice (some ⟨g, 0, none⟩) sz cap
  | 1, v, w => v = .pointer (some ⟨G, 3, none⟩)
  | 2, v, w => v = .slice (some adl) nl cl
  | 3, v, w => v = .int .i64 n
  | 4, v, w => v = .pointer (some (adl.add n))
  | 5, v, w => v = .int .i64 p
  | 6, v, w => v = .pointer (some ⟨G, 1, none⟩)
  | 7, v, w => v = .int .i64 block
  | 8, v, w => v = .int .i64 q
  | 9, v, w => v = .slice (some ⟨g, q, none⟩) (sz - q) (cap - q)
  | 10, v, w => v = .pointer (some ⟨G, 4, none⟩)
  | 11, v, w => v = .slice (some ad) nb cb
  | 12, v, w => v = .int .i64 n
  | 13, v, w => v = .pointer (some (ad.add n))
  | 14, v, w => v = .slice Au xl cu
  | 15, v, w => True
  | _, _, _ => True
theorem RApR_st (G g : Nat) (block p : Int) (q sz cap : Nat) (Ar : Option Addr) (ad adl : Addr) (nr nl nb cr cl cb n : Nat) (Au : Option Addr) (xl cu : Nat) : ∀ i v w w', RApR G g block p q sz cap Ar ad adl nr nl nb cr cl cb n Au xl cu i v w → Below w.heap.size w w' → RApR G g block p q sz cap Ar ad adl nr nl nb cr cl cb n Au xl cu i v w'
  | 0, v, w, w', h, hb => h
  | 1, v, w, w', h, hb => h
  | 2, v, w, w', h, hb => h
  | 3, v, w, w', h, hb => h
  | 4, v, w, w', h, hb => h
  | 5, v, w, w', h, hb => h
  | 6, v, w, w', h, hb => h
  | 7, v, w, w', h, hb => h
  | 8, v, w, w', h, hb => h
  | 9, v, w, w', h, hb => h
  | 10, v, w, w', h, hb => h
  | 11, v, w, w', h, hb => h
  | 12, v, w, w', h, hb => h
  | 13, v, w, w', h, hb => h
  | 14, v, w, w', h, hb => h
  | 15, v, w, w', h, hb => trivial
  | _ + 16, _, _, _, _, _ => trivial
def RApR_p (G g : Nat) (block p : Int) (q sz cap : Nat) (Ar : Option Addr) (ad adl : Addr) (nr nl nb cr cl cb n : Nat) (Au : Option Addr) (xl cu : Nat) : Nat → Value → Prop
  | _, _ => True
theorem RApR_pure (G g : Nat) (block p : Int) (q sz cap : Nat) (Ar : Option Addr) (ad adl : Addr) (nr nl nb cr cl cb n : Nat) (Au : Option Addr) (xl cu : Nat) : ∀ i v w, RApR G g block p q sz cap Ar ad adl nr nl nb cr cl cb n Au xl cu i v w → RApR_p G g block p q sz cap Ar ad adl nr nl nb cr cl cb n Au xl cu i v
  | 0, v, w, h => trivial
  | 1, v, w, h => trivial
  | 2, v, w, h => trivial
  | 3, v, w, h => trivial
  | 4, v, w, h => trivial
  | 5, v, w, h => trivial
  | 6, v, w, h => trivial
  | 7, v, w, h => trivial
  | 8, v, w, h => trivial
  | 9, v, w, h => trivial
  | 10, v, w, h => trivial
  | 11, v, w, h => trivial
  | 12, v, w, h => trivial
  | 13, v, w, h => trivial
  | 14, v, w, h => trivial
  | 15, v, w, h => trivial
  | _ + 16, _, _, _ => trivial
/-- What each slot of the region holds. -/
def RApE (G : Nat) (block : Int) (sz : Nat) (A9 Ar Al Ab : Option Addr) (c9 nr nl nb cr cl cb : Nat) (LL : List (List UInt8)) (RL root : List UInt8) : Nat → Value → World → Prop
  | 0, v, w => v = .slice A9 sz c9
  | 1, v, w => v = .pointer (some ⟨G, 1, none⟩)
  | 2, v, w => v = .int .i64 block
  | 3, v, w => ∃ b, SlL w b v LL
  | 4, v, w => ∃ b, Sl bv 5 w b v RL
  | 5, v, w => v = .string (str RL)
  | 6, v, w => v = .pointer (some ⟨G, 2, none⟩)
  | 7, v, w => v = .slice Ar nr cr
  | 8, v, w => v = .string (str root)
  | 9, v, w => v = .bool (RL != root)
  | _, _, _ => True
theorem RApE_st (G : Nat) (block : Int) (sz : Nat) (A9 Ar Al Ab : Option Addr) (c9 nr nl nb cr cl cb : Nat) (LL : List (List UInt8)) (RL root : List UInt8) : ∀ i v w w', RApE G block sz A9 Ar Al Ab c9 nr nl nb cr cl cb LL RL root i v w → Below w.heap.size w w' → RApE G block sz A9 Ar Al Ab c9 nr nl nb cr cl cb LL RL root i v w'
  | 0, v, w, w', h, hb => h
  | 1, v, w, w', h, hb => h
  | 2, v, w, w', h, hb => h
  | 3, v, w, w', h, hb => h.elim fun b h => ⟨b, SlL.below h hb⟩
  | 4, v, w, w', h, hb => h.elim fun b h => ⟨b, Sl.below h hb⟩
  | 5, v, w, w', h, hb => h
  | 6, v, w, w', h, hb => h
  | 7, v, w, w', h, hb => h
  | 8, v, w, w', h, hb => h
  | 9, v, w, w', h, hb => h
  | _ + 10, _, _, _, _, _ => trivial
end
set_option maxHeartbeats 8000000 in
set_option maxRecDepth 100000 in
theorem rdapply_calls {b0 : Nat} {v vr vl vb : Value} {old root : List UInt8} {l : List Int} {bs : List (List UInt8)} (size block : Int) (w : World) (hv : Sl bv 5 w b0 v old) (h : DelR w vr vl vb root l bs) (hdl : old.length ≤ 1000000) :
    Calls Try.prog 11 #[v, .agg #[.int .i64 size, .int .i64 block, vr, vl, vb]] w fun e w' => DelAns w (applyE size block root l bs old) (applyL size block root l bs old) e w' := by
  have HD := Aside0.mk h
  have HV := Aside0.mk hv
  obtain ⟨⟨br, hr⟩, ⟨bl, hl⟩, ⟨bb, hbb⟩⟩ := h
  have HR := Aside0.mk hr
  have HL := Aside0.mk hl
  have HBS := Aside0.mk (hbb.old (Nat.le_refl _))
  obtain ⟨Ar, cr, rfl, _, hmr, _⟩ := hr
  obtain ⟨Al, cl, rfl, _, hml, _⟩ := hl
  obtain ⟨Ab, cb, rfl, _, hmb⟩ := hbb.shape
  obtain ⟨A, c, rfl, hc, hlv, _⟩ := hv
  obtain ⟨nr, hnr⟩ : ∃ n, root.length = n := ⟨_, rfl⟩
  obtain ⟨nl, hnl⟩ : ∃ n, l.length = n := ⟨_, rfl⟩
  obtain ⟨nb, hnb⟩ : ∃ n, bs.length = n := ⟨_, rfl⟩
  rw [hnr] at HD HR hmr ⊢
  rw [hnl] at HD HL hml ⊢
  rw [hnb] at HD HBS hmb ⊢
  have HNL := Aside0.mk hnl
  have HNB := Aside0.mk hnb
  have HB0 : Aside0 (∀ o, Below w.heap.size w (w.alloc o)) := ⟨fun o => (Below.refl _ _).alloc (Nat.le_refl _) _⟩
  clear hbb hnr hnl hnb
  rcases hso : soundD size block root l bs with _ | _
  · have HE : Aside0 (applyE size block root l bs old = 1 ∧ applyL size block root l bs old = []) := ⟨by unfold applyE applyL; rw [hso]; exact ⟨rfl, rfl⟩⟩
    rw [HE.out.1, HE.out.2]
    have HSO := Aside0.mk hso
    clear hso
    go_enter Try.func11, Try.ntmps11
    go_wp2_with fail
    refine (rdsound_calls size block _ (HD.out.below (HB0.out _))).mono ?_
    rintro e w1 ⟨rfl, hb1⟩
    rw [HSO.out]
    have HB1 := Aside0.mk (below_step (HB0.out _) hb1)
    clear hb1
    go_wp2_with fail
    go_ret2
    exact ⟨_, 0, rfl, Sl.nil _ _ _ _, HB1.out⟩
  · have HSO := Aside0.mk hso
    obtain ⟨hs0, hs1, hs2, hs3, hs4, hs5⟩ := soundD_get hso
    rw [HNL.out, HNB.out] at hs3
    obtain ⟨sz, rfl⟩ : ∃ sz : Nat, size = sz := ⟨size.toNat, by omega⟩
    obtain ⟨hb16, hb40⟩ := mayD_iff.1 hs2
    have HRI := Aside0.mk hs4
    have hcn := cnt_bd sz block
    have hln := risL_len hs4 hcn.1
    rw [HNL.out] at hln
    have hsz : sz ≤ 8192 := by omega
    have hnb : nl = nb := by omega
    have HNN := Aside0.mk hnb
    obtain ⟨X0, hX0⟩ : ∃ X0, X0 = fitL old sz := ⟨_, rfl⟩
    have HX0 := Aside0.mk hX0
    have HX0L := Aside0.mk (show X0.length = sz by rw [hX0, fitL_length])
    have HPLA : Aside0 (∀ n, n ≤ nl → (putN X0 block l bs n).length = sz) := ⟨fun n hn => by
      rw [putN_length X0 block l bs n (fun i hi => by
        have h1 := risL_at hs4 (show i < l.length by rw [HNL.out]; omega)
        have h2 := cnt_pos h1.1 h1.2
        have h3 : 0 ≤ l.getD i 0 * block := Int.mul_nonneg h1.1 (by omega)
        rw [HX0L.out]; omega)]
      exact HX0L.out⟩
    have hnl8 : (nl : Int) ≤ 1048576 := by omega
    obtain ⟨o, ho⟩ : ∃ o, (rootL (leavesL (putN X0 block l bs nl) block) == root) = o := ⟨_, rfl⟩
    have HRO := Aside0.mk ho
    have HE : Aside0 (applyE sz block root l bs old = (if o = true then 0 else 2) ∧ applyL sz block root l bs old = (if o = true then putN X0 block l bs nl else [])) := ⟨by unfold applyE applyL putAll; rw [hso, ← ho, hX0, HNL.out, Int.toNat_natCast]; exact ⟨rfl, rfl⟩⟩
    rw [HE.out.1, HE.out.2]
    have HBB : Aside0 (-9223372036854775808 ≤ block ∧ block ≤ 9223372036854775807) := ⟨by omega⟩
    clear hso hs0 hs1 hs2 hs3 hs4 hs5 hcn hln hnb hX0 ho
    go_enter Try.func11, Try.ntmps11
    go_wp2_with fail
    refine (rdsound_calls sz block _ (HD.out.below (HB0.out _))).mono ?_
    rintro e w1 ⟨rfl, hb1⟩
    rw [HSO.out]
    have HB1 := Aside0.mk (below_step (HB0.out _) hb1)
    have HG1 := Aside0.mk (below_heap hb1 (heap_new rfl))
    have hc1 := (blk HG1.out).1
    clear hb1
    go_wp2_with fail
    refine (rfit_calls sz _ (HV.out.below HB1.out) (by omega) hdl).mono ?_
    rintro e w2 ⟨v2, rfl, ho2, hb2⟩
    rw [← HX0.out] at ho2
    have H2 := Aside0.mk (show OwnB w2 w1.heap.size v2 X0 from ho2)
    have HB2 := Aside0.mk (below_step HB1.out hb2)
    have HG2 := Aside0.mk (below_heap hb2 HG1.out)
    have HGB := Aside0.mk (blk_lt HG1.out)
    have hc2 := (blk HG2.out).1
    clear ho2 hb2 hc1
    go_wp2_with fail
    clear hc2
    obtain ⟨G, hG⟩ : ∃ G, G = w.heap.size := ⟨_, rfl⟩
    rw [← hG] at HG2 HGB ⊢
    clear hG HG1
    go_loopw [7] (fun i wr => ∃ n : Nat, n ≤ nl ∧ i = .int .i64 n ∧ Aside0 (OwnB wr w1.heap.size v2 (putN X0 block l bs n) ∧ wr.heap[G]? = some (.cells #[.int .i64 sz, .int .i64 block, .slice Ar nr cr, .slice Al nl cl, .slice Ab nb cb] 26 (0, 0)) ∧ Below w.heap.size w wr)) (fun i wr => nl - (intOf i).toNat)
    case atStart => exact ⟨0, Nat.zero_le _, rfl, ⟨H2.out, HG2.out, HB2.out⟩⟩
    case round =>
      obtain ⟨n, hn, rfl, hs⟩ := hrel
      have hcw := (blk hs.out.2.1).1
      by_cases hlt : n < nl
      · have hlt' : n < l.length := by rw [HNL.out]; exact hlt
        obtain ⟨adl, hAl, hcl⟩ := (HL.out.below hs.out.2.2).nth n hlt'
        subst hAl
        obtain ⟨ad, ca, u, Au, cu, he, hu, hcell, hsl⟩ := (HBS.out.below hs.out.2.2).at n (by rw [HNB.out, ← HNN.out]; exact hlt)
        obtain ⟨rfl, he1, he2⟩ : Ab = some ad ∧ nb = bs.length ∧ cb = ca := by cases he; exact ⟨rfl, rfl, rfl⟩
        clear he he1 he2
        have hp := risL_at HRI.out hlt'
        obtain ⟨x, hxx⟩ : ∃ x, x = bs.getD n [] := ⟨_, rfl⟩
        obtain ⟨p, hpp⟩ : ∃ p, p = l.getD n 0 := ⟨_, rfl⟩
        rw [← hxx] at hu hsl
        rw [← hpp] at hcl hp
        subst hu
        obtain ⟨b4, HX⟩ : ∃ b4, Aside0 (Sl bv 5 wr b4 (.slice Au x.length cu) x) := ⟨_, ⟨hsl⟩⟩
        have hk := cnt_pos hp.1 hp.2
        have hpb0 : 0 ≤ p * block := Int.mul_nonneg hp.1 (by omega)
        obtain ⟨q, hq⟩ : ∃ q : Nat, p * block = q := ⟨(p * block).toNat, by omega⟩
        have hqs : q < sz := by omega
        have HPN : Aside0 (putN X0 block l bs (n + 1) = splB (putN X0 block l bs n) q x) := ⟨by rw [putN, ← hpp, ← hxx, hq, Int.toNat_natCast]⟩
        have HPL := Aside0.mk (HPLA.out n (by omega))
        have hqw : IntKind.i64.wrap (p * block) = (q : Int) := by rw [hq]; exact IntWalk.i64_in _ (by omega)
        have z1 : (0 : Int) ≤ (n : Int) := by omega
        have z2 : (n : Int) < nb := by have := HNN.out; omega
        have z3 : (n : Int) < nl := by omega
        obtain ⟨g, cap, rfl, hgB, hcap⟩ : ∃ g cap, v2 = .slice (some ⟨g, 0, none⟩) sz cap ∧ w1.heap.size ≤ g ∧ sz ≤ cap := by
          rcases hs.out.1.2 with ⟨_, h0⟩ | ⟨g, cap, cur, h1, h2, h3, h4, _⟩
          · rw [HPL.out] at h0; omega
          · rw [HPL.out] at h1 h4; exact ⟨g, cap, h1, h2, h4⟩
        have HGG := Aside0.mk hgB
        have HO := Aside0.mk hs.out.1
        have HG := Aside0.mk hs.out.2.1
        have HBR := Aside0.mk hs.out.2.2
        have HCL := Aside0.mk hcell
        have HCP := Aside0.mk hcl
        clear hs hpb0 hgB hsl hxx hpp hk
        go_wp2_with fail
        have hq1 : (0 : Int) ≤ (q : Int) := by omega
        have hq2 : (q : Int) ≤ (sz : Int) := by omega
        have hq3 : ¬ q = cap := by omega
        have hq5 : ¬ cap = q := by omega
        have hq4 : q ≤ sz := by omega
        clear hq hcw hcell
        refine wp_region_flowPB (fun a b => Below a.heap.size a b) (fun a b => a.grownBy b (some g)) 16 15 (RApR G g block p q sz cap Ar ad adl nr nl nb cr cl cb n Au x.length cu) (RApR_p G g block p q sz cap Ar ad adl nr nl nb cr cl cb n Au x.length cu) (fun v w' => OwnB w' w1.heap.size (.slice (some ⟨g, 0, none⟩) sz cap) (putN X0 block l bs (n + 1))) [22, 23, 24, 25, 26, 27, 28, 29, 30, 31, 32, 33, 34, 35, 36, 37] (by kernel_rfl) (by kernel_rfl) (by kernel_rfl) (by decide) ((Below.refl _ _).drew) (fun _ _ _ h k => below_step h k) (RApR_st _ _ _ _ _ _ _ _ _ _ _ _ _ _ _ _ _ _ _ _) (RApR_pure _ _ _ _ _ _ _ _ _ _ _ _ _ _ _ _ _ _ _ _) (fun v w w' h hb => own_below h hb) (fun _ _ h hb => grown_then h (grown_of_below _ hb)) ?_ ?_ ?_ (.inl (by kernel_rfl)) ?_
        · intro i o hi hne ho aa w' F
          have hlow := F.low
          match i, ho with
          | 0, ho =>
            obtain rfl := Option.some.inj ho
            refine flow_plain rfl rfl ?_
            have f6 : aa.tmps.getD 6 undef = .slice (some ⟨g, 0, none⟩) sz cap := F.out 6 (by kernel_rfl) _ rfl
            exact op_move (.tmp 6) rfl ⟨_, rfl, Below.refl _ _, f6⟩
          | 1, ho =>
            obtain rfl := Option.some.inj ho
            refine flow_plain rfl rfl ?_
            have f3 : aa.tmps.getD 3 undef = .pointer (some ⟨G, 0, none⟩) := F.out 3 (by kernel_rfl) _ rfl
            refine op_pure (.pointer (some ⟨G, 3, none⟩)) ?_ ⟨_, rfl, Below.refl _ _, rfl⟩
            simp [execOp, Act.eval, go_sem, f3]
          | 2, ho =>
            obtain rfl := Option.some.inj ho
            refine flow_plain rfl rfl ?_
            have f23 : (aa.tmps.getD 23 undef) = .pointer (some ⟨G, 3, none⟩) := F.of 1 (by kernel_rfl)
            have hc := (blk (below_heap hlow HG.out)).1
            refine op_pure (.slice (some adl) nl cl) ?_ ⟨_, rfl, Below.refl _ _, rfl⟩
            simp [execOp, Act.eval, go_sem, f23, hc]
          | 3, ho =>
            obtain rfl := Option.some.inj ho
            refine flow_plain rfl rfl ?_
            have f7 : aa.tmps.getD 7 undef = .int .i64 n := F.out 7 (by kernel_rfl) _ rfl
            exact op_move (.tmp 7) rfl ⟨_, rfl, Below.refl _ _, f7⟩
          | 4, ho =>
            obtain rfl := Option.some.inj ho
            refine flow_plain rfl rfl ?_
            have f24 : (aa.tmps.getD 24 undef) = .slice (some adl) nl cl := F.of 2 (by kernel_rfl)
            have f25 : (aa.tmps.getD 25 undef) = .int .i64 n := F.of 3 (by kernel_rfl)
            refine op_pure (.pointer (some (adl.add n))) ?_ ⟨_, rfl, Below.refl _ _, rfl⟩
            simp [execOp, Act.eval, go_sem, f24, f25, z1, z3]
          | 5, ho =>
            obtain rfl := Option.some.inj ho
            refine flow_plain rfl rfl ?_
            have f26 : (aa.tmps.getD 26 undef) = .pointer (some (adl.add n)) := F.of 4 (by kernel_rfl)
            have hc := cell_keep hlow HCP.out
            refine op_pure (.int .i64 p) ?_ ⟨_, rfl, Below.refl _ _, rfl⟩
            simp [execOp, Act.eval, go_sem, f26, hc]
          | 6, ho =>
            obtain rfl := Option.some.inj ho
            refine flow_plain rfl rfl ?_
            have f3 : aa.tmps.getD 3 undef = .pointer (some ⟨G, 0, none⟩) := F.out 3 (by kernel_rfl) _ rfl
            refine op_pure (.pointer (some ⟨G, 1, none⟩)) ?_ ⟨_, rfl, Below.refl _ _, rfl⟩
            simp [execOp, Act.eval, go_sem, f3]
          | 7, ho =>
            obtain rfl := Option.some.inj ho
            refine flow_plain rfl rfl ?_
            have f28 : (aa.tmps.getD 28 undef) = .pointer (some ⟨G, 1, none⟩) := F.of 6 (by kernel_rfl)
            have hc := (blk (below_heap hlow HG.out)).1
            refine op_pure (.int .i64 block) ?_ ⟨_, rfl, Below.refl _ _, rfl⟩
            simp [execOp, Act.eval, go_sem, f28, hc]
          | 8, ho =>
            obtain rfl := Option.some.inj ho
            refine flow_plain rfl rfl ?_
            have f27 : (aa.tmps.getD 27 undef) = .int .i64 p := F.of 5 (by kernel_rfl)
            have f29 : (aa.tmps.getD 29 undef) = .int .i64 block := F.of 7 (by kernel_rfl)
            refine op_pure (.int .i64 q) ?_ ⟨_, rfl, Below.refl _ _, rfl⟩
            simp [execOp, Act.eval, go_sem, f27, f29, hqw]
          | 9, ho =>
            obtain rfl := Option.some.inj ho
            refine flow_plain rfl rfl ?_
            have f22 : (aa.tmps.getD 22 undef) = .slice (some ⟨g, 0, none⟩) sz cap := F.of 0 (by kernel_rfl)
            have f30 : (aa.tmps.getD 30 undef) = .int .i64 q := F.of 8 (by kernel_rfl)
            refine op_pure (.slice (some ⟨g, q, none⟩) (sz - q) (cap - q)) ?_ ⟨_, rfl, Below.refl _ _, rfl⟩
            simp [execOp, Act.eval, go_sem, f22, f30, hq1, hq2, hq3, hq4, hq5]
          | 10, ho =>
            obtain rfl := Option.some.inj ho
            refine flow_plain rfl rfl ?_
            have f3 : aa.tmps.getD 3 undef = .pointer (some ⟨G, 0, none⟩) := F.out 3 (by kernel_rfl) _ rfl
            refine op_pure (.pointer (some ⟨G, 4, none⟩)) ?_ ⟨_, rfl, Below.refl _ _, rfl⟩
            simp [execOp, Act.eval, go_sem, f3]
          | 11, ho =>
            obtain rfl := Option.some.inj ho
            refine flow_plain rfl rfl ?_
            have f32 : (aa.tmps.getD 32 undef) = .pointer (some ⟨G, 4, none⟩) := F.of 10 (by kernel_rfl)
            have hc := (blk (below_heap hlow HG.out)).1
            refine op_pure (.slice (some ad) nb cb) ?_ ⟨_, rfl, Below.refl _ _, rfl⟩
            simp [execOp, Act.eval, go_sem, f32, hc]
          | 12, ho =>
            obtain rfl := Option.some.inj ho
            refine flow_plain rfl rfl ?_
            have f7 : aa.tmps.getD 7 undef = .int .i64 n := F.out 7 (by kernel_rfl) _ rfl
            exact op_move (.tmp 7) rfl ⟨_, rfl, Below.refl _ _, f7⟩
          | 13, ho =>
            obtain rfl := Option.some.inj ho
            refine flow_plain rfl rfl ?_
            have f33 : (aa.tmps.getD 33 undef) = .slice (some ad) nb cb := F.of 11 (by kernel_rfl)
            have f34 : (aa.tmps.getD 34 undef) = .int .i64 n := F.of 12 (by kernel_rfl)
            refine op_pure (.pointer (some (ad.add n))) ?_ ⟨_, rfl, Below.refl _ _, rfl⟩
            simp [execOp, Act.eval, go_sem, f33, f34, z1, z2]
          | 14, ho =>
            obtain rfl := Option.some.inj ho
            refine flow_plain rfl rfl ?_
            have f35 : (aa.tmps.getD 35 undef) = .pointer (some (ad.add n)) := F.of 13 (by kernel_rfl)
            have hc := cell_keep hlow HCL.out
            refine op_pure (.slice Au x.length cu) ?_ ⟨_, rfl, Below.refl _ _, rfl⟩
            simp [execOp, Act.eval, go_sem, f35, hc]
          | 15, ho => exact absurd rfl hne
          | j + 16, ho => omega
        · intro o ho aa w' F
          have hlow := F.low
          obtain rfl := Option.some.inj ho
          refine flow_plain rfl rfl ?_
          have fd : aa.tmps.getD 31 undef = .slice (some ⟨g, q, none⟩) (sz - q) (cap - q) := F.of 9 (by kernel_rfl)
          have fs : aa.tmps.getD 36 undef = .slice Au x.length cu := F.of 14 (by kernel_rfl)
          refine wp_copy_bytes rfl (.tmp 31) (.tmp 36) rfl (off := q) (g := g) (n := sz) (cap := cap) (x := putN X0 block l bs n) (u := .slice Au x.length cu) (y := x) (e := 5) (b0 := b4) (base := w1.heap.size) (dp := some ⟨g, q, none⟩) (dLen := sz - q) (dCap := cap - q) fd (fun _ => rfl) (own_below HO.out hlow) (by rw [HPL.out]; omega) fs (HX.out.below hlow) ?_
          intro m8 w8 ho8 hg8
          exact ⟨_, rfl, grown_then (grown_of_below _ hlow) hg8, by rw [HPN.out]; exact ho8⟩
        · intro i o hi hne hrc ho aa w' F
          match i, ho with
          | 0, ho => exact Bool.noConfusion (hrc.symm.trans (show _ = true by kernel_rfl))
          | 1, ho => exact Bool.noConfusion (hrc.symm.trans (show _ = true by kernel_rfl))
          | 2, ho => exact Bool.noConfusion (hrc.symm.trans (show _ = true by kernel_rfl))
          | 3, ho => exact Bool.noConfusion (hrc.symm.trans (show _ = true by kernel_rfl))
          | 4, ho => exact Bool.noConfusion (hrc.symm.trans (show _ = true by kernel_rfl))
          | 5, ho => exact Bool.noConfusion (hrc.symm.trans (show _ = true by kernel_rfl))
          | 6, ho => exact Bool.noConfusion (hrc.symm.trans (show _ = true by kernel_rfl))
          | 7, ho => exact Bool.noConfusion (hrc.symm.trans (show _ = true by kernel_rfl))
          | 8, ho => exact Bool.noConfusion (hrc.symm.trans (show _ = true by kernel_rfl))
          | 9, ho => exact Bool.noConfusion (hrc.symm.trans (show _ = true by kernel_rfl))
          | 10, ho => exact Bool.noConfusion (hrc.symm.trans (show _ = true by kernel_rfl))
          | 11, ho => exact Bool.noConfusion (hrc.symm.trans (show _ = true by kernel_rfl))
          | 12, ho => exact Bool.noConfusion (hrc.symm.trans (show _ = true by kernel_rfl))
          | 13, ho => exact Bool.noConfusion (hrc.symm.trans (show _ = true by kernel_rfl))
          | 14, ho => exact Bool.noConfusion (hrc.symm.trans (show _ = true by kernel_rfl))
          | 15, ho => exact absurd rfl hne
          | j + 16, ho => omega
        · intro vs w' hlow hgot hrs
          refine ⟨fun hx => ?_, fun h => absurd h (by decide)⟩
          clear hx
          have hbW : w'.heap[G]? = some (.cells #[.int .i64 sz, .int .i64 block, .slice Ar nr cr, .slice (some adl) nl cl, .slice (some ad) nb cb] 26 (0, 0)) := (hlow.block G (blk_lt HG.out) (fun he => by cases he; have := HGG.out; have := HGB.out; omega)).trans HG.out
          have H8 := Aside0.mk (And.intro hrs (And.intro hbW (below_grown HBR.out HBR.out.size hlow (fun k hk => by cases hk; exact Nat.le_trans HB1.out.size HGG.out))))
          clear hgot hlow hrs hbW
          simp only [putL, Act.put, List.setIfInBounds_toArray, List.set_cons_zero, List.set_cons_succ, Nat.reduceAdd]
          go_wp2_with fail
          go_roundw
          case rel => exact ⟨n + 1, by omega, by go_num, H8⟩
          case measure => simp [intOf]; omega
      · have hnn : n = nl := by omega
        have HO := Aside0.mk (show OwnB wr w1.heap.size v2 (putN X0 block l bs nl) by rw [← hnn]; exact hs.out.1)
        have HPL := Aside0.mk (HPLA.out nl (Nat.le_refl _))
        have HG := Aside0.mk hs.out.2.1
        have HBR := Aside0.mk hs.out.2.2
        have HXS := Aside0.mk (Sl.of_own (b := 0) HO.out)
        obtain ⟨A9, c9, hv9, _⟩ := Sl.of_own (b := 0) HO.out
        rw [HPL.out] at hv9
        subst hv9
        obtain ⟨X, hX⟩ : ∃ X, X = putN X0 block l bs nl := ⟨_, rfl⟩
        rw [← hX] at HRO HO HPL HXS
        have HFT := Aside0.mk (leaves_fit X block)
        have HXE := Aside0.mk hX
        clear hnn hs hX
        go_wp2_with fail
        clear hcw
        obtain ⟨LL, hLL⟩ : ∃ LL, leavesL X block = LL := ⟨_, rfl⟩
        obtain ⟨RL, hRL⟩ : ∃ RL, rootL LL = RL := ⟨_, rfl⟩
        rw [hLL] at HRO HFT
        rw [hRL] at HRO
        have HLL := Aside0.mk hLL
        have HRL := Aside0.mk hRL
        clear hLL hRL
        refine wp_region_flowMB (fun a b => Below a.heap.size a b) 10 (RApE G block sz A9 Ar Al Ab c9 nr nl nb cr cl cb LL RL root) [38, 39, 40, 41, 42, 43, 44, 45, 46, 47] (by kernel_rfl) (by kernel_rfl) (by kernel_rfl) ((Below.refl _ _).drew) (fun _ _ _ h k => below_step h k) (RApE_st _ _ _ _ _ _ _ _ _ _ _ _ _ _ _ _ _) ?_ (.inl (by kernel_rfl)) ?_
        · intro i o hi ho aa w' F
          have hlow := F.low
          match i, ho with
          | 0, ho =>
            obtain rfl := Option.some.inj ho
            refine flow_plain rfl rfl ?_
            have f6 : aa.tmps.getD 6 undef = .slice A9 sz c9 := F.out 6 (by kernel_rfl) _ rfl
            exact op_move (.tmp 6) rfl ⟨_, rfl, Below.refl _ _, f6⟩
          | 1, ho =>
            obtain rfl := Option.some.inj ho
            refine flow_plain rfl rfl ?_
            have f3 : aa.tmps.getD 3 undef = .pointer (some ⟨G, 0, none⟩) := F.out 3 (by kernel_rfl) _ rfl
            refine op_pure (.pointer (some ⟨G, 1, none⟩)) ?_ ⟨_, rfl, Below.refl _ _, rfl⟩
            simp [execOp, Act.eval, go_sem, f3]
          | 2, ho =>
            obtain rfl := Option.some.inj ho
            refine flow_plain rfl rfl ?_
            have f39 : (aa.tmps.getD 39 undef) = .pointer (some ⟨G, 1, none⟩) := F.of 1 (by kernel_rfl)
            have hc := (blk (below_heap hlow HG.out)).1
            refine op_pure (.int .i64 block) ?_ ⟨_, rfl, Below.refl _ _, rfl⟩
            simp [execOp, Act.eval, go_sem, f39, hc]
          | 3, ho =>
            obtain rfl := Option.some.inj ho
            refine flow_plain rfl rfl ?_
            have f38 : (aa.tmps.getD 38 undef) = .slice A9 sz c9 := F.of 0 (by kernel_rfl)
            have f40 : (aa.tmps.getD 40 undef) = .int .i64 block := F.of 2 (by kernel_rfl)
            refine op_call 29 #[.tmp 38, .tmp 40] #[22, 3] rfl _ rfl rfl rfl #[.slice A9 sz c9, .int .i64 block] (by simp [Act.eval, f38, f40]) ?_
            refine (rleaves_calls block _ (HXS.out.below hlow) HBB.out (by rw [HPL.out]; omega)).mono ?_
            rintro e w7 ⟨v7, rfl, ho7, hb7⟩
            rw [HLL.out] at ho7
            exact ⟨_, rfl, _, rfl, hb7, _, ho7.reads⟩
          | 4, ho =>
            obtain rfl := Option.some.inj ho
            refine flow_plain rfl rfl ?_
            have f41 : ∃ b, SlL w' b (aa.tmps.getD 41 undef) LL := F.of 3 (by kernel_rfl)
            refine op_call 28 #[.tmp 41] #[24] rfl _ rfl rfl rfl #[aa.tmps.getD 41 undef] (by simp [Act.eval]) ?_
            obtain ⟨bb, f41⟩ := f41
            refine (rroot_calls _ (f41.old (Nat.le_refl _)) (Nat.le_refl _) HFT.out).mono ?_
            rintro e w7 ⟨v7, rfl, hs7, hb7⟩
            rw [HRL.out] at hs7
            exact ⟨_, rfl, _, rfl, hb7, _, hs7⟩
          | 5, ho =>
            obtain rfl := Option.some.inj ho
            refine flow_plain rfl rfl ?_
            have f42 : ∃ b, Sl bv 5 w' b (aa.tmps.getD 42 undef) RL := F.of 4 (by kernel_rfl)
            obtain ⟨bb, f42⟩ := f42
            exact op_conv _ _ _ rfl _ ((f42 : Sl _ _ _ _ _ _).string (P := Try.prog) Try.underlying22 Try.underlying5 Try.underlying9) ⟨_, rfl, Below.refl _ _, rfl⟩
          | 6, ho =>
            obtain rfl := Option.some.inj ho
            refine flow_plain rfl rfl ?_
            have f3 : aa.tmps.getD 3 undef = .pointer (some ⟨G, 0, none⟩) := F.out 3 (by kernel_rfl) _ rfl
            refine op_pure (.pointer (some ⟨G, 2, none⟩)) ?_ ⟨_, rfl, Below.refl _ _, rfl⟩
            simp [execOp, Act.eval, go_sem, f3]
          | 7, ho =>
            obtain rfl := Option.some.inj ho
            refine flow_plain rfl rfl ?_
            have f44 : (aa.tmps.getD 44 undef) = .pointer (some ⟨G, 2, none⟩) := F.of 6 (by kernel_rfl)
            have hc := (blk (below_heap hlow HG.out)).1
            refine op_pure (.slice Ar nr cr) ?_ ⟨_, rfl, Below.refl _ _, rfl⟩
            simp [execOp, Act.eval, go_sem, f44, hc]
          | 8, ho =>
            obtain rfl := Option.some.inj ho
            refine flow_plain rfl rfl ?_
            have f45 : (aa.tmps.getD 45 undef) = .slice Ar nr cr := F.of 7 (by kernel_rfl)
            refine op_conv _ _ _ rfl (.string (str root)) ?_ ⟨_, rfl, Below.refl _ _, rfl⟩
            rw [show aa.eval (.tmp 45) = _ from f45]
            exact (HR.out.below (below_step HBR.out hlow)).string (P := Try.prog) Try.underlying22 Try.underlying5 Try.underlying9
          | 9, ho =>
            obtain rfl := Option.some.inj ho
            refine flow_plain rfl rfl ?_
            have f43 : (aa.tmps.getD 43 undef) = .string (str RL) := F.of 5 (by kernel_rfl)
            have f46 : (aa.tmps.getD 46 undef) = .string (str root) := F.of 8 (by kernel_rfl)
            refine op_pure (.bool (RL != root)) ?_ ⟨_, rfl, Below.refl _ _, rfl⟩
            simp [execOp, Act.eval, go_sem, f43, f46, str_toList, bne]
          | j + 10, ho => omega
        · intro vs w' hlow hvs
          refine ⟨fun hx => ?_, fun h => absurd h (by decide)⟩
          clear hx
          have h9 : vs 9 = .bool (RL != root) := hvs 9 (by decide)
          have hne : (RL != root) = !o := by rw [bne, HRO.out]
          have HW := Aside0.mk hlow
          simp only [putL, Act.put, List.setIfInBounds_toArray, List.set_cons_zero, List.set_cons_succ, Nat.reduceAdd]
          rw [h9, hne]
          clear hvs hlow h9 hne
          cases o with
          | false =>
            go_wp2_with fail
            go_ret2
            exact ⟨_, 0, rfl, Sl.nil _ _ _ _, below_step HBR.out HW.out⟩
          | true =>
            go_wp2_with fail
            go_ret2
            exact ⟨_, 0, rfl, by have h := HXS.out.below HW.out; rw [HXE.out] at h; exact h, below_step HBR.out HW.out⟩
end Go.Proofs.Ytdikconhdbopdaa
