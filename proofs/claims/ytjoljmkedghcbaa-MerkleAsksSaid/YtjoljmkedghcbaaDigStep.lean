/-
  A block is taken in. No condition but that the slice has 64 bytes.
-/
import Derived.Test.YtjoljmkedghcbaaDigReg
import Derived.Deep.RegionHeld3
namespace Go.Proofs.Ytjoljmkedghcbaa
open Go.RowKit
set_option linter.unusedVariables false
set_option linter.unusedSimpArgs false

theorem q_sum5 (a b c d e : UInt32) : ((a.toNat : Int) + (b.toNat : Int) + (c.toNat : Int) + (d.toNat : Int) + (e.toNat : Int)) % 4294967296 = ((a + b + c + d + e).toNat : Int) := by
  simp only [UInt32.toNat_add, Nat.reducePow]; omega
theorem q_sum2 (a b : UInt32) : ((a.toNat : Int) + (b.toNat : Int)) % 4294967296 = ((a + b).toNat : Int) := by
  simp only [UInt32.toNat_add, Nat.reducePow]; omega
theorem q_notm (x : UInt32) : bits .xor .u32 IntKind.u32.max (x.toNat : Int) = ((~~~x).toNat : Int) := q_not x
theorem one_eq (t : St) (kk ww : UInt32) : ((t.h.toNat : Int) + bits .xor .u32 (bits .xor .u32 ((rotr t.e 6).toNat : Int) ((rotr t.e 11).toNat : Int)) ((rotr t.e 25).toNat : Int) + bits .xor .u32 (bits .and .u32 (t.e.toNat : Int) (t.f.toNat : Int)) (bits .and .u32 (bits .xor .u32 IntKind.u32.max (t.e.toNat : Int)) (t.g.toNat : Int)) + (kk.toNat : Int) + (ww.toNat : Int)) % 4294967296 = ((rOne t kk ww).toNat : Int) := by
  simp only [q_xor, q_and, q_notm]
  exact q_sum5 _ _ _ _ _
theorem two_eq (t : St) : (bits .xor .u32 (bits .xor .u32 ((rotr t.a 2).toNat : Int) ((rotr t.a 13).toNat : Int)) ((rotr t.a 22).toNat : Int) + bits .xor .u32 (bits .xor .u32 (bits .and .u32 (t.a.toNat : Int) (t.b.toNat : Int)) (bits .and .u32 (t.a.toNat : Int) (t.c.toNat : Int))) (bits .and .u32 (t.b.toNat : Int) (t.c.toNat : Int))) % 4294967296 = ((rTwo t).toNat : Int) := by
  simp only [q_xor, q_and]
  exact q_sum2 _ _
theorem two_eq' (t : St) (o : UInt32) : ((o.toNat : Int) + (bits .xor .u32 (bits .xor .u32 ((rotr t.a 2).toNat : Int) ((rotr t.a 13).toNat : Int)) ((rotr t.a 22).toNat : Int) + bits .xor .u32 (bits .xor .u32 (bits .and .u32 (t.a.toNat : Int) (t.b.toNat : Int)) (bits .and .u32 (t.a.toNat : Int) (t.c.toNat : Int))) (bits .and .u32 (t.b.toNat : Int) (t.c.toNat : Int)))) % 4294967296 = ((o + rTwo t).toNat : Int) := by
  rw [← q_sum2, ← two_eq]; omega
/-- Eight words as a list. -/
def St.l (s : St) : List UInt32 := [s.a, s.b, s.c, s.d, s.e, s.f, s.g, s.h]
theorem St.vs_l (s : St) : s.vs = (s.l.map qv).toArray := rfl
/-- The first k sums, and the others as they were. -/
def part (t s : St) (k : Nat) : List UInt32 := List.zipWith (· + ·) (t.l.take k) (s.l.take k) ++ t.l.drop k
theorem part_zero (t s : St) : part t s 0 = t.l := rfl
theorem part_eight (t s : St) : part t s 8 = (t.add s).l := rfl
theorem part_at (t s : St) (k : Nat) (h : k < 8) : (part t s k).getD k 0 = t.l.getD k 0 := match k, h with
  | 0, _ => rfl | 1, _ => rfl | 2, _ => rfl | 3, _ => rfl | 4, _ => rfl | 5, _ => rfl | 6, _ => rfl | 7, _ => rfl
theorem part_length (t s : St) (k : Nat) (h : k ≤ 8) : (part t s k).length = 8 := match k, h with
  | 0, _ => rfl | 1, _ => rfl | 2, _ => rfl | 3, _ => rfl | 4, _ => rfl | 5, _ => rfl | 6, _ => rfl | 7, _ => rfl | 8, _ => rfl
theorem part_set (t s : St) (k : Nat) (h : k < 8) : ((part t s k).map qv).toArray.setIfInBounds k (.int .u32 ((t.l.getD k 0 + s.l.getD k 0).toNat : Int)) = ((part t s (k + 1)).map qv).toArray := match k, h with
  | 0, _ => rfl | 1, _ => rfl | 2, _ => rfl | 3, _ => rfl | 4, _ => rfl | 5, _ => rfl | 6, _ => rfl | 7, _ => rfl
/-- The cells that a round reads. -/
def RC (w : World) (g5 g6 g7 k : Nat) (t : St) (kk ww : UInt32) : Prop :=
  w.cell? ⟨g7, 0, none⟩ = some (.int .u32 (t.a.toNat : Int)) ∧ w.cell? ⟨g7, 1, none⟩ = some (.int .u32 (t.b.toNat : Int)) ∧ w.cell? ⟨g7, 2, none⟩ = some (.int .u32 (t.c.toNat : Int)) ∧ w.cell? ⟨g7, 3, none⟩ = some (.int .u32 (t.d.toNat : Int)) ∧
  w.cell? ⟨g7, 4, none⟩ = some (.int .u32 (t.e.toNat : Int)) ∧ w.cell? ⟨g7, 5, none⟩ = some (.int .u32 (t.f.toNat : Int)) ∧ w.cell? ⟨g7, 6, none⟩ = some (.int .u32 (t.g.toNat : Int)) ∧ w.cell? ⟨g7, 7, none⟩ = some (.int .u32 (t.h.toNat : Int)) ∧
  w.cell? ⟨g5, k, none⟩ = some (.int .u32 (kk.toNat : Int)) ∧ w.cell? ⟨g6, k, none⟩ = some (.int .u32 (ww.toNat : Int))
theorem arr_cell {w : World} {g t k : Nat} {l : List UInt32} (h : w.heap[g]? = some (.cells (l.map qv).toArray t (0, 0))) (hk : k < l.length) : w.cell? ⟨g, k, none⟩ = some (.int .u32 ((l.getD k 0).toNat : Int)) := by
  rw [(blk h).1 k]
  simp [List.getElem?_eq_getElem hk, qv]
theorem RC_of {w : World} {g5 g6 g7 k : Nat} {t : St} {t5 t7 : TypeId} {ws : List UInt32} (h5 : w.heap[g5]? = some (.cells (Ks.map qv).toArray t5 (0, 0))) (h6 : w.heap[g6]? = some (.cells (ws.map qv).toArray t5 (0, 0))) (h7 : w.heap[g7]? = some (.cells t.vs t7 (0, 0))) (hk : k < 64) (hw : ws.length = 64) :
    RC w g5 g6 g7 k t (Ks.getD k 0) (ws.getD k 0) := by
  obtain ⟨hc, _⟩ := blk h7
  exact ⟨hc 0, hc 1, hc 2, hc 3, hc 4, hc 5, hc 6, hc 7, arr_cell h5 (by simpa [Ks] using hk), arr_cell h6 (by omega)⟩
theorem RC_drewN {w : World} {g5 g6 g7 k : Nat} {t : St} {kk ww : UInt32} (h : RC w g5 g6 g7 k t kk ww) (n : Nat) : RC (w.drewN n) g5 g6 g7 k t kk ww := h

set_option maxHeartbeats 1000000 in
set_option maxRecDepth 100000 in
theorem step_calls {e b0 : Nat} {v : Value} {x : List UInt8} (s : St) (w : World) (hv : Sl bv e w b0 v x) (hx : x.length = 64) :
    Calls Try.prog 43 #[.agg s.vs, v] w fun e w' => e = .returned (.agg (stepL s x).vs) ∧ Below w.heap.size w w' := by
  have HV := Aside0.mk hv
  have HX := Aside0.mk hx
  clear hv hx
  unfold St.vs qv
  go_enter Try.func43, Try.ntmps43
  go_upto_region 1 with fail
  go_cut [5, 6, 7] from 5 to 17 (fun p5 p6 p7 wx => Aside0 (∃ g5 g6 g7 : Nat, w.heap.size + 1 < g5 ∧ w.heap.size + 1 < g6 ∧ w.heap.size + 1 < g7 ∧ g5 ≠ g6 ∧ g5 ≠ g7 ∧ g6 ≠ g7 ∧ p5 = .pointer (some ⟨g5, 0, none⟩) ∧ p6 = .pointer (some ⟨g6, 0, none⟩) ∧ p7 = .pointer (some ⟨g7, 0, none⟩) ∧
    wx.heap[g5]? = some (.cells (Ks.map qv).toArray 59 (0, 0)) ∧ wx.heap[g6]? = some (.cells ((sched x 64).map qv).toArray 59 (0, 0)) ∧ wx.heap[g7]? = some (.cells s.vs 54 (0, 0)) ∧
    wx.heap[w.heap.size]? = some (.cells s.vs 54 (0, 0)) ∧ wx.heap[w.heap.size + 1]? = some (.cells (Zs 8) 54 (0, 0)) ∧ Below w.heap.size w wx))
  case first =>
    refine wp_region_from (by kernel_rfl) (fun a0 W => StepI a0 W s v x) ?_ ?_ ?_
    · exact ⟨by simp, rfl, rfl, fun _ _ _ _ _ _ _ _ => rfl, fun k => by simp at k, fun k => by simp at k, fun k => by simp at k, fun k => by simp at k, ⟨0, 0, 0, fun k => by simp at k, fun k => by simp at k, fun k => by simp at k, fun k => by simp at k, fun k => by simp at k, fun k => by simp at k⟩, (Below.refl _ _).drew, fun k => by simp at k, fun k => by simp at k, fun k => by simp at k⟩
    · intro l a wz hI hr
      have hno := ready_no hr
      have c0 : l.getD 0 false = true := by
        refine getD_tt (by rw [hI.sz]; decide) ?_
        cases hq : l.getD 0 true with
        | true => rfl
        | false =>
          refine absurd (mem_ready.2 ⟨hq, _, rfl, ?_⟩) (hno 0)
          intro e he hb
          simp at he
          repeat (first | (rcases he with rfl | he; (first | assumption | exact absurd hb (by decide))) | (subst he; (first | assumption | exact absurd hb (by decide))) | exact he.elim)
      have c1 : l.getD 1 false = true := by
        refine getD_tt (by rw [hI.sz]; decide) ?_
        cases hq : l.getD 1 true with
        | true => rfl
        | false =>
          refine absurd (mem_ready.2 ⟨hq, _, rfl, ?_⟩) (hno 1)
          intro e he hb
          simp at he
          repeat (first | (rcases he with rfl | he; (first | assumption | exact absurd hb (by decide))) | (subst he; (first | assumption | exact absurd hb (by decide))) | exact he.elim)
      have c2 : l.getD 2 false = true := by
        refine getD_tt (by rw [hI.sz]; decide) ?_
        cases hq : l.getD 2 true with
        | true => rfl
        | false =>
          refine absurd (mem_ready.2 ⟨hq, _, rfl, ?_⟩) (hno 2)
          intro e he hb
          simp at he
          repeat (first | (rcases he with rfl | he; (first | assumption | exact absurd hb (by decide))) | (subst he; (first | assumption | exact absurd hb (by decide))) | exact he.elim)
      have c4 : l.getD 4 false = true := by
        refine getD_tt (by rw [hI.sz]; decide) ?_
        cases hq : l.getD 4 true with
        | true => rfl
        | false =>
          refine absurd (mem_ready.2 ⟨hq, _, rfl, ?_⟩) (hno 4)
          intro e he hb
          simp at he
          repeat (first | (rcases he with rfl | he; (first | assumption | exact absurd hb (by decide))) | (subst he; (first | assumption | exact absurd hb (by decide))) | exact he.elim)
      have c5 : l.getD 5 false = true := by
        refine getD_tt (by rw [hI.sz]; decide) ?_
        cases hq : l.getD 5 true with
        | true => rfl
        | false =>
          refine absurd (mem_ready.2 ⟨hq, _, rfl, ?_⟩) (hno 5)
          intro e he hb
          simp at he
          repeat (first | (rcases he with rfl | he; (first | assumption | exact absurd hb (by decide))) | (subst he; (first | assumption | exact absurd hb (by decide))) | exact he.elim)
      have c6 : l.getD 6 false = true := by
        refine getD_tt (by rw [hI.sz]; decide) ?_
        cases hq : l.getD 6 true with
        | true => rfl
        | false =>
          refine absurd (mem_ready.2 ⟨hq, _, rfl, ?_⟩) (hno 6)
          intro e he hb
          simp at he
          repeat (first | (rcases he with rfl | he; (first | assumption | exact absurd hb (by decide))) | (subst he; (first | assumption | exact absurd hb (by decide))) | exact he.elim)
      have c7 : l.getD 7 false = true := by
        refine getD_tt (by rw [hI.sz]; decide) ?_
        cases hq : l.getD 7 true with
        | true => rfl
        | false =>
          refine absurd (mem_ready.2 ⟨hq, _, rfl, ?_⟩) (hno 7)
          intro e he hb
          simp at he
          repeat (first | (rcases he with rfl | he; (first | assumption | exact absurd hb (by decide))) | (subst he; (first | assumption | exact absurd hb (by decide))) | exact he.elim)
      have c8 : l.getD 8 false = true := by
        refine getD_tt (by rw [hI.sz]; decide) ?_
        cases hq : l.getD 8 true with
        | true => rfl
        | false =>
          refine absurd (mem_ready.2 ⟨hq, _, rfl, ?_⟩) (hno 8)
          intro e he hb
          simp at he
          repeat (first | (rcases he with rfl | he; (first | assumption | exact absurd hb (by decide))) | (subst he; (first | assumption | exact absurd hb (by decide))) | exact he.elim)
      have c3 : l.getD 3 false = true := by
        refine getD_tt (by rw [hI.sz]; decide) ?_
        cases hq : l.getD 3 true with
        | true => rfl
        | false =>
          refine absurd (mem_ready.2 ⟨hq, _, rfl, ?_⟩) (hno 3)
          intro e he hb
          simp at he
          repeat (first | (rcases he with rfl | he; (first | assumption | exact absurd hb (by decide))) | (subst he; (first | assumption | exact absurd hb (by decide))) | exact he.elim)
      have c9 : l.getD 9 false = true := by
        refine getD_tt (by rw [hI.sz]; decide) ?_
        cases hq : l.getD 9 true with
        | true => rfl
        | false =>
          refine absurd (mem_ready.2 ⟨hq, _, rfl, ?_⟩) (hno 9)
          intro e he hb
          simp at he
          repeat (first | (rcases he with rfl | he; (first | assumption | exact absurd hb (by decide))) | (subst he; (first | assumption | exact absurd hb (by decide))) | exact he.elim)
      clear hno hr
      obtain ⟨g5, g6, g7, rfl, q5, q6, q7, e1, e2, e3, f5, f6, f7⟩ := hI.frame rfl (fun j hj => match j, hj with | 0, _ => c0 | 1, _ => c1 | 2, _ => c2 | 3, _ => c3 | 4, _ => c4 | 5, _ => c5 | 6, _ => c6 | 7, _ => c7 | 8, _ => c8 | 9, _ => c9)
      have hlow := hI.low
      have h9 : Aside0 (∃ G5 G6 G7 : Nat, w.heap.size + 1 < G5 ∧ w.heap.size + 1 < G6 ∧ w.heap.size + 1 < G7 ∧ G5 ≠ G6 ∧ G5 ≠ G7 ∧ G6 ≠ G7 ∧ Value.pointer (some ⟨g5, 0, none⟩) = .pointer (some ⟨G5, 0, none⟩) ∧ Value.pointer (some ⟨g6, 0, none⟩) = .pointer (some ⟨G6, 0, none⟩) ∧ Value.pointer (some ⟨g7, 0, none⟩) = .pointer (some ⟨G7, 0, none⟩) ∧
          wz.heap[G5]? = some (.cells (Ks.map qv).toArray 59 (0, 0)) ∧ wz.heap[G6]? = some (.cells ((sched x 64).map qv).toArray 59 (0, 0)) ∧ wz.heap[G7]? = some (.cells s.vs 54 (0, 0)) ∧
          wz.heap[w.heap.size]? = some (.cells s.vs 54 (0, 0)) ∧ wz.heap[w.heap.size + 1]? = some (.cells (Zs 8) 54 (0, 0)) ∧ Below w.heap.size w wz) :=
        ⟨g5, g6, g7, by simp at q5; omega, by simp at q6; omega, by simp at q7; omega, e1, e2, e3, rfl, rfl, rfl, f5, f6, f7, below_heap hlow (heap_old (heap_new rfl)), below_heap hlow (heap_new (by simp)), below_step (((Below.refl _ _).alloc (Nat.le_refl _) _).alloc (by simp) _) hlow⟩
      clear hI hlow e1 e2 e3 f5 f6 f7 q5 q6 q7 c0 c1 c2 c3 c4 c5 c6 c7 c8 c9
      unfold seven
      simp only [Act.put, List.setIfInBounds_toArray, List.set_cons_zero, List.set_cons_succ]
      go_wp2_with fail
      go_meet
      exact h9
    · intro l a wz i hI hi
      obtain ⟨hi0, o, ho, hdep⟩ := mem_ready.1 hi
      have hlt : i < 10 := (Array.getElem?_eq_some_iff.1 ho).1
      match i, hlt with
      | 0, _ =>
        obtain rfl := Option.some.inj ho
        refine wpOp_plain ho rfl (op_call 47 #[] #[] rfl _ rfl rfl rfl #[] (by simp) ((const_calls wz).mono ?_))
        rintro e w' ⟨rfl, hb⟩
        exact ⟨_, rfl, (hI.go hb).m0⟩
      | 1, _ =>
        obtain rfl := Option.some.inj ho
        refine wpOp_plain ho rfl (op_move (.tmp 1) rfl ?_)
        rw [tmp_at ((hI.same 1 (by decide) (by decide) (by decide) (by decide) (by decide) (by decide) (by decide)).trans rfl)]
        exact hI.m1
      | 2, _ =>
        obtain rfl := Option.some.inj ho
        have hd := hdep ⟨1, .data⟩ (by simp) rfl
        refine wpOp_plain ho rfl (op_call 48 #[.tmp 15] #[22] rfl _ rfl rfl rfl #[v] (by simp [tmp_at (hI.s15 hd)]) ((spread_calls (b0 := b0) (e := e) (x := x) wz (HV.out.below (below_step ((((Below.refl _ _).alloc (Nat.le_refl _) _).alloc (by simp) _)) hI.low)) HX.out).mono ?_))
        rintro e w' ⟨rfl, hb⟩
        exact ⟨_, rfl, (hI.go hb).m2⟩
      | 3, _ =>
        obtain rfl := Option.some.inj ho
        refine wpOp_plain ho rfl (wp_load_row 54 (.tmp 2) rfl w.heap.size (tmp_at ((hI.same 2 (by decide) (by decide) (by decide) (by decide) (by decide) (by decide) (by decide)).trans rfl)) 54 s.vs (0, 0) _ ?_ Try.underlying54 rfl info_state hI.m3)
        exact below_heap hI.low (heap_old (heap_new rfl))
      | 4, _ =>
        obtain rfl := Option.some.inj ho
        exact wpOp_plain ho rfl (op_alloc 59 rfl _ _ (alloc_arr wz) (hI.m4 hi0))
      | 5, _ =>
        obtain rfl := Option.some.inj ho
        exact wpOp_plain ho rfl (op_alloc 59 rfl _ _ (alloc_arr wz) (hI.m5 hi0))
      | 6, _ =>
        obtain rfl := Option.some.inj ho
        exact wpOp_plain ho rfl (op_alloc 54 rfl _ _ (alloc_st wz) (hI.m6 hi0))
      | 7, _ =>
        obtain rfl := Option.some.inj ho
        have hd := hdep ⟨4, .data⟩ (by simp) rfl
        have hd2 := hdep ⟨0, .data⟩ (by simp) rfl
        obtain ⟨g5, g6, g7, h5, h6, h7, d1, d2, d3⟩ := hI.blocks
        have hh := (h5 hd).2.2
        rw [getD_tf hi0] at hh
        refine wpOp_plain ho rfl (wp_store_arr 59 (.tmp 5) (.tmp 14) rfl g5 KsA _ _ (tmp_at (h5 hd).1) (tmp_at (hI.s14 hd2)) hh (by rw [if_neg (by decide), size_Zs, size_KsA]) (by rw [size_KsA]; exact info_u32x64) (one_qv _) ?_)
        intro w' hh' hgr
        exact hI.m7 hd (getD_tf hi0) (h5 hd).1 hh' hgr
      | 8, _ =>
        obtain rfl := Option.some.inj ho
        have hd := hdep ⟨5, .data⟩ (by simp) rfl
        have hd2 := hdep ⟨2, .data⟩ (by simp) rfl
        obtain ⟨g5, g6, g7, h5, h6, h7, d1, d2, d3⟩ := hI.blocks
        have hh := (h6 hd).2.2
        rw [getD_tf hi0] at hh
        refine wpOp_plain ho rfl (wp_store_arr 59 (.tmp 6) (.tmp 16) rfl g6 (scA x) _ _ (tmp_at (h6 hd).1) (tmp_at (hI.s16 hd2)) hh (by rw [if_neg (by decide), size_Zs, size_scA]) (by rw [size_scA]; exact info_u32x64) (one_qv _) ?_)
        intro w' hh' hgr
        exact hI.m8 hd (getD_tf hi0) (h6 hd).1 hh' hgr
      | 9, _ =>
        obtain rfl := Option.some.inj ho
        have hd := hdep ⟨6, .data⟩ (by simp) rfl
        have hd2 := hdep ⟨3, .data⟩ (by simp) rfl
        obtain ⟨g5, g6, g7, h5, h6, h7, d1, d2, d3⟩ := hI.blocks
        have hh := (h7 hd).2.2
        rw [getD_tf hi0] at hh
        refine wpOp_plain ho rfl (wp_store_arr 54 (.tmp 7) (.tmp 17) rfl g7 s.vs _ _ (tmp_at (h7 hd).1) (tmp_at (hI.s17 hd2)) hh (by rw [if_neg (by decide), size_Zs, size_vs]) (by rw [size_vs]; exact info_state) (one_vs s) ?_)
        intro w' hh' hgr
        exact hI.m9 hd (getD_tf hi0) (h7 hd).1 hh' hgr
  case rest =>
    obtain ⟨g5, g6, g7, q5, q6, q7, e1, e2, e3, rfl, rfl, rfl, f5, f6, f7, fs, fr, hb⟩ := hcut.out
    have HQ := Aside0.mk (And.intro q5 (And.intro q6 (And.intro q7 (And.intro e1 (And.intro e2 e3)))))
    have H0 := Aside0.mk (show wc.heap[g7]? = some (.cells (rnds (sched x 64) s 0).vs 54 (0, 0)) ∧ wc.heap[g5]? = some (.cells (Ks.map qv).toArray 59 (0, 0)) ∧ wc.heap[g6]? = some (.cells ((sched x 64).map qv).toArray 59 (0, 0)) ∧
      wc.heap[w.heap.size]? = some (.cells s.vs 54 (0, 0)) ∧ wc.heap[w.heap.size + 1]? = some (.cells (Zs 8) 54 (0, 0)) ∧ Below w.heap.size w wc from ⟨f7, f5, f6, fs, fr, hb⟩)
    clear q5 q6 q7 e1 e2 e3 f5 f6 f7 fs fr hb hcut
    go_wp2_with fail
    go_loopw [18] (fun i wr => ∃ k : Nat, k ≤ 64 ∧ i = .int .i64 k ∧ Aside0 (wr.heap[g7]? = some (.cells (rnds (sched x 64) s k).vs 54 (0, 0)) ∧ wr.heap[g5]? = some (.cells (Ks.map qv).toArray 59 (0, 0)) ∧ wr.heap[g6]? = some (.cells ((sched x 64).map qv).toArray 59 (0, 0)) ∧
      wr.heap[w.heap.size]? = some (.cells s.vs 54 (0, 0)) ∧ wr.heap[w.heap.size + 1]? = some (.cells (Zs 8) 54 (0, 0)) ∧ Below w.heap.size w wr)) (fun i wr => 64 - (intOf i).toNat)
    case atStart => exact ⟨0, by omega, rfl, H0⟩
    case round =>
      obtain ⟨k, hk, rfl, hs⟩ := hrel
      clear H0
      by_cases hlt : k < 64
      · have HR := Aside0.mk (RC_of hs.out.2.1 hs.out.2.2.1 hs.out.1 hlt (sched_length x 64))
        obtain ⟨t, ht⟩ : ∃ t, t = rnds (sched x 64) s k := ⟨_, rfl⟩
        obtain ⟨kk, hkk⟩ : ∃ t, t = Ks.getD k 0 := ⟨_, rfl⟩
        obtain ⟨ww, hww⟩ : ∃ t, t = (sched x 64).getD k 0 := ⟨_, rfl⟩
        rw [← ht, ← hkk, ← hww] at HR
        have HT := Aside0.mk (And.intro ht (And.intro hkk hww))
        clear ht hkk hww
        obtain ⟨c0, c1, c2, c3, c4, c5, c6, c7, ck, cw⟩ := HR.out
        go_wp2_with fail
        go_quiet (fail)
        obtain ⟨wq, hwq⟩ : ∃ wq, wq = wr.drewN nq := ⟨_, rfl⟩
        have HS3 := Aside0.mk (show RC wq g5 g6 g7 k t kk ww by rw [hwq]; exact RC_drewN HR.out nq)
        rw [← hwq]
        have HWQ := Aside0.mk hwq
        clear c0 c1 c2 c3 c4 c5 c6 c7 ck cw hwq
        obtain ⟨c0, c1, c2, c3, c4, c5, c6, c7, ck, cw⟩ := HS3.out
        go_wp2_with fail
        go_quiet (first | ((go_at_call_of 49 (Value.int IntKind.i64 6); exact Calls.quiet_of_same (turn_6 _ _))) | ((go_at_call_of 49 (Value.int IntKind.i64 11); exact Calls.quiet_of_same (turn_11 _ _))) | ((go_at_call_of 49 (Value.int IntKind.i64 25); exact Calls.quiet_of_same (turn_25 _ _))))
        obtain ⟨wq2, hwq2⟩ : ∃ wq2, wq2 = wq.drewN nq := ⟨_, rfl⟩
        have HS4 := Aside0.mk (show RC wq2 g5 g6 g7 k t kk ww by rw [hwq2]; exact RC_drewN HS3.out nq)
        rw [← hwq2]
        have HWQ2 := Aside0.mk hwq2
        clear c0 c1 c2 c3 c4 c5 c6 c7 ck cw hwq2
        obtain ⟨c0, c1, c2, c3, c4, c5, c6, c7, ck, cw⟩ := HS4.out
        go_wp2_with fail
        rw [one_eq]
        obtain ⟨o1, ho1⟩ : ∃ o1, o1 = rOne t kk ww := ⟨_, rfl⟩
        rw [← ho1]
        have HO1 := Aside0.mk ho1
        clear ho1
        go_quiet (first | ((go_at_call_of 49 (Value.int IntKind.i64 2); exact Calls.quiet_of_same (turn_2 _ _))) | ((go_at_call_of 49 (Value.int IntKind.i64 13); exact Calls.quiet_of_same (turn_13 _ _))) | ((go_at_call_of 49 (Value.int IntKind.i64 22); exact Calls.quiet_of_same (turn_22 _ _))))
        obtain ⟨wq3, hwq3⟩ : ∃ wq3, wq3 = wq2.drewN nq := ⟨_, rfl⟩
        have HS5 := Aside0.mk (show RC wq3 g5 g6 g7 k t kk ww by rw [hwq3]; exact RC_drewN HS4.out nq)
        have hs2 : wq3.heap = wr.heap ∧ Below w.heap.size w wq3 := by
          rw [hwq3, HWQ2.out, HWQ.out]
          exact ⟨rfl, below_drewN (below_drewN (below_drewN hs.out.2.2.2.2.2 _) _) _⟩
        have HS6 := Aside0.mk hs2
        rw [← hwq3]
        clear c0 c1 c2 c3 c4 c5 c6 c7 ck cw hwq3 hs2
        obtain ⟨c0, c1, c2, c3, c4, c5, c6, c7, ck, cw⟩ := HS5.out
        have hg7 : wq3.heap[g7]? = some (.cells t.vs 54 (0, 0)) := by rw [HS6.out.1, HT.out.1]; exact hs.out.1
        have HG7 := Aside0.mk hg7
        clear hg7
        go_wp2_with (refine wpList_store_arr rfl 54 (.tmp 7) (.tmp 96) rfl g7 _ _ 54 rfl rfl HG7.out (by rfl) info_state (by simp [Value.oneCell']) ?_; intro w5 hh5 hgr5)
        rw [two_eq', q_sum2] at hh5
        have hh6 : w5.heap[g7]? = some (.cells (rnds (sched x 64) s (k + 1)).vs 54 (0, 0)) := by
          rw [hh5, rnds, ← HT.out.1, ← HT.out.2.1, ← HT.out.2.2, HO1.out]; rfl
        have hq := HQ.out
        have hlow := hs.out.2.2.2.2.2
        have hK : ∀ (g : Nat) (o : Obj), g ≠ g7 → wr.heap[g]? = some o → w5.heap[g]? = some o := fun g o hne h => by
          have h' : wq3.heap[g]? = some o := by rw [HS6.out.1]; exact h
          exact (hgr5.block g (blk_lt h') (fun e => hne (Option.some.inj e))).trans h'
        refine ⟨⟨k + 1, by omega, by go_num, ⟨hh6, hK _ _ hq.2.2.2.2.1 hs.out.2.1, hK _ _ hq.2.2.2.2.2 hs.out.2.2.1, hK _ _ (by omega) hs.out.2.2.2.1, hK _ _ (by omega) hs.out.2.2.2.2.1, HS6.out.2.grown hgr5 HS6.out.2.size (fun j hj => by cases hj; omega)⟩⟩, by simp [intOf]; omega⟩
      · obtain rfl : k = 64 := by omega
        obtain ⟨t, ht⟩ : ∃ t, t = rnds (sched x 64) s 64 := ⟨_, rfl⟩
        rw [← ht] at hs
        have HT := Aside0.mk ht
        clear ht
        have H1 := Aside0.mk (show wr.heap[g7]? = some (.cells ((part t s 0).map qv).toArray 54 (0, 0)) ∧ wr.heap[w.heap.size]? = some (.cells (s.l.map qv).toArray 54 (0, 0)) ∧ wr.heap[w.heap.size + 1]? = some (.cells (Zs 8) 54 (0, 0)) ∧ Below w.heap.size w wr from
          ⟨hs.out.1, hs.out.2.2.2.1, hs.out.2.2.2.2.1, hs.out.2.2.2.2.2⟩)
        clear hs hk hlt
        obtain ⟨wo, rfl⟩ : ∃ wo : World, wo = wr := ⟨_, rfl⟩
        go_wp2_with fail
        go_loopw [98] (fun i wr => ∃ k : Nat, k ≤ 8 ∧ i = .int .i64 k ∧ Aside0 (wr.heap[g7]? = some (.cells ((part t s k).map qv).toArray 54 (0, 0)) ∧ wr.heap[w.heap.size]? = some (.cells (s.l.map qv).toArray 54 (0, 0)) ∧ wr.heap[w.heap.size + 1]? = some (.cells (Zs 8) 54 (0, 0)) ∧ Below w.heap.size w wr)) (fun i wr => 8 - (intOf i).toNat)
        case atStart => exact ⟨0, by omega, rfl, H1⟩
        case round =>
          obtain ⟨k, hk, rfl, hs⟩ := hrel
          clear H1
          by_cases hlt : k < 8
          · have c1 := arr_cell hs.out.1 (by rw [part_length t s k hk]; exact hlt)
            rw [part_at t s k hlt] at c1
            have c2 := arr_cell hs.out.2.1 (show k < s.l.length by exact hlt)
            have f1 := (blk hs.out.1).2 k
            obtain ⟨tk, htk⟩ : ∃ z, z = t.l.getD k 0 := ⟨_, rfl⟩
            obtain ⟨sk, hsk⟩ : ∃ z, z = s.l.getD k 0 := ⟨_, rfl⟩
            rw [← htk] at c1
            rw [← hsk] at c2
            have HK := Aside0.mk (And.intro htk hsk)
            have hb1 : (k : Int) < 8 := by omega
            have hb0 : (0 : Int) ≤ (k : Int) := by omega
            clear htk hsk
            go_wp2_with fail
            go_region
            go_wp2_with fail
            have hq := HQ.out
            have e1 : ((part t s k).map qv).toArray.setIfInBounds k (.int .u32 (((tk + sk : UInt32).toNat : Nat) : Int)) = ((part t s (k + 1)).map qv).toArray := by rw [HK.out.1, HK.out.2]; exact part_set t s k hlt
            rw [q_sum2]
            refine ⟨⟨k + 1, by omega, by go_num, ⟨?_, ?_, ?_, ?_⟩⟩, by simp [intOf]; omega⟩
            · rw [← e1]; exact arr_set hs.out.1
            · exact heap_set (by show w.heap.size ≠ g7; omega) hs.out.2.1
            · exact heap_set (by show w.heap.size + 1 ≠ g7; omega) hs.out.2.2.1
            · exact (hs.out.2.2.2.setCell (by show w.heap.size ≤ g7; omega) _).drew
          · obtain rfl : k = 8 := by omega
            have hsf : (t.add s) = stepL s x := by rw [HT.out]; rfl
            have hg7 : wr.heap[g7]? = some (.cells (t.add s).vs 54 (0, 0)) := by rw [hs.out.1, part_eight]; rfl
            have hg4 := hs.out.2.2.1
            have hlow := hs.out.2.2.2
            have HQQ := Aside0.mk hg7
            have HQ4 := Aside0.mk hg4
            clear hg7 hg4 hs
            have HSF := Aside0.mk hsf
            clear hsf
            go_wp2_with (first | (refine wpList_load_row rfl 54 (.tmp 7) rfl g7 rfl 54 _ (0, 0) _ HQQ.out Try.underlying54 rfl info_state ?_) | (refine wpList_store_arr rfl 54 (.tmp 4) (.tmp 110) rfl (w.heap.size + 1) (t.add s).vs _ 54 rfl rfl HQ4.out (by rw [size_Zs]; rfl) info_state (one_vs _) ?_; intro w6 hh6 hgr6))
            refine bodyPost_ret (v := .agg (t.add s).vs) (results_cell_row rfl _ _ (w.heap.size + 1) 54 _ (0, 0) _ rfl hh6 Try.underlying54 rfl info_state) rfl ⟨by rw [HSF.out]; rfl, hlow.grown hgr6 hlow.size (fun j hj => by cases hj; omega)⟩
end Go.Proofs.Ytjoljmkedghcbaa
