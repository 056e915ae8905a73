/-
  Next: the next visits. No condition but lengths.
-/
import Derived.Test.YtoigmepkhiknbaaDoorSchOne
import Derived.Test.YtoigmepkhiknbaaDoorAppRows
namespace Go.Proofs.YtoigmepkhiknbaaDoor
open Go.RowKit Go.Maps Go.Joins
set_option linter.unusedVariables false
set_option linter.unusedSimpArgs false

def visC (x : Ent) : List Value := [.string (str x.1), .int .i64 (x.2 : Int)]
theorem visC_len (x : Ent) : (visC x).length = 2 := rfl
theorem visC_one (t : Ent) : ∀ c ∈ visC t, c.oneCell' = true := by
  intro c hc
  simp only [visC, List.mem_cons, List.not_mem_nil, or_false] at hc
  rcases hc with rfl | rfl <;> rfl
theorem info_vis : (Tryd.prog.info? 36).map (fun i => (i.zero, i.size, i.bytes)) = some (some (.agg #[.string ⟨#[]⟩, .int .i64 0]), 2, 24) := by kernel_rfl
theorem slc_vis {w : World} {b g : Nat} {t : Ent} (h : w.heap[g]? = some (.cells #[.string (str t.1), .int .i64 (t.2 : Int)] 36 (0, 0))) : SlC visC 36 w b (.slice (some ⟨g, 0, none⟩) 1 1) [t] :=
  SlC.of_own (cells := visC) (xs := [t]) (k := 2) (base := 0) ⟨by simp [visC_len], .inr ⟨g, 1, _, rfl, Nat.zero_le _, h, Nat.le_refl _, by simp [maxLen], by simp, by simp [visC]⟩⟩ b

theorem goO_from {S : SS} (hb : S.lb ≤ 1000000) : ∀ {l : List Ent} {f : Option Ent} {x : Ent}, goO S l f = some x → f = some x ∨ (∃ n, (x.1, n) ∈ l ∧ (x.2 = 0 ∨ x.2 < n))
  | [], f, x, h => .inl h
  | (p, n) :: r, f, x, h => by
    rw [goO] at h
    split at h
    · rcases goO_from hb h with h | ⟨m, h1, h2⟩
      · exact .inl h
      · exact .inr ⟨m, List.mem_cons_of_mem _ h1, h2⟩
    · split at h
      · rename_i h0 hc
        injection h with h
        subst h
        simp only [Bool.and_eq_true, decide_eq_true_eq] at hc
        exact .inr ⟨n, List.mem_cons_self, .inr hc.1⟩
      · rcases goO_from hb h with h | ⟨m, h1, h2⟩
        · injection h with h
          cases f with
          | some y => exact .inl (by rw [← h]; rfl)
          | none =>
            simp only [Option.getD_none] at h
            subst h
            exact .inr ⟨n, List.mem_cons_self, .inl rfl⟩
        · exact .inr ⟨m, List.mem_cons_of_mem _ h1, h2⟩
theorem nextV_bd {S : SS} (hg : Good S.l) (hb : S.lb ≤ 1000000) : (nextV S).1.length ≤ 60 ∧ (nextV S).2 ≤ 4096 := by
  unfold nextV
  cases hc : goO S S.l none with
  | none => exact ⟨by decide, by decide⟩
  | some x =>
    rcases goO_from hb hc with h | ⟨n, h1, h2⟩
    · cases h
    · have h3 := valid_len (hg.paths _ h1)
      have h4 := hg.small _ h1
      simp only [Option.getD_some] at h3 h4 ⊢
      omega

theorem IsS.belowB {w w' : World} {base g mb b : Nat} {S : SS} (h : IsS w base g mb S) (hb : Below b w w') (h1 : g < b) (h2 : mb < b) : IsS w' base g mb S := by
  refine ⟨h.hg, h.hm, (hb.block g h1).trans h.box, ?_, h.good, h.few, h.lpv, h.lbv⟩
  obtain ⟨D, ⟨es, clock, hh, hr⟩, hM⟩ := h.map
  exact ⟨D, ⟨es, clock, (hb.block mb h2).trans hh, hr⟩, hM⟩
theorem IsS.tell {w : World} {base g mb : Nat} {S : SS} (h : IsS w base g mb S) (p : List UInt8) (b : Nat) (hp : p.length ≤ 60) (hb : b ≤ 1000000) :
    IsS (((w.setCell ⟨g, 1, none⟩ (.string (str p))).setCell ⟨g, 2, none⟩ (.int .i64 (b : Int))).setCell ⟨g, 3, none⟩ (.bool true)) base g mb ⟨S.l, p, b, true⟩ := by
  have hne := h.ne
  refine ⟨h.hg, h.hm, ?_, ?_, h.good, h.few, hp, hb⟩
  · rw [block_setCell (block_setCell (block_setCell h.box _) _) _]; rfl
  · obtain ⟨D, ⟨es, clock, hh, hr⟩, hM⟩ := h.map
    exact ⟨D, ⟨es, clock, heap_set hne.symm (heap_set hne.symm (heap_set hne.symm hh)), hr⟩, hM⟩

/-- How often. -/
def nextQ (S : SS) (q : Int) : Nat := (min (min (max q 0) 10000) (totL S.l : Int)).toNat
/-- Where the loop stands. -/
structure NxS (S : SS) (w wr : World) (base g mb : Nat) (vp vo : Value) (k : Nat) : Prop where
  is : IsS wr base g mb (afterN S k)
  keep : KeepS g mb w wr
  paths : wr.ownsRow w.heap.size 9 1 vp (keysL S.l).length ((keysL S.l).map tv)
  out : wr.ownsRow w.heap.size 36 2 vo (visN S k).length ((visN S k).flatMap visC)
theorem visN_len (S : SS) (k : Nat) : (visN S k).length = k := by simp [visN]
theorem nx_tell {S : SS} {w wr w2 : World} {base g mb k : Nat} {vp vo : Value} (h : NxS S w wr base g mb vp vo k) (hg : g < w.heap.size) (hm : mb < w.heap.size) (hb : Below wr.heap.size wr w2) :
    let x := nextV (afterN S k)
    let w3 := ((w2.setCell ⟨g, 1, none⟩ (.string (str x.1))).setCell ⟨g, 2, none⟩ (.int .i64 (x.2 : Int))).setCell ⟨g, 3, none⟩ (.bool true)
    IsS w3 base g mb (afterN S (k + 1)) ∧ KeepS g mb w w3 ∧ w3.ownsRow w.heap.size 9 1 vp (keysL S.l).length ((keysL S.l).map tv) ∧ w3.ownsRow w.heap.size 36 2 vo (visN S k).length ((visN S k).flatMap visC) := by
  intro x w3
  have hbd := nextV_bd h.is.good h.is.lbv
  refine ⟨(h.is.below hb).tell _ _ hbd.1 (Nat.le_trans hbd.2 (by decide)), ?_, ?_, ?_⟩
  · exact (((h.keep.trans (KeepS.of_below hb)).trans (KeepS.set _ _)).trans (KeepS.set _ _)).trans (KeepS.set _ _)
  · exact ownsRow_setCell_below (ownsRow_setCell_below (ownsRow_setCell_below (own_below h.paths hb) (a := ⟨g, 1, none⟩) hg _) (a := ⟨g, 2, none⟩) hg _) (a := ⟨g, 3, none⟩) hg _
  · exact ownsRow_setCell_below (ownsRow_setCell_below (ownsRow_setCell_below (own_below h.out hb) (a := ⟨g, 1, none⟩) hg _) (a := ⟨g, 2, none⟩) hg _) (a := ⟨g, 3, none⟩) hg _
theorem nx_put {S : SS} {w w3 w4 w5 : World} {base g mb k : Nat} {vp vo v' : Value} (hi : IsS w3 base g mb (afterN S (k + 1))) (hk : KeepS g mb w w3) (hp : w3.ownsRow w.heap.size 9 1 vp (keysL S.l).length ((keysL S.l).map tv)) (ho : w3.ownsRow w.heap.size 36 2 vo (visN S k).length ((visN S k).flatMap visC))
    (hg : g < w.heap.size) (hm : mb < w.heap.size) (hb : Below w3.heap.size w3 w4) (hgr : w4.grownBy w5 vo.ownBlock)
    (hv : w5.ownsRow w.heap.size 36 2 v' (visN S k ++ [nextV (afterN S k)]).length ((visN S k ++ [nextV (afterN S k)]).flatMap visC)) : NxS S w w5 base g mb vp v' (k + 1) := by
  have ho4 := own_below ho hb
  have hK : Keeps (fun e => e = 36) w.heap.size w4 w5 := Keeps.grown hgr fun j hj => by
    obtain ⟨h1, cur, fr, e', h2, rfl⟩ := own_row ho4 j hj
    exact ⟨h1, cur, _, fr, h2, rfl⟩
  have hlt := hk.size
  have hB : Below w.heap.size w4 w5 := Keeps.below hK (Nat.le_refl _) (by have := hb.size; omega)
  refine ⟨(hi.below hb).belowB hB hg hm, ?_, own_keeps (own_below hp hb) hK (by decide), by rw [visN_succ]; exact hv⟩
  have k4 := hk.trans (KeepS.of_below hb)
  exact ⟨hB.os.trans k4.os, hB.tape.trans k4.tape, hB.output.trans k4.output, Nat.le_trans k4.size hB.size, fun j hj h1 h2 => (hB.block j hj).trans (k4.block j hj h1 h2)⟩

set_option maxRecDepth 10000 in
set_option maxHeartbeats 4000000 in
theorem snext_calls {base g mb : Nat} {S : SS} (q : Int) (w : World) (h : IsS w base g mb S) (hq : -9223372036854775808 ≤ q ∧ q ≤ 9223372036854775807) :
    Calls Tryd.prog 11 #[.pointer (some ⟨g, 0, none⟩), .int .i64 q] w fun e w' => ∃ v, e = .returned v ∧ w'.ownsRow w.heap.size 36 2 v (visN S (nextQ S q)).length ((visN S (nextQ S q)).flatMap visC) ∧ (∃ A n c, v = .slice A n c) ∧ IsS w' base g mb (afterN S (nextQ S q)) ∧ KeepS g mb w w' := by
  have H := Aside0.mk h
  have hgl := blk_lt h.box
  have hml := h.mlt
  have hT : totL S.l ≤ 409600 := by
    have := tot_bd h.good.small
    have := h.few
    omega
  have HP := Aside0.mk (spaths_calls w h)
  clear h
  obtain ⟨N, hN⟩ : ∃ N, nextQ S q = N := ⟨_, rfl⟩
  have HQ := Aside0.mk hN
  rw [hN]
  obtain ⟨tt, htt⟩ : ∃ tt, totL S.l = tt := ⟨_, rfl⟩
  have HTT := Aside0.mk htt
  rw [htt] at hT
  have hN2 : (min (min (max q 0) 10000) (tt : Int)) = (N : Int) := by rw [← hN, ← htt]; unfold nextQ; omega
  clear hN htt
  go_enter Tryd.func11, Tryd.ntmps11
  go_wp2_with fail
  refine HP.out.mono ?_
  rintro e w1 ⟨vp, rfl, hvp, ⟨Ap, np, cp, rfl⟩, hb1⟩
  have HVP := Aside0.mk hvp
  have HB1 := Aside0.mk hb1
  clear hvp hb1 HP
  go_wp2_with fail
  refine (stotal_calls w1 (H.out.below HB1.out)).mono ?_
  rintro e w2 ⟨rfl, hb2⟩
  rw [HTT.out]
  have HB2 := Aside0.mk (below_step HB1.out hb2)
  have HVP2 := Aside0.mk (own_below HVP.out hb2)
  clear hb2 HVP
  go_wp2_with fail
  all_goals (
    first | rw [show (tt : Int) = (N : Int) by omega] | rw [show (10000 : Int) = (N : Int) by omega] | rw [show max q 0 = (N : Int) by omega]
    have hN3 : N ≤ 10000 := by omega
    have HN0 : Aside0 (NxS S w w2 base g mb (.slice Ap np cp) (.slice none 0 0) 0) := ⟨⟨H.out.below HB2.out, KeepS.of_below HB2.out, HVP2.out, World.ownsRow_nil _ _ _ _⟩⟩
    go_loopw [4, 17] (fun vo i wr => ∃ (k : Nat) (A : Option Addr) (n c : Nat), k ≤ N ∧ vo = .slice A n c ∧ i = .int .i64 k ∧ Aside0 (NxS S w wr base g mb (.slice Ap np cp) (.slice A n c) k)) (fun vo i wr => N - (intOf i).toNat)
    case atStart => exact ⟨0, none, 0, 0, Nat.zero_le _, rfl, rfl, HN0⟩
    case round =>
      obtain ⟨k, A, n, c, hk, rfl, rfl, hs⟩ := hrel
      by_cases hlt : k < N
      · have d1 : decide ((k : Int) < (N : Int)) = true := decide_eq_true (by omega)
        have hrl : g < wr.heap.size := blk_lt hs.out.is.box
        go_wp2_with fail
        refine (one_calls (b0 := w.heap.size) wr hs.out.is (by rw [afterN_l]; have h1 := Sl.of_own (b := w.heap.size) hs.out.paths; exact h1)).mono ?_
        rintro e w3 ⟨rfl, hb3⟩
        obtain ⟨x, hx⟩ : ∃ x, fst0 (goO (afterN S k) (afterN S k).l none) = x := ⟨_, rfl⟩
        have HX : Aside0 (nextV (afterN S k) = x) := ⟨hx⟩
        rw [hx]
        obtain ⟨bb, hbb⟩ : ∃ bb, (goO (afterN S k) (afterN S k).l none).isSome = bb := ⟨_, rfl⟩
        rw [hbb]
        have HB3 := Aside0.mk hb3
        have cb := (blk (hs.out.is.below hb3).box)
        have c0 := cb.1 0
        have c1 := cb.1 1
        have c2 := cb.1 2
        have c3 := cb.1 3
        have cf := cb.2
        simp only [List.getElem?_toArray, List.getElem?_cons_zero, List.getElem?_cons_succ] at c0 c1 c2 c3
        have hrl3 : g < w3.heap.size := Nat.lt_of_lt_of_le hrl hb3.size
        clear hb3 hx hbb cb
        obtain ⟨T1, T2, T3, T4⟩ := nx_tell hs.out hgl hml HB3.out
        rw [HX.out] at T1 T2 T3 T4
        have HT1 := Aside0.mk T1
        have HT2 := Aside0.mk T2
        have HT3 := Aside0.mk T3
        have HT4 := Aside0.mk T4
        have HVN : Aside0 (nextV (afterN S k) = x) := HX
        have hw3 := HB3.out.size
        have hkp := hs.out.keep.size
        clear T1 T2 T3 T4
        go_wp2_with (at_builtin
                     go_must (refine wpList_append_rows visC 2 visC_len (by decide) rfl (.tmp 32) (.tmp 34) 31 rfl w.heap.size 36 36 0 (.agg #[.string ⟨#[]⟩, .int .i64 0]) 24 Tryd.underlying31 info_vis rfl (by decide) (.slice A n c) (visN S k) [x] (.slice (some ⟨w3.heap.size + 1, 0, none⟩) 1 1) rfl rfl (own_below (own_below HT4.out ((Below.refl _ _).alloc (Nat.le_refl _) _)) ((Below.refl _ _).alloc (Nat.le_refl _) _)) (slc_vis (heap_new (by simp))) (fun y hy => visC_one y) (by rw [visN_len]; simp; omega) (by simp; omega) ?_)
                     intro v2 w2 hown2 hgr2 hsh2
                     obtain ⟨A2, n2, c2, rfl⟩ := hsh2
                     have H3 := Aside0.mk (nx_put HT1.out HT2.out HT3.out HT4.out hgl hml (((Below.refl _ _).alloc (Nat.le_refl _) _).alloc (by simp) _) hgr2 (by rw [HVN.out]; exact hown2))
                     clear hown2 hgr2)
        go_roundw
        case rel => exact ⟨k + 1, _, _, _, by omega, rfl, by go_num, H3⟩
        case measure => simp [intOf]; omega
      · obtain rfl : k = N := by omega
        have d1 : decide ((k : Int) < (k : Int)) = false := decide_eq_false (by omega)
        go_wp2_with fail
        go_ret
        exact ⟨_, rfl, hs.out.out, ⟨_, _, _, rfl⟩, hs.out.is, hs.out.keep⟩)
end Go.Proofs.YtoigmepkhiknbaaDoor
