/-
  A ring of blocks: Drop, Paths, Total, Round, and what nothing answers. No condition but lengths.
-/
import Derived.Test.YtoigmepkhiknbaaDoorSchFns
import Derived.Test.YtoigmepkhiknbaaDoorSchSort
namespace Go.Proofs.YtoigmepkhiknbaaDoor
open Go.RowKit Go.Maps
set_option linter.unusedVariables false
set_option linter.unusedSimpArgs false

theorem IsS.del {w w1 w' : World} {base g mb : Nat} {S : SS} {D : DataW Unit} {p : List UInt8} (h : IsS w base g mb S) (hb : Below w.heap.size w w1) (hD : MapL D S.l) (k : Nat)
    (ho : w'.ownsMap Tryd.prog 9 (plainElem Tryd.prog 3) mb k (D.del (.string p))) (hg : w1.grownBy w' (some mb)) : IsS w' base g mb ⟨delL S.l p, S.lp, S.lb, S.told⟩ ∧ KeepS g mb w w' := by
  have hM := mapL_del hD p
  have hbx := below_heap hb h.box
  refine ⟨⟨h.hg, h.hm, ?_, ⟨_, ?_, hM⟩, good_del h.good p, ?_, h.lpv, h.lbv⟩, (KeepS.of_below hb).trans (KeepS.grown hg)⟩
  · exact (hg.block g (blk_lt hbx) (fun e => h.ne (by cases e; rfl))).trans hbx
  · have := own_tight ho
    rwa [mapL_size hM] at this
  · have h1 := h.few
    have h2 := List.length_filter_le (fun x : Ent => !(x.1 == p)) S.l
    show (List.filter _ _).length ≤ 100
    omega

set_option maxRecDepth 4000 in
set_option maxHeartbeats 4000000 in
theorem sdrop_calls {base g mb : Nat} {S : SS} (p : ByteArray) (w : World) (h : IsS w base g mb S) (hp : p.size ≤ 1000000000) :
    Calls Tryd.prog 15 #[.pointer (some ⟨g, 0, none⟩), .string p] w fun e w' => e = .returned (.bool (hasL S.l p.data.toList)) ∧ IsS w' base g mb ⟨delL S.l p.data.toList, S.lp, S.lb, S.told⟩ ∧ KeepS g mb w w' := by
  have H := Aside0.mk h
  have hgl := blk_lt h.box
  obtain ⟨D, hown, hM⟩ := h.map
  have HOWN := Aside0.mk hown
  have HM := Aside0.mk hM
  have c0 := (blk h.box).1 0
  simp only [List.getElem?_toArray, List.getElem?_cons_zero] at c0
  have hhas := mapL_has hM p.data.toList
  have hkey := key_str p (by simp only [maxLen]; omega)
  clear h hM hown
  obtain ⟨o, ho⟩ : ∃ o, hasL S.l p.data.toList = o := ⟨_, rfl⟩
  rw [ho] at hhas ⊢
  clear ho
  go_enter Tryd.func15, Tryd.ntmps15
  go_wp2_with (first | (at_lookup; refine wpList_lookup_own_ok_int _ rfl _ _ 57 rfl 9 3 .i64 (string_keyed Tryd.underlying9) Tryd.underlying57 Tryd.underlying3 (Tryd.zeroValue3 _) mb _ D rfl HOWN.out _ _ rfl hkey ?_; intro c hat hwc; rw [hhas]) | (at_delete; refine wpList_delete_own _ rfl _ _ 57 9 rfl 3 (string_keyed Tryd.underlying9) Tryd.underlying57 (plainElem Tryd.prog 3) mb _ D rfl HOWN.out _ _ rfl hkey ?_; intro w2 hown2 hturn2; have H2 := Aside0.mk hown2; have HG2 := Aside0.mk hturn2.grown; clear hown2 hturn2))
  go_ret
  exact ⟨rfl, H.out.del (Below.refl _ _) HM.out _ H2.out HG2.out⟩

theorem keysL_sorted {l : List Ent} (h : Good l) : (keysL l).Pairwise (fun x y => lessB x y = true) := List.pairwise_map.2 h.sorted
theorem keysL_valid {l : List Ent} (h : Good l) : ∀ x ∈ keysL l, validB x = true := by
  intro x hx
  obtain ⟨y, hy, rfl⟩ := List.mem_map.1 hx
  exact h.paths y hy

set_option maxRecDepth 4000 in
set_option maxHeartbeats 2000000 in
theorem spaths_calls {base g mb : Nat} {S : SS} (w : World) (h : IsS w base g mb S) :
    Calls Tryd.prog 22 #[.pointer (some ⟨g, 0, none⟩)] w fun e w' => ∃ v, e = .returned v ∧ w'.ownsRow w.heap.size 9 1 v (keysL S.l).length ((keysL S.l).map tv) ∧ (∃ A n c, v = .slice A n c) ∧ Below w.heap.size w w' := by
  have hgl := blk_lt h.box
  obtain ⟨D, hown, hM⟩ := h.map
  have HS := Aside0.mk (sortedf_calls w hown (mapL_keys hM) (keysL_sorted h.good) (keysL_valid h.good) (by have := h.few; unfold keysL; rw [List.length_map]; omega))
  have HK := Aside0.mk (callsIn_wide.1 (AnyZ.keys_in Tryd.keys31 Fence.wide 5 trivial rfl (some mb) w))
  have c0 := (blk h.box).1 0
  simp only [List.getElem?_toArray, List.getElem?_cons_zero] at c0
  clear h hM hown
  go_enter Tryd.func22, Tryd.ntmps22
  go_wp2_with fail
  refine HK.out.mono ?_
  rintro e w1 ⟨rfl, rfl⟩
  go_wp2_with fail
  refine HS.out.mono ?_
  rintro e w2 ⟨v, rfl, hown2, ⟨A, n, c, rfl⟩, hb2⟩
  have H2 := Aside0.mk hown2
  have HB2 := Aside0.mk hb2
  clear hown2 hb2
  go_wp2_with fail
  go_ret
  exact ⟨_, rfl, H2.out, ⟨_, _, _, rfl⟩, HB2.out⟩

set_option maxHeartbeats 2000000 in
theorem sround_calls (t q : Int) (w : World) (ht : -9223372036854775808 ≤ t ∧ t ≤ 9223372036854775807) (hq : -9223372036854775808 ≤ q ∧ q ≤ 9223372036854775807) :
    Calls Tryd.prog 12 #[.int .i64 t, .int .i64 q] w fun e w' => e = .returned (.int .i64 (roundN t q)) ∧ w' = w := by
  by_cases h0 : t < 0
  · have HE : Aside0 (roundN t q = 0) := ⟨by unfold roundN; rw [if_pos (.inl h0)]⟩
    have d1 : decide (t < 0) = true := decide_eq_true h0
    go_enter Tryd.func12, Tryd.ntmps12
    go_wp2_with fail
    go_ret
    exact ⟨by rw [HE.out]; rfl, rfl⟩
  · have d1 : decide (t < 0) = false := decide_eq_false h0
    by_cases h1 : q < 1
    · have HE : Aside0 (roundN t q = 0) := ⟨by unfold roundN; rw [if_pos (.inr h1)]⟩
      have d2 : decide (q < 1) = true := decide_eq_true h1
      go_enter Tryd.func12, Tryd.ntmps12
      go_wp2_with fail
      go_ret
      exact ⟨by rw [HE.out]; rfl, rfl⟩
    · have d2 : decide (q < 1) = false := decide_eq_false h1
      have h2 : 0 ≤ t := by omega
      have h3 : 0 < q := by omega
      have e1 : t.tdiv q = t / q := Int.tdiv_eq_ediv_of_nonneg h2
      have e2 : t.tmod q = t % q := Int.tmod_eq_emod_of_nonneg h2
      have b1 : 0 ≤ t / q := Int.ediv_nonneg h2 (by omega)
      have b2 : t / q ≤ t := Int.ediv_le_self _ h2
      have b3 : 0 ≤ t % q := Int.emod_nonneg _ (by omega)
      have b4 : t % q < q := Int.emod_lt_of_pos _ h3
      have b5 : 0 < t % q → t / q + 1 ≤ t := fun h => by
        have h5 := Int.mul_ediv_add_emod t q
        have h7 : t / q ≤ q * (t / q) := by
          have := Int.mul_le_mul_of_nonneg_right (show (1 : Int) ≤ q by omega) b1
          omega
        omega
      have h4 : (q == 0) = false := by rw [beq_eq_false_iff_ne]; omega
      have h4' : ¬ q = 0 := by omega
      by_cases hr : 0 < t % q
      · have HE : Aside0 (roundN t q = t / q + 1) := ⟨by unfold roundN; rw [if_neg (by omega), if_pos hr]⟩
        have d3 : decide (0 < t % q) = true := decide_eq_true hr
        have b6 := b5 hr
        rw [HE.out]
        obtain ⟨D, hD⟩ : ∃ D, t / q = D := ⟨_, rfl⟩
        obtain ⟨M, hM⟩ : ∃ M, t % q = M := ⟨_, rfl⟩
        rw [hD] at e1 b1 b2 b6 ⊢
        rw [hM] at e2 b3 b4 d3 hr
        clear hD hM b5 HE
        go_enter Tryd.func12, Tryd.ntmps12
        go_wp2_with fail
        go_ret
        exact ⟨rfl, rfl⟩
      · have HE : Aside0 (roundN t q = t / q) := ⟨by unfold roundN; rw [if_neg (by omega), if_neg hr]⟩
        have d3 : decide (0 < t % q) = false := decide_eq_false hr
        rw [HE.out]
        obtain ⟨D, hD⟩ : ∃ D, t / q = D := ⟨_, rfl⟩
        obtain ⟨M, hM⟩ : ∃ M, t % q = M := ⟨_, rfl⟩
        rw [hD] at e1 b1 b2 ⊢
        rw [hM] at e2 b3 b4 d3 hr
        clear hD hM b5 HE
        go_enter Tryd.func12, Tryd.ntmps12
        go_wp2_with fail
        go_ret
        exact ⟨rfl, rfl⟩

/-! ### the sum over a map -/
def remL (l : List Ent) (left : Lit → Bool) : List Ent := l.filter fun x => left (.string x.1)
theorem rem_step {p : List UInt8} {n : Nat} {left : Lit → Bool} : ∀ {l : List Ent}, l.Pairwise (fun x y => x.1 ≠ y.1) → (p, n) ∈ l → left (.string p) = true → totL (remL l left) = n + totL (remL l (fun z => left z && !z.sameKey (.string p)))
  | [], _, h, _ => by cases h
  | x :: r, hne, h, hl => by
    rw [List.pairwise_cons] at hne
    unfold remL
    rw [List.filter_cons, List.filter_cons]
    rcases List.mem_cons.1 h with rfl | h
    · have h1 : ((Lit.string p).sameKey (.string p)) = true := beq_self_eq_true _
      have h2 : r.filter (fun x => left (.string x.1) && !(Lit.string x.1).sameKey (.string p)) = r.filter (fun x => left (.string x.1)) := by
        refine List.filter_congr fun y hy => ?_
        have h3 : (Lit.string y.1).sameKey (.string p) = false := by
          show (y.1 == p) = false
          rw [beq_eq_false_iff_ne]
          exact fun e => hne.1 y hy e.symm
        rw [h3, Bool.not_false, Bool.and_true]
      simp only [hl, h1, Bool.not_true, Bool.and_false, if_true, Bool.false_eq_true, if_false]
      rw [h2]
      simp [totL]
    · have h3 : (Lit.string x.1).sameKey (.string p) = false := by
        show (x.1 == p) = false
        rw [beq_eq_false_iff_ne]
        exact hne.1 _ h
      have ih := rem_step hne.2 h hl
      unfold remL at ih
      simp only [h3, Bool.not_false, Bool.and_true]
      split
      · simp only [totL, List.map_cons, List.sum_cons] at ih ⊢
        omega
      · exact ih
theorem rem_le (l : List Ent) (left : Lit → Bool) : totL (remL l left) ≤ totL l := by
  induction l with
  | nil => simp [totL, remL]
  | cons x r ih =>
    unfold remL at ih ⊢
    rw [List.filter_cons]
    simp only [totL, List.map_cons, List.sum_cons] at ih ⊢
    split
    · simp only [List.map_cons, List.sum_cons]; omega
    · omega
theorem rem_all {l : List Ent} {D : DataW Unit} (h : MapL D l) : remL l (Maps.has D) = l := by
  unfold remL
  rw [List.filter_eq_self]
  intro x hx
  rw [mapL_has h]
  exact List.any_eq_true.2 ⟨x, hx, beq_self_eq_true _⟩
theorem rem_none {l : List Ent} {left : Lit → Bool} (h : ∀ kl, left kl = false) : totL (remL l left) = 0 := by
  have : remL l left = [] := by unfold remL; rw [List.filter_eq_nil_iff]; intro x _; rw [h]; decide
  rw [this]; rfl

set_option maxRecDepth 4000 in
set_option maxHeartbeats 4000000 in
theorem stotal_calls {base g mb : Nat} {S : SS} (w : World) (h : IsS w base g mb S) :
    Calls Tryd.prog 19 #[.pointer (some ⟨g, 0, none⟩)] w fun e w' => e = .returned (.int .i64 (totL S.l : Int)) ∧ Below w.heap.size w w' := by
  have hgl := blk_lt h.box
  obtain ⟨D, hown, hM⟩ := h.map
  have c0 := (blk h.box).1 0
  simp only [List.getElem?_toArray, List.getElem?_cons_zero] at c0
  have hT : totL S.l ≤ 409600 := by
    have := tot_bd h.good.small
    have := h.few
    omega
  have HG := Aside0.mk h.good
  have HM := Aside0.mk hM
  have hml := hown.lt
  clear h hM
  obtain ⟨tt, htt⟩ : ∃ tt, tt = totL S.l := ⟨_, rfl⟩
  have HTT := Aside0.mk htt
  rw [← htt] at hT ⊢
  clear htt
  go_enter Tryd.func19, Tryd.ntmps19
  go_wp2_with (at_range; refine wpList_range_own _ rfl _ 57 rfl 9 3 (string_keyed Tryd.underlying9) Tryd.underlying57 (plainElem Tryd.prog 3) mb _ D rfl hown ?_; intro w1 hrg hgr hsz; have HR := Aside0.mk hrg; have HB1 := Aside0.mk (below_none hgr); clear hrg hgr)
  simp only [Act.put, List.setIfInBounds_toArray, List.set_cons_zero, List.set_cons_succ, Nat.reduceAdd]
  go_loopw [2] (fun v wr => ∃ (m : Nat) (left : Lit → Bool) (cnt : Nat), v = .int .i64 m ∧ m ≤ 409600 ∧ Aside0 (wr.ranges Tryd.prog 9 (plainElem Tryd.prog 3) mb w.heap.size S.l.length D left cnt ∧ m + totL (remL S.l left) = tt ∧ Below w.heap.size w wr)) (fun _ wr => wr.rangeLeft mb w.heap.size)
  case atStart => exact ⟨0, _, _, rfl, by omega, ⟨HR.out, by rw [rem_all HM.out, ← HTT.out]; omega, HB1.out⟩⟩
  case round =>
    obtain ⟨m, left, cnt, rfl, hm, hs⟩ := hrel
    have hrg := hs.out.1
    have HS := Aside0.mk hs.out.2
    clear hs
    go_wp2_with (at_next; refine wpList_next_ranges _ rfl _ rfl 9 (string_keyed Tryd.underlying9) (plainElem Tryd.prog 3) (Value.string : ByteArray → Value) (Value.int .i64 : Int → Value) (fun key kl hk => by obtain ⟨s, h1, _⟩ := WideMaps.string_of_keyOf Tryd.underlying9 hk; exact ⟨s, h1⟩) (fun v y hv => by obtain ⟨c, h1, _⟩ := plainElem_int_inv Tryd.underlying3 hv; exact ⟨c, h1⟩) mb w.heap.size _ D left cnt rfl hrg ?_ ?_)
    · intro _ hl0
      have HE : Aside0 (m = tt) := ⟨by have := HS.out.1; rw [rem_none hl0] at this; omega⟩
      go_wp2_with fail
      go_ret
      exact ⟨by rw [← HE.out]; rfl, HS.out.2⟩
    · intro x c kl y yp w2 cnt1 hkey hlk hv hat hrg1 hlt hg1 hs1 hen
      obtain ⟨s, hs2, rfl, _⟩ := WideMaps.string_of_keyOf Tryd.underlying9 hkey
      cases hs2
      obtain ⟨c', hc', hz, _⟩ := plainElem_int_inv Tryd.underlying3 hv
      cases hc'
      injection hz with hy _
      subst hy
      have h1 := hat (.lit (.int .i64 0))
      rw [mapL_at HM.out HG.out] at h1
      have h2 : (getL S.l x.data.toList : Int) = c := by injection h1 with h1; injection h1
      subst h2
      have h3 := has_true_of_atKey hat
      rw [mapL_has HM.out] at h3
      obtain ⟨en, hen1, hen2⟩ := List.any_eq_true.1 h3
      rw [beq_iff_eq] at hen2
      have h4 := getL_mem HG.out hen1
      rw [hen2] at h4
      have h5 : (x.data.toList, getL S.l x.data.toList) ∈ S.l := by rw [h4, ← hen2]; exact hen1
      have h6 := rem_step (good_ne HG.out) h5 hlk
      obtain ⟨nn, hnn⟩ : ∃ nn, nn = getL S.l x.data.toList := ⟨_, rfl⟩
      rw [← hnn] at h6 hen ⊢
      have h7 := HS.out.1
      have HN : Aside0 ((m + nn) + totL (remL S.l fun z => left z && !z.sameKey (.string x.data.toList)) = tt) := ⟨by omega⟩
      have h8 : m + nn ≤ 409600 := by omega
      have HR2 := Aside0.mk hrg1
      have HB2 := Aside0.mk (HS.out.2.grown hg1 HS.out.2.size (fun j hj => by cases hj; exact Nat.le_refl _))
      have HLT := Aside0.mk hlt
      have HRG := Aside0.mk hrg
      clear h1 h3 hen1 hen2 h4 h5 h6 h7 hnn hrg1 hg1 hkey hlk hv hat hlt
      go_wp2_with fail
      go_roundw
      case rel => exact ⟨m + nn, _, cnt1, by go_num, h8, ⟨HR2.out, HN.out, HB2.out⟩⟩
      case measure => rw [HR2.out.left_eq, HRG.out.left_eq]; exact HLT.out
end Go.Proofs.YtoigmepkhiknbaaDoor
