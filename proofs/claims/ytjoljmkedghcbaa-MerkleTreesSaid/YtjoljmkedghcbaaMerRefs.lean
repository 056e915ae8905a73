/-
  The reference's trees: Leaf, Leaves, up, Levels, Root, Prove, Verify. No condition but that what comes in can be read and is none too long.
-/
import Derived.Test.YtjoljmkedghcbaaMerUp
import Derived.Test.YtjoljmkedghcbaaDigC
import Derived.Test.YtjoljmkedghcbaaRBlock
import Derived.Test.YtjoljmkedghcbaaMerLevels
import Derived.Test.YtjoljmkedghcbaaMerProve
import Derived.Test.YtjoljmkedghcbaaMerVerify
namespace Go.Proofs.Ytjoljmkedghcbaa
section
open Go.RowKit
set_option linter.unusedVariables false
set_option linter.unusedSimpArgs false

/-- One byte in a block of its own. -/
theorem own_lit {w : World} {base g e : Nat} {x : UInt8} (h : w.heap[g]? = some (.cells #[.int .u8 (x.toNat : Int)] e (0, 0))) (hb : base ≤ g) : w.ownsRow base e 1 (.slice (some ⟨g, 0, none⟩) 1 1) [x].length ([x].map bv) :=
  ⟨by simp, .inr ⟨g, 1, _, rfl, hb, h, Nat.le_refl _, by simp [maxLen], by simp, by simp [bv]⟩⟩

set_option maxHeartbeats 1000000 in
theorem rleaf_calls {b0 : Nat} {v : Value} {b : List UInt8} (w : World) (hv : Sl bv 5 w b0 v b) (hl : b.length ≤ 999999999999) :
    Calls Try.prog 20 #[v] w fun e w' => ∃ v', e = .returned v' ∧ w'.ownsRow w.heap.size 5 1 v' (leafL b).length ((leafL b).map bv) ∧ Below w.heap.size w w' := by
  have HV := Aside0.mk hv
  have HL := Aside0.mk hl
  obtain ⟨A, c, rfl, hc, hm, _⟩ := hv
  have e1 : shaL ([0] ++ b) = leafL b := by simp [leafL]
  have HE := Aside0.mk e1
  clear e1
  go_enter Try.func20, Try.ntmps20
  go_wp2_with (at_builtin; go_must (refine append_row bv (fun _ => rfl) rfl (.tmp 3) (.tmp 4) 22 rfl w.heap.size 5 5 _ _ _ Try.underlying22 info_u8 rfl (by decide) _ [0] b _ rfl rfl (own_lit (heap_new rfl) (Nat.le_refl _)) (HV.out.below ((Below.refl _ _).alloc (Nat.le_refl _) _)) (by simp; omega) (by simp) ?_); intro v2 w2 hown hg _)
  have hB2 : Below w.heap.size w w2 := ((Below.refl _ _).alloc (Nat.le_refl _) _).grown hg (by simp) (fun k hk => by cases hk; exact Nat.le_refl _)
  have HO := Aside0.mk (And.intro (Sl.of_own (b := 0) hown) hB2)
  clear hown hg hB2
  refine (rsum_calls w2 HO.out.1 (by simp; have := HL.out; omega)).mono ?_
  rintro e w3 ⟨v3, rfl, hown3, hb3⟩
  rw [HE.out] at hown3
  have H3 := Aside0.mk (And.intro hown3 (below_step HO.out.2 hb3))
  clear hown3 hb3
  go_wp2_with fail
  go_ret
  exact ⟨_, rfl, own_mono H3.out.1 HO.out.2.size, H3.out.2⟩

set_option maxHeartbeats 1000000 in
theorem rleaves_calls {b0 : Nat} {v : Value} {data : List UInt8} (block : Int) (w : World) (hv : Sl bv 5 w b0 v data) (hb : -9223372036854775808 ≤ block ∧ block ≤ 9223372036854775807) (hd : data.length ≤ 999999999999) :
    Calls Try.prog 9 #[v, .int .i64 block] w fun e w' => ∃ v', e = .returned v' ∧ OwnE w' w.heap.size 0 v' (leavesL data block) ∧ Below w.heap.size w w' := by
  have HV := Aside0.mk hv
  have HD := Aside0.mk hd
  obtain ⟨A, c, rfl, hc, hl, hR⟩ := hv
  clear hR
  have HG := Aside0.mk (cnt_bd data.length block)
  go_enter Try.func9, Try.ntmps9
  go_wp2_with fail
  go_loopw [5, 6] (fun v i wr => ∃ n : Nat, (n : Int) ≤ 1048576 ∧ i = .int .i64 n ∧ Aside0 ((n : Int) ≤ cnt data.length block ∧ OwnE wr w.heap.size 0 v (leavesN data block n) ∧ Below w.heap.size w wr)) (fun v i wr => (1048576 - intOf i).toNat)
  case atStart => exact ⟨0, by omega, rfl, ⟨HG.out.1, OwnE.nil _ _ _, Below.refl _ _⟩⟩
  case round =>
    obtain ⟨n, hn, rfl, hs⟩ := hrel
    go_wp2_with fail
    refine (rcount_calls _ _ _ (by omega) hb).mono ?_
    rintro e w' ⟨rfl, rfl⟩
    have hnq := hs.out.1
    have hs := Aside0.mk hs.out.2
    obtain ⟨hq0, hq1⟩ := HG.out
    generalize hq : cnt (data.length : Int) block = q at hnq hq0 hq1 ⊢
    have HQ := Aside0.mk hq
    clear hq
    by_cases hlt : (n : Int) < q
    · go_wp2_with fail
      refine (rblock_calls _ _ _ (HV.out.below hs.out.2) hb).mono ?_
      rintro e w' ⟨v1, rfl, hsl, rfl⟩
      have HO1 := Aside0.mk hsl
      have HBL := Aside0.mk (blockL_length data block (n : Int))
      clear hsl
      go_wp2_with fail
      refine (rleaf_calls _ HO1.out (by have := HBL.out; have := HD.out; omega)).mono ?_
      rintro e w2 ⟨v2, rfl, hown2, hb2⟩
      obtain ⟨A', c', rfl, _⟩ := Sl.of_own (b := 0) hown2
      have HO2 := Aside0.mk (Sl.of_own (b := 0) hown2)
      have HB2 := Aside0.mk (below_step hs.out.2 hb2)
      have HL2 := Aside0.mk (hs.out.1.below hb2)
      have HLL := Aside0.mk (leavesN_length data block n)
      clear hown2 hb2
      go_wp2_with (at_builtin; go_must (refine append_listE rfl rfl (.tmp 15) (.tmp 21) rfl _ _ w2.heap.size 1 22 (0, 0) rfl rfl (HL2.out.below ((Below.refl _ _).alloc (Nat.le_refl _) _)) (heap_new rfl) (HO2.out.below ((Below.refl _ _).alloc (Nat.le_refl _) _)) (Nat.zero_le _) (by rw [HLL.out]; omega) (by have := HB2.out.size; simp; omega) ?_); intro v3 w3 hl3 hg3 hsh)
      have H3 := Aside0.mk (show ((n + 1 : Nat) : Int) ≤ cnt data.length block ∧ OwnE w3 w.heap.size 0 v3 (leavesN data block (n + 1)) ∧ Below w.heap.size w w3 from
        ⟨by rw [HQ.out]; omega, by rw [leavesN_succ]; exact hl3, (HB2.out.alloc HB2.out.size _).grown hg3 (by have := HB2.out.size; simp; omega) (OwnE.base_le hs.out.1)⟩)
      clear hl3 hg3 hsh
      go_roundw
      case rel => exact ⟨n + 1, by omega, by go_num, H3⟩
      case measure => simp [intOf]; omega
    · have hnq : n = q.toNat := by omega
      have HNQ := Aside0.mk hnq
      clear hnq
      go_wp2_with fail
      go_ret
      exact ⟨_, rfl, by rw [leavesL, HQ.out, ← HNQ.out]; exact hs.out.1, hs.out.2⟩

set_option maxHeartbeats 2000000 in
theorem rup_calls {b0 : Nat} {v : Value} {L : List (List UInt8)} (w : World) (hv : SlL w b0 v L) (hb0 : b0 ≤ w.heap.size) (hf : FitM L) :
    Calls Try.prog 32 #[v] w fun e w' => ∃ v', e = .returned v' ∧ OwnE w' w.heap.size b0 v' (upL L) ∧ Below w.heap.size w w' := by
  have HV := Aside0.mk hv
  have HF := Aside0.mk hf
  obtain ⟨A, c, rfl, hc, hm⟩ := hv.shape
  have hlen : L.length ≤ 1000000000 := hf.1
  clear hf hv
  go_enter Try.func32, Try.ntmps32
  go_wp2_with fail
  go_loopw [3, 4] (fun v i wr => ∃ n : Nat, n ≤ L.length + 1 ∧ i = .int .i64 n ∧ Aside0 (∃ j, n = 2 * j ∧ OwnE wr w.heap.size b0 v ((upL L).take j) ∧ Below w.heap.size w wr)) (fun v i wr => L.length + 1 - (intOf i).toNat)
  case atStart => exact ⟨0, by omega, rfl, ⟨0, rfl, OwnE.nil _ _ _, Below.refl _ _⟩⟩
  case round =>
    obtain ⟨n, hn, rfl, hs⟩ := hrel
    by_cases h1 : n + 1 < L.length
    · obtain ⟨j, hj, hs⟩ := hs.out
      obtain ⟨ad, c', u, A1, cu, he, hu, hcell, hsl⟩ := HV.out.at n (by omega)
      cases he
      obtain ⟨ad', c', u', A2, cu', he, hu', hcell', hsl'⟩ := HV.out.at (n + 1) h1
      cases he
      have HS := Aside0.mk (And.intro hsl hsl')
      have HN := Aside0.mk (upL_two L n j hj h1)
      have HJ := Aside0.mk hj
      have HLJ := Aside0.mk (show ((upL L).take j).length ≤ 1000000000 by rw [List.length_take, upL_length]; omega)
      subst hu hu'
      have HX := Aside0.mk (And.intro (HF.out.at n) (HF.out.at (n + 1)))
      obtain ⟨x, hx⟩ : ∃ x, x = L.getD n [] := ⟨_, rfl⟩
      obtain ⟨y, hy⟩ : ∃ y, y = L.getD (n + 1) [] := ⟨_, rfl⟩
      rw [← hx, ← hy] at HX HN HS
      rw [← hx] at hcell
      rw [← hy] at hcell'
      have HK : Aside0 (∀ w', Below w.heap.size w w' → w'.cell? (ad.add n) = some (.slice A1 x.length cu) ∧ w'.cell? { block := ad.block, off := ad.off + (n + 1) } = some (.slice A2 y.length cu')) := ⟨fun w' hb => ⟨cell_keep hb hcell, cell_keep hb (add_succ ad n ▸ hcell')⟩⟩
      have HB := Aside0.mk hs.2
      have HBW := Aside0.mk hs.2
      have HO := Aside0.mk hs.1
      have hbl := OwnE.base_le hs.1
      have HBL := Aside0.mk hbl
      have HEN : Aside0 (shaL (([1] ++ x) ++ y) = nodeL x y) := ⟨by simp [nodeL]⟩
      clear hj hsl hsl' hx hy hcell hcell' hs hbl
      have z1 : IntKind.i64.wrap ((n : Int) + 1) = (n : Int) + 1 := IntWalk.i64_in _ (by omega)
      have z2 : 0 ≤ (n : Int) + 1 := by omega
      have z3 : ((n : Int) + 1).toNat = n + 1 := by omega
      have z4 : (n : Int) + 1 < L.length := by omega
      have d1 : decide (n + 1 = L.length) = false := decide_eq_false (by omega)
      have d2 : ((n : Int) + 1 == L.length) = false := by rw [beq_eq_false_iff_ne]; omega
      go_wp2_with fail
      go_region_held3 (fun w' => w'.cell? (ad.add n) = some (.slice A1 x.length cu) ∧ w'.cell? { block := ad.block, off := ad.off + (n + 1) } = some (.slice A2 y.length cu')) (first | exact HK.out _ HB.out | exact HK.out _ HB.out.drew | exact HK.out _ (HB.out.alloc HB.out.size _) | exact HK.out _ (HB.out.drew.alloc HB.out.size _)) (first
        | (refine step_append_row rfl rfl (.tmp 24) (.tmp 28) rfl wr.heap.size 5 _ _ [1] x _ rfl rfl (own_lit (heap_new rfl) (Nat.le_refl _)) (HS.out.1.below (HB.out.drew.alloc HB.out.size _)) (by have := HX.out; simp; omega) (by simp) ?_
           intro v5 w5 hown5 hg5 hsh5
           have HO5 := Aside0.mk hown5
           have hb5 : Below wr.heap.size wr w5 := (((Below.refl _ _).drew).alloc (Nat.le_refl _) _).grown hg5 (by simp) (fun k hk => by cases hk; exact Nat.le_refl _)
           have HWB := Aside0.mk hb5
           have HB := Aside0.mk (below_step HB.out hb5)
           clear hown5 hg5 hb5)
        | (refine step_append_row rfl rfl (.tmp 29) (.tmp 34) rfl wr.heap.size 5 _ _ ([1] ++ x) y _ rfl rfl HO5.out (HS.out.2.below HB.out) (by have := HX.out; simp; omega) HWB.out.size ?_
           intro v6 w6 hown6 hg6 hsh6
           have HO6 := Aside0.mk (Sl.of_own (b := 0) hown6)
           have hb6 : Below wr.heap.size wr w6 := HWB.out.grown hg6 HWB.out.size (own_base HO5.out)
           have HOO6 := Aside0.mk (HO.out.below hb6)
           have HWB6 := Aside0.mk hb6
           have HB := Aside0.mk (below_step HBW.out hb6)
           obtain ⟨A6, n6, c6, rfl⟩ := hsh6
           clear hown6 hg6 hb6)
        | ((go_at_call 34; refine (rsum_calls _ HO6.out (by have := HX.out; simp; omega)).mono ?_; rintro e w7 ⟨v7, rfl, hown7, hb7⟩)
           rw [HEN.out] at hown7
           have HY := Aside0.mk (Sl.of_own (b := b0) hown7)
           obtain ⟨A7, c7, rfl, _⟩ := Sl.of_own (b := b0) hown7
           have HO7 := Aside0.mk (HOO6.out.below hb7)
           have HB := Aside0.mk (below_step HB.out hb7)
           clear hown7 hb7)
        | (refine step_append_list rfl rfl (.tmp 23) (.tmp 37) rfl _ _ w7.heap.size 1 22 (0, 0) rfl rfl (HO7.out.below ((Below.refl _ _).alloc (Nat.le_refl _) _)) (heap_new rfl) (HY.out.below ((Below.refl _ _).alloc (Nat.le_refl _) _)) hb0 (by have := HLJ.out; omega) (by have := HB.out.size; simp; omega) ?_
           intro v3 w3 hl3 hg3 hsh
           have HO := Aside0.mk hl3
           have HB := Aside0.mk (show Below w.heap.size w w3 from (HB.out.alloc HB.out.size _).grown hg3 (by have := HB.out.size; simp; omega) HBL.out)
           clear hl3 hg3 hsh))
      have H3 := Aside0.mk (show ∃ j', n + 2 = 2 * j' ∧ OwnE w3 w.heap.size b0 v3 ((upL L).take j') ∧ Below w.heap.size w w3 from ⟨j + 1, by have := HJ.out; omega, by rw [HN.out]; exact HO.out, HB.out⟩)
      clear z1 z2 z3 z4
      go_wp2_with fail
      go_roundw
      case rel => exact ⟨n + 2, by omega, by go_num, H3⟩
      case measure => simp [intOf]; omega
    · by_cases h2 : n < L.length
      · obtain ⟨j, hj, hs⟩ := hs.out
        obtain ⟨ad, c', u, A1, cu, he, hu, hcell, hsl⟩ := (HV.out.below hs.2).at n (by omega)
        cases he
        subst hu
        have HS := Aside0.mk hsl
        have HN := Aside0.mk (upL_one L n j hj (by omega))
        have HJ := Aside0.mk hj
        have HLJ := Aside0.mk (show ((upL L).take j).length ≤ 1000000000 by rw [List.length_take, upL_length]; omega)
        obtain ⟨x, hx⟩ : ∃ x, x = L.getD n [] := ⟨_, rfl⟩
        rw [← hx] at HN HS hcell
        have HB := Aside0.mk hs.2
        have HO := Aside0.mk hs.1
        have hbl := OwnE.base_le hs.1
        have HBL := Aside0.mk hbl
        have d1 : decide (n + 1 = L.length) = true := decide_eq_true (by omega)
        have d2 : ((n : Int) + 1 == L.length) = true := by rw [beq_iff_eq]; omega
        clear hj hsl hx hs hbl
        go_wp2_with (at_builtin; go_must (refine append_listE rfl rfl (.tmp 16) (.tmp 21) rfl _ _ wr.heap.size 1 22 (0, 0) rfl rfl (HO.out.below ((Below.refl _ _).alloc (Nat.le_refl _) _)) (heap_new rfl) (HS.out.below ((Below.refl _ _).alloc (Nat.le_refl _) _)) hb0 (by have := HLJ.out; omega) (by have := HB.out.size; simp; omega) ?_); intro v3 w3 hl3 hg3 hsh)
        have H3 := Aside0.mk (show ∃ j', n + 2 = 2 * j' ∧ OwnE w3 w.heap.size b0 v3 ((upL L).take j') ∧ Below w.heap.size w w3 from ⟨j + 1, by have := HJ.out; omega, by rw [HN.out]; exact hl3, (HB.out.alloc HB.out.size _).grown hg3 (by have := HB.out.size; simp; omega) HBL.out⟩)
        clear hl3 hg3 hsh
        go_roundw
        case rel => exact ⟨n + 2, by omega, by go_num, H3⟩
        case measure => simp [intOf]; omega
      · have HE : Aside0 (OwnE wr w.heap.size b0 u3 (upL L) ∧ Below w.heap.size w wr) := ⟨by
          obtain ⟨j, hj, hs⟩ := hs.out
          rw [upL_all L n j hj (by omega)] at hs
          exact hs⟩
        clear hs
        go_wp2_with fail
        go_ret
        exact ⟨_, rfl, HE.out.1, HE.out.2⟩
end

section
open Go.RowKit
set_option linter.unusedVariables false
set_option linter.unusedSimpArgs false

/-- Where the loop up stands. -/
def RLevS (w wr : World) (b : Nat) (L : List (List UInt8)) (out l : Value) (k : Nat) : Prop :=
  HgtAt L k ∧ SlL wr b l (upN L k) ∧ OwnV wr w.heap.size out (levTo L (k + 1)) ∧ Below w.heap.size w wr

theorem own_levs {w : World} {base g : Nat} {v : Value} {L : List (List UInt8)} (h : w.heap[g]? = some (.cells #[v] 25 (0, 0))) (hb : base ≤ g) (hv : SlL w base v L) : OwnV w base (.slice (some ⟨g, 0, none⟩) 1 1) [L] :=
  ⟨[v], rfl, ⟨by simp, .inr ⟨g, 1, _, rfl, hb, h, Nat.le_refl _, by simp [maxLen], by simp, by simp⟩⟩, fun i u x hu hx => by
    match i with
    | 0 => cases hu; cases hx; exact hv
    | i + 1 => simp at hu⟩

set_option maxHeartbeats 1000000 in
theorem rlevels_none {c : Nat} {A : Option Addr} (w : World) : Calls Try.prog 11 #[.slice A 0 c] w fun e w' => e = .returned (.slice none 0 0) ∧ w = w' := by
  go_enter Try.func11, Try.ntmps11
  go_wp2_with fail
  go_ret
  exact ⟨rfl, rfl⟩

set_option maxHeartbeats 2000000 in
theorem rlevels_some {b0 : Nat} {v : Value} {L : List (List UInt8)} (w : World) (hv : SlL w b0 v L) (hb0 : b0 ≤ w.heap.size) (hf : FitM L) (hne : 0 < L.length) :
    Calls Try.prog 11 #[v] w fun e w' => ∃ v', e = .returned v' ∧ OwnV w' w.heap.size v' (levelsL L) ∧ Below w.heap.size w w' := by
  have HV := Aside0.mk hv
  have HF := Aside0.mk hf
  obtain ⟨A, c, rfl, hc, hm⟩ := hv.shape
  have hlen : L.length ≤ 1000000000 := hf.1
  have d1 : decide ((L.length : Int) = 0) = false := decide_eq_false (by omega)
  have d2 : ((L.length : Int) == 0) = false := by rw [beq_eq_false_iff_ne]; omega
  clear hf hv
  go_enter Try.func11, Try.ntmps11
  go_wp2_with fail
  have hB : Below w.heap.size w (w.alloc (.cells #[.slice A L.length c] 25)) := (Below.refl _ _).alloc (Nat.le_refl _) _
  have H0 := Aside0.mk (show RLevS w (w.alloc (.cells #[.slice A L.length c] 25)) b0 L (.slice (some ⟨w.heap.size, 0, none⟩) 1 1) (.slice A L.length c) 0 from
    ⟨HgtAt.zero L, HV.out.below hB, by rw [show levTo L (0 + 1) = [L] by simp [levTo, upN]]; exact own_levs (heap_new rfl) (Nat.le_refl _) ((HV.out.below hB).mono hb0), hB⟩)
  clear hB
  go_loopw [0, 3] (fun l out wr => ∃ (k : Nat) (A : Option Addr) (c m : Nat), l = .slice A m c ∧ m ≤ 1000000000 ∧ Aside0 (m = (upN L k).length) ∧ Aside0 (RLevS w wr b0 L out l k)) (fun l out wr => lenOf l)
  case atStart => exact ⟨0, A, c, L.length, rfl, hlen, ⟨rfl⟩, H0⟩
  case round =>
    obtain ⟨k, A2, c2, m, rfl, hm2, hml, hs⟩ := hrel
    clear H0
    by_cases h1 : 1 < m
    · go_wp2_with fail
      refine (rup_calls _ hs.out.2.1 (Nat.le_trans hb0 hs.out.2.2.2.size) (upN_fit sha_short HF.out k)).mono ?_
      rintro e w4 ⟨v4, rfl, hown4, hb4⟩
      have HK := Aside0.mk hs.out.1.le
      have HKS := Aside0.mk (hs.out.1.succ (by have := hml.out; omega))
      have hown5 : SlL w4 b0 v4 (upN L (k + 1)) := hown4.reads
      obtain ⟨A4, c4, rfl, hc4, hm4⟩ := hown5.shape
      have HO := Aside0.mk hown5
      have HB := Aside0.mk (below_step hs.out.2.2.2 hb4)
      have HV4 := Aside0.mk (hs.out.2.2.1.below hb4)
      have HBL := Aside0.mk (OwnV.base_le hs.out.2.2.1)
      have hm5 : (upN L (k + 1)).length < m := by
        show (upL (upN L k)).length < m
        rw [upL_length, ← hml.out]; omega
      obtain ⟨m', hm'⟩ : ∃ m', m' = (upN L (k + 1)).length := ⟨_, rfl⟩
      rw [← hm'] at hm5 hm4 hc4 HO ⊢
      have HM := Aside0.mk hm'
      clear hown4 hb4 hown5 hm' hs
      go_wp2_with (at_builtin; go_must (refine append_lev rfl rfl (.tmp 14) (.tmp 16) rfl _ _ w4.heap.size 1 25 (0, 0) rfl rfl (HV4.out.below ((Below.refl _ _).alloc (Nat.le_refl _) _)) (heap_new rfl) ((HO.out.below ((Below.refl _ _).alloc (Nat.le_refl _) _)).mono hb0) (by rw [levTo_length]; have := HK.out; omega) (by have := HB.out.size; simp; omega) ?_); intro v3 w3 hl3 hg3 hy3 hsh)
      have H3 := Aside0.mk (show RLevS w w3 b0 L v3 (.slice A4 m' c4) (k + 1) from ⟨HKS.out, hy3 b0 hb0 (HO.out.below ((Below.refl _ _).alloc (Nat.le_refl _) _)), by rw [levTo_succ]; exact hl3, (HB.out.alloc HB.out.size _).grown hg3 (by have := HB.out.size; simp; omega) HBL.out⟩)
      clear hl3 hg3 hy3 hsh
      go_roundw
      case rel => exact ⟨k + 1, A4, c4, m', rfl, by omega, HM, H3⟩
      case measure => simp [lenOf]; omega
    · have HE : Aside0 (OwnV wr w.heap.size u3 (levelsL L) ∧ Below w.heap.size w wr) := ⟨by
        have hk := hs.out.1.last (by have := hml.out; omega)
        have h2 := hs.out.2.2.1
        rw [hk] at h2
        rw [levelsL, if_neg (by omega)]
        exact ⟨h2, hs.out.2.2.2⟩⟩
      clear hs
      go_wp2_with fail
      go_ret
      exact ⟨_, rfl, HE.out.1, HE.out.2⟩

theorem rlevels_calls {b0 : Nat} {v : Value} {L : List (List UInt8)} (w : World) (hv : SlL w b0 v L) (hb0 : b0 ≤ w.heap.size) (hf : FitM L) :
    Calls Try.prog 11 #[v] w fun e w' => ∃ v', e = .returned v' ∧ OwnV w' w.heap.size v' (levelsL L) ∧ Below w.heap.size w w' := by
  rcases Nat.eq_zero_or_pos L.length with h | h
  · obtain ⟨A, c, rfl, hc, hm⟩ := hv.shape
    have h0 : levelsL L = [] := by rw [levelsL, if_pos h]
    rw [h0, h]
    refine (rlevels_none w).mono ?_
    rintro e w' ⟨rfl, rfl⟩
    exact ⟨_, rfl, OwnV.nil _ _, Below.refl _ _⟩
  · exact rlevels_some w hv hb0 hf h

set_option maxHeartbeats 1000000 in
theorem rroot_none {c : Nat} {A : Option Addr} (w : World) : Calls Try.prog 18 #[.slice A 0 c] w fun e w' => ∃ v', e = .returned v' ∧ w'.ownsRow w.heap.size 5 1 v' (shaL []).length ((shaL []).map bv) ∧ Below w.heap.size w w' := by
  go_enter Try.func18, Try.ntmps18
  go_wp2_with fail
  refine (rsum_calls (b := []) w (Sl.nil _ _ _ 0) (by simp)).mono ?_
  rintro e w2 ⟨v2, rfl, hown2, hb2⟩
  have H2 := Aside0.mk (And.intro hown2 hb2)
  clear hown2 hb2
  go_wp2_with fail
  go_ret
  exact ⟨_, rfl, H2.out.1, H2.out.2⟩

set_option maxHeartbeats 1000000 in
theorem rroot_some {b0 : Nat} {v : Value} {L : List (List UInt8)} (w : World) (hv : SlL w b0 v L) (hb0 : b0 ≤ w.heap.size) (hf : FitM L) (hne : 0 < L.length) :
    Calls Try.prog 18 #[v] w fun e w' => ∃ v', e = .returned v' ∧ Sl bv 5 w' b0 v' (rootL L) ∧ Below w.heap.size w w' := by
  have HV := Aside0.mk hv
  have HF := Aside0.mk hf
  obtain ⟨A, c, rfl, hc, hm⟩ := hv.shape
  have hlen : L.length ≤ 1000000000 := hf.1
  have d1 : decide ((L.length : Int) = 0) = false := decide_eq_false (by omega)
  have d2 : ((L.length : Int) == 0) = false := by rw [beq_eq_false_iff_ne]; omega
  clear hf hv
  go_enter Try.func18, Try.ntmps18
  go_wp2_with fail
  go_loopw [0] (fun l wr => ∃ (k : Nat) (A : Option Addr) (c m : Nat), l = .slice A m c ∧ m ≤ 1000000000 ∧ Aside0 (m = (upN L k).length) ∧ Aside0 (HgtAt L k ∧ SlL wr b0 l (upN L k) ∧ Below w.heap.size w wr)) (fun l wr => lenOf l)
  case atStart => exact ⟨0, A, c, L.length, rfl, hlen, ⟨rfl⟩, ⟨HgtAt.zero L, HV.out, Below.refl _ _⟩⟩
  case round =>
    obtain ⟨k, A2, c2, m, rfl, hm2, hml, hs⟩ := hrel
    by_cases h1 : 1 < m
    · go_wp2_with fail
      refine (rup_calls _ hs.out.2.1 (Nat.le_trans hb0 hs.out.2.2.size) (upN_fit sha_short HF.out k)).mono ?_
      rintro e w4 ⟨v4, rfl, hown4, hb4⟩
      have HKS := Aside0.mk (hs.out.1.succ (by have := hml.out; omega))
      have hown5 : SlL w4 b0 v4 (upN L (k + 1)) := hown4.reads
      obtain ⟨A4, c4, rfl, hc4, hm4⟩ := hown5.shape
      have HO := Aside0.mk hown5
      have HB := Aside0.mk (below_step hs.out.2.2 hb4)
      have hm5 : (upN L (k + 1)).length < m := by
        show (upL (upN L k)).length < m
        rw [upL_length, ← hml.out]; omega
      obtain ⟨m', hm'⟩ : ∃ m', m' = (upN L (k + 1)).length := ⟨_, rfl⟩
      rw [← hm'] at hm5 hm4 hc4 HO ⊢
      have HM := Aside0.mk hm'
      clear hown4 hb4 hown5 hm' hs
      go_wp2_with fail
      go_roundw
      case rel => exact ⟨k + 1, A4, c4, m', rfl, by omega, HM, ⟨HKS.out, HO.out, HB.out⟩⟩
      case measure => simp [lenOf]; omega
    · have hk := hs.out.1.last (by have := hml.out; omega)
      have hT := upN_top L hne
      rw [← hk] at hT
      have HR : Aside0 (rootL L = (upN L k).getD 0 []) := ⟨by rw [rootL, if_neg (by omega), ← hk]⟩
      obtain ⟨ad2, c3, u2, A3, cu3, he, hu, hcell2, hsl2⟩ := hs.out.2.1.at 0 (by rw [hT]; decide)
      have hm1 : m = 1 := by rw [← hT]; exact hml.out
      rw [hT] at he
      subst hm1
      cases he
      subst hu
      have HS := Aside0.mk hsl2
      have HB := Aside0.mk hs.out.2.2
      have hcell2 : wr.cell? ad2 = some (.slice A3 ((upN L k).getD 0 []).length cu3) := hcell2
      clear hs hsl2 hk hT hml
      go_wp2_with fail
      go_ret
      exact ⟨_, rfl, by rw [HR.out]; exact HS.out, HB.out⟩

theorem rroot_calls {b0 : Nat} {v : Value} {L : List (List UInt8)} (w : World) (hv : SlL w b0 v L) (hb0 : b0 ≤ w.heap.size) (hf : FitM L) :
    Calls Try.prog 18 #[v] w fun e w' => ∃ v', e = .returned v' ∧ Sl bv 5 w' b0 v' (rootL L) ∧ Below w.heap.size w w' := by
  rcases Nat.eq_zero_or_pos L.length with h | h
  · obtain ⟨A, c, rfl, hc, hm⟩ := hv.shape
    rw [h, rootL, if_pos h]
    refine (rroot_none w).mono ?_
    rintro e w' ⟨v', rfl, h1, h2⟩
    exact ⟨_, rfl, Sl.of_own h1, h2⟩
  · exact rroot_some w hv hb0 hf h
end

section
open Go.RowKit
set_option linter.unusedVariables false
set_option linter.unusedSimpArgs false

/-- A row that lies elsewhere is written. -/
theorem SlL.apart {w w1 : World} {base : Nat} {v : Value} {L : List (List UInt8)} (h : SlL w base v L) {row : Option Nat} (hg : w.grownBy w1 row)
    (hr : ∀ k, row = some k → v.ownBlock ≠ some k ∧ base ≤ k ∧ ∃ cur fr e', w.heap[k]? = some (.cells cur e' fr) ∧ e' ≠ 5) : SlL w1 base v L := by
  obtain ⟨vs, h1, ⟨A, c, rfl, h3, h4, h5⟩, h6⟩ := h
  refine ⟨vs, h1, ⟨A, c, rfl, h3, h4, h5.move fun ad hA hne => hg.block _ (h5.lt hA hne) ?_⟩, fun i u x hu hx => (h6 i u x hu hx).other hg fun k hk => (hr k hk).2⟩
  intro he
  subst hA
  exact (hr ad.block he.symm).1 rfl
theorem OwnE.row {w : World} {base eb : Nat} {v : Value} {L : List (List UInt8)} (h : OwnE w base eb v L) : ∀ k, v.ownBlock = some k → base ≤ k ∧ k < w.heap.size ∧ ∃ cur fr e', w.heap[k]? = some (.cells cur e' fr) ∧ e' ≠ 5 := by
  obtain ⟨vs, h1, h2, h3⟩ := h
  intro k hk
  obtain ⟨a, cur, fr, e', b, d⟩ := own_row_ne (e0 := 5) h2 (by decide) k hk
  exact ⟨a, (Array.getElem?_eq_some_iff.1 b).1, cur, fr, e', b, d⟩
/-- Two slices lie in blocks of their own. -/
def Apart (v u : Value) : Prop := ∀ k, u.ownBlock = some k → v.ownBlock ≠ some k

set_option maxHeartbeats 1000000 in
theorem rprove_bad {b0 : Nat} {v : Value} {L : List (List UInt8)} (k : Int) (w : World) (hv : SlL w b0 v L) (hk : k < 0 ∨ (L.length : Int) ≤ k) :
    Calls Try.prog 24 #[v, .int .i64 k] w fun e w' => e = .returned (.tuple #[.slice none 0 0, .int .i64 1]) ∧ w = w' := by
  obtain ⟨A, c, rfl, hc, hm⟩ := hv.shape
  clear hv
  by_cases h1 : k < 0
  · have d1 : decide (k < 0) = true := decide_eq_true h1
    clear hk
    go_enter Try.func24, Try.ntmps24
    go_wp2_with fail
    go_ret2
    exact ⟨rfl, rfl⟩
  · have d1 : decide (k < 0) = false := decide_eq_false h1
    have h2 : (L.length : Int) ≤ k := by omega
    have d2 : decide ((L.length : Int) ≤ k) = true := decide_eq_true h2
    clear hk
    go_enter Try.func24, Try.ntmps24
    go_wp2_with fail
    go_ret2
    exact ⟨rfl, rfl⟩

set_option maxHeartbeats 2000000 in
theorem rprove_good {b0 : Nat} {v : Value} {L : List (List UInt8)} (k : Nat) (w : World) (hv : SlL w b0 v L) (hb0 : b0 ≤ w.heap.size) (hf : FitM L) (hk : k < L.length) :
    Calls Try.prog 24 #[v, .int .i64 k] w fun e w' => ∃ v', e = .returned (.tuple #[v', .int .i64 0]) ∧ OwnE w' w.heap.size b0 v' (proofTo L k (hgt L.length)) ∧ Below w.heap.size w w' := by
  have HV := Aside0.mk hv
  have HF := Aside0.mk hf
  obtain ⟨A, c, rfl, hc, hm⟩ := hv.shape
  have hl9 : L.length ≤ 1000000000 := hf.1
  have hk9 : k ≤ 1000000000 := by omega
  have d1 : decide ((k : Int) < 0) = false := decide_eq_false (by omega)
  have d2 : decide (L.length ≤ k) = false := decide_eq_false (by omega)
  clear hf hv hk
  go_enter Try.func24, Try.ntmps24
  go_wp2_with fail
  go_loopw [0, 1, 6] (fun l kk out wr => ∃ (n kn : Nat) (A : Option Addr) (c m : Nat), l = .slice A m c ∧ kk = .int .i64 kn ∧ kn ≤ 1000000000 ∧ m ≤ 1000000000 ∧ Aside0 (m = (upN L n).length ∧ HgtAt L n ∧ kn = kAt k n ∧ SlL wr b0 l (upN L n) ∧ OwnE wr w.heap.size b0 out (proofTo L k n) ∧ Below w.heap.size w wr ∧ Apart l out)) (fun l kk out wr => lenOf l)
  case atStart => exact ⟨0, k, A, c, L.length, rfl, rfl, hk9, hl9, ⟨rfl, HgtAt.zero L, rfl, HV.out, OwnE.nil _ _ _, Below.refl _ _, fun k hk => by cases hk⟩⟩
  case round =>
    obtain ⟨n, kn, A2, c2, m, rfl, rfl, hkn, hm9, hs⟩ := hrel
    by_cases h1 : 1 < m
    · have HP : Aside0 (proofTo L k (n + 1) = proofTo L k n ++ oneP (upN L n) kn) := ⟨by rw [proofTo, hs.out.2.2.1]⟩
      have HKN : Aside0 (kn / 2 = kAt k (n + 1)) := ⟨by rw [hs.out.2.2.1]; rfl⟩
      have HPL : Aside0 ((proofTo L k n).length ≤ 1000000000) := ⟨by have h1 := proofTo_length L k n; have h2 := hs.out.2.1.le; omega⟩
      have HKS := Aside0.mk (hs.out.2.1.succ (by have := hs.out.1; omega))
      have hx1 := xor_sib kn (by omega)
      obtain ⟨s, hss⟩ : ∃ s, s = sib kn := ⟨_, rfl⟩
      rw [← hss] at hx1
      have HSS := Aside0.mk hss
      have HS := Aside0.mk hs.out.2.2.2.1
      have HO := Aside0.mk hs.out.2.2.2.2.1
      have HB := Aside0.mk hs.out.2.2.2.2.2.1
      have HAP := Aside0.mk hs.out.2.2.2.2.2.2
      have hmm := hs.out.1
      obtain ⟨M, hM⟩ : ∃ M, M = upN L n := ⟨_, rfl⟩
      have HUP : Aside0 (upN L (n + 1) = upL M) := ⟨by rw [hM]; rfl⟩
      have HFM : Aside0 (FitM M) := ⟨by rw [hM]; exact upN_fit sha_short HF.out n⟩
      rw [← hM] at HS HP hmm
      have HM := Aside0.mk hmm
      clear hss hM hmm hs
      by_cases hsm : s < m
      · have hP := HP.out
        rw [oneP, if_pos (by rw [← HSS.out, ← HM.out]; exact hsm), ← HSS.out] at hP
        have HP2 := Aside0.mk hP
        obtain ⟨ad3, c3, u3, A3, cu3, he, hu, hcell3, hsl3⟩ := HS.out.at s (by rw [← HM.out]; exact hsm)
        rw [← HM.out] at he
        cases he
        subst hu
        obtain ⟨x, hx⟩ : ∃ x, x = M.getD s [] := ⟨_, rfl⟩
        rw [← hx] at hcell3 hsl3 HP2
        have HX := Aside0.mk hsl3
        clear hP hsl3 hx
        go_wp2_with (at_builtin; go_must (refine append_listE rfl rfl (.tmp 25) (.tmp 30) rfl _ _ wr.heap.size 1 22 (0, 0) rfl rfl (HO.out.below ((Below.refl _ _).alloc (Nat.le_refl _) _)) (heap_new rfl) (HX.out.below ((Below.refl _ _).alloc (Nat.le_refl _) _)) hb0 (by have := HPL.out; omega) (by have := HB.out.size; simp; omega) ?_); intro v3 w3 hl3 hg3 hsh)
        obtain ⟨A4, n4, c4, rfl⟩ := hsh
        have HO3 := Aside0.mk (show OwnE w3 w.heap.size b0 (.slice A4 n4 c4) (proofTo L k (n + 1)) by rw [HP2.out]; exact hl3)
        have HS3 := Aside0.mk ((HS.out.below ((Below.refl _ _).alloc (Nat.le_refl _) _)).apart hg3 (fun j hj => by
          obtain ⟨h1, h2, cur, fr, e', h3, h4⟩ := HO.out.row j hj
          exact ⟨HAP.out j hj, Nat.le_trans hb0 h1, cur, fr, e', heap_old h3, h4⟩))
        have HB3 := Aside0.mk (show Below w.heap.size w w3 from (HB.out.alloc HB.out.size _).grown hg3 (by have := HB.out.size; simp; omega) (OwnE.base_le HO.out))
        clear hl3 hg3
        refine (rup_calls _ HS3.out (Nat.le_trans hb0 HB3.out.size) HFM.out).mono ?_
        rintro e w4 ⟨v4, rfl, hown4, hb4⟩
        rw [← HUP.out] at hown4
        obtain ⟨A5, c5, rfl, hc5, hm5⟩ := hown4.reads.shape
        have hm6 : (upN L (n + 1)).length < m := by rw [HUP.out, upL_length, ← HM.out]; omega
        have H4 := Aside0.mk (show HgtAt L (n + 1) ∧ kn / 2 = kAt k (n + 1) ∧ SlL w4 b0 (.slice A5 (upN L (n + 1)).length c5) (upN L (n + 1)) ∧ OwnE w4 w.heap.size b0 (.slice A4 n4 c4) (proofTo L k (n + 1)) ∧ Below w.heap.size w w4 ∧ Apart (.slice A5 (upN L (n + 1)).length c5) (.slice A4 n4 c4) from
          ⟨HKS.out, HKN.out, hown4.reads, HO3.out.below hb4, below_step HB3.out hb4, fun j hj hj2 => by
            have h1 := (HO3.out.row j hj).2.1
            have h2 := OwnE.base_le hown4 j hj2
            omega⟩)
        obtain ⟨m', hm'⟩ : ∃ m', m' = (upN L (n + 1)).length := ⟨_, rfl⟩
        rw [← hm'] at H4 hm6 ⊢
        have HM' := Aside0.mk hm'
        clear hown4 hb4 hm' hm5 hc5
        go_wp2_with fail
        go_roundw
        case rel => exact ⟨n + 1, kn / 2, A5, c5, m', rfl, by go_num, by omega, by omega, ⟨HM'.out, H4.out⟩⟩
        case measure => simp [lenOf]; omega
      · have HO3 := Aside0.mk (show OwnE wr w.heap.size b0 u6 (proofTo L k (n + 1)) by
          have hP := HP.out
          rw [oneP, if_neg (by rw [← HSS.out, ← HM.out]; exact hsm), List.append_nil] at hP
          rw [hP]; exact HO.out)
        go_wp2_with fail
        refine (rup_calls _ HS.out (Nat.le_trans hb0 HB.out.size) HFM.out).mono ?_
        rintro e w4 ⟨v4, rfl, hown4, hb4⟩
        rw [← HUP.out] at hown4
        obtain ⟨A5, c5, rfl, hc5, hm5⟩ := hown4.reads.shape
        have hm6 : (upN L (n + 1)).length < m := by rw [HUP.out, upL_length, ← HM.out]; omega
        have H4 := Aside0.mk (show HgtAt L (n + 1) ∧ kn / 2 = kAt k (n + 1) ∧ SlL w4 b0 (.slice A5 (upN L (n + 1)).length c5) (upN L (n + 1)) ∧ OwnE w4 w.heap.size b0 u6 (proofTo L k (n + 1)) ∧ Below w.heap.size w w4 ∧ Apart (.slice A5 (upN L (n + 1)).length c5) u6 from
          ⟨HKS.out, HKN.out, hown4.reads, HO3.out.below hb4, below_step HB.out hb4, fun j hj hj2 => by
            have h1 := (HO3.out.row j hj).2.1
            have h2 := OwnE.base_le hown4 j hj2
            omega⟩)
        obtain ⟨m', hm'⟩ : ∃ m', m' = (upN L (n + 1)).length := ⟨_, rfl⟩
        rw [← hm'] at H4 hm6 ⊢
        have HM' := Aside0.mk hm'
        clear hown4 hb4 hm' hm5 hc5
        go_wp2_with fail
        go_roundw
        case rel => exact ⟨n + 1, kn / 2, A5, c5, m', rfl, by go_num, by omega, by omega, ⟨HM'.out, H4.out⟩⟩
        case measure => simp [lenOf]; omega
    · have HE : Aside0 (OwnE wr w.heap.size b0 u6 (proofTo L k (hgt L.length)) ∧ Below w.heap.size w wr) := ⟨by
        have hk := hs.out.2.1.last (by have := hs.out.1; omega)
        rw [← hk]
        exact ⟨hs.out.2.2.2.2.1, hs.out.2.2.2.2.2.1⟩⟩
      clear hs
      go_wp2_with fail
      go_ret2
      exact ⟨_, rfl, HE.out.1, HE.out.2⟩
end

section
open Go.RowKit
set_option linter.unusedVariables false
set_option linter.unusedSimpArgs false

theorem prove_calls {b0 : Nat} {v : Value} {L : List (List UInt8)} (k : Int) (w : World) (hv : SlL w b0 v L) (hf : FitM L) :
    Calls Try.prog 23 #[v, .int .i64 k] w fun e w' => ∃ v', e = .returned (.tuple #[v', .int .i64 (proveE L k)]) ∧ SlL w' w.heap.size v' (proveL L k) ∧ Below w.heap.size w w' := by
  by_cases h : k < 0 ∨ (L.length : Int) ≤ k
  · refine (prove_bad k w hv h).mono ?_
    rintro e w' ⟨rfl, rfl⟩
    exact ⟨_, by rw [proveE, if_pos h], by rw [proveL, if_pos h]; exact SlL.nil _ _, Below.refl _ _⟩
  · obtain ⟨K, rfl⟩ := Int.eq_ofNat_of_zero_le (show 0 ≤ k by omega)
    refine (prove_good K w hv hf (by omega)).mono ?_
    rintro e w' ⟨v', rfl, ho, hb⟩
    exact ⟨_, by rw [proveE, if_neg h], by rw [proveL, if_neg h]; exact ho.reads, hb⟩
theorem rprove_calls {b0 : Nat} {v : Value} {L : List (List UInt8)} (k : Int) (w : World) (hv : SlL w b0 v L) (hb0 : b0 ≤ w.heap.size) (hf : FitM L) :
    Calls Try.prog 24 #[v, .int .i64 k] w fun e w' => ∃ v', e = .returned (.tuple #[v', .int .i64 (proveE L k)]) ∧ SlL w' w.heap.size v' (proveL L k) ∧ Below w.heap.size w w' := by
  by_cases h : k < 0 ∨ (L.length : Int) ≤ k
  · refine (rprove_bad k w hv h).mono ?_
    rintro e w' ⟨rfl, rfl⟩
    exact ⟨_, by rw [proveE, if_pos h], by rw [proveL, if_pos h]; exact SlL.nil _ _, Below.refl _ _⟩
  · obtain ⟨K, rfl⟩ := Int.eq_ofNat_of_zero_le (show 0 ≤ k by omega)
    refine (rprove_good K w hv hb0 hf (by omega)).mono ?_
    rintro e w' ⟨v', rfl, ho, hb⟩
    exact ⟨_, by rw [proveE, if_neg h], by rw [proveL, if_neg h]; exact ho.reads.mono hb0, hb⟩
end

section
open Go.RowKit
set_option linter.unusedVariables false
set_option linter.unusedSimpArgs false

set_option maxHeartbeats 1000000 in
theorem rverify_bad {vr vl vp : Value} (k n : Int) (w : World) (hk : k < 0 ∨ n ≤ k) :
    Calls Try.prog 29 #[vr, vl, .int .i64 k, .int .i64 n, vp] w fun e w' => e = .returned (.bool false) ∧ w = w' := by
  by_cases h1 : k < 0
  · have d1 : decide (k < 0) = true := decide_eq_true h1
    clear hk
    go_enter Try.func29, Try.ntmps29
    go_wp2_with fail
    go_ret
    exact ⟨rfl, rfl⟩
  · have d1 : decide (k < 0) = false := decide_eq_false h1
    have h2 : n ≤ k := by omega
    have d2 : decide (n ≤ k) = true := decide_eq_true h2
    clear hk
    go_enter Try.func29, Try.ntmps29
    go_wp2_with fail
    go_ret
    exact ⟨rfl, rfl⟩

set_option maxHeartbeats 4000000 in
theorem rverify_good {br bl bp : Nat} {vr vl vp : Value} {root leaf : List UInt8} {pr : List (List UInt8)} (k n : Nat) (w : World) (hr : Sl bv 5 w br vr root) (hl : Sl bv 5 w bl vl leaf) (hp : SlL w bp vp pr) (hfl : leaf.length ≤ 1000000000) (hfp : FitM pr)
    (hk : k < n) (hn : n ≤ 9223372036854775807) :
    Calls Try.prog 29 #[vr, vl, .int .i64 k, .int .i64 n, vp] w fun e w' => e = .returned (.bool (verN root n leaf k pr)) ∧ Below w.heap.size w w' := by
  have HR := Aside0.mk hr
  have HPR := Aside0.mk hp
  have HFP := Aside0.mk hfp
  have hpl : pr.length ≤ 1000000000 := hfp.1
  obtain ⟨G, hG⟩ : ∃ G, G = verN root n leaf k pr := ⟨_, rfl⟩
  rw [← hG]
  have H0 := Aside0.mk (show verN root n leaf k (pr.drop 0) = G ∧ Sl bv 5 w bl vl leaf ∧ leaf.length ≤ 1000000000 ∧ Below w.heap.size w w from ⟨by rw [hG]; rfl, hl, hfl, Below.refl _ _⟩)
  obtain ⟨Ar, cr, rfl, _⟩ := hr
  obtain ⟨Al, cl, rfl, _⟩ := hl
  obtain ⟨A, c, rfl, hc, hm⟩ := hp.shape
  have d1 : decide ((k : Int) < 0) = false := decide_eq_false (by omega)
  have d2 : decide (n ≤ k) = false := decide_eq_false (by omega)
  clear hp hfl hfp hG
  go_enter Try.func29, Try.ntmps29
  go_wp2_with fail
  go_loopw [2, 3, 11, 12] (fun kk nn ii aa wr => ∃ (kn m i : Nat) (x : List UInt8) (A' : Option Addr) (q' c' : Nat), kk = .int .i64 kn ∧ nn = .int .i64 m ∧ ii = .int .i64 i ∧ kn < m ∧ m ≤ 9223372036854775807 ∧ i ≤ pr.length ∧ aa = .slice A' q' c' ∧ Aside0 (verN root m x kn (pr.drop i) = G ∧ Sl bv 5 wr bl aa x ∧ x.length ≤ 1000000000 ∧ Below w.heap.size w wr)) (fun kk nn ii aa wr => (intOf nn).toNat)
  case atStart => exact ⟨k, n, 0, leaf, Al, _, cl, rfl, rfl, rfl, hk, hn, Nat.zero_le _, rfl, H0⟩
  case round =>
    obtain ⟨kn, m, i, x, A2, q2, c2, rfl, rfl, rfl, hkm, hm9, hi, rfl, hs⟩ := hrel
    clear H0
    by_cases h1 : 1 < m
    · have hx1 := xor_sib kn (by omega)
      obtain ⟨s, hss⟩ : ∃ s, s = sib kn := ⟨_, rfl⟩
      rw [← hss] at hx1
      have hs9 : s ≤ 9223372036854775807 := by rw [hss]; unfold sib; split <;> omega
      have HSS := Aside0.mk hss
      clear hss
      by_cases h2 : s < m
      · by_cases h3 : pr.length ≤ i
        · have HE : Aside0 (false = G) := ⟨by rw [← hs.out.1, verN_none h1 (by rw [← HSS.out]; exact h2) (by rw [List.length_drop]; omega)]⟩
          have HB := Aside0.mk hs.out.2.2.2
          have d3 : decide (pr.length ≤ i) = true := decide_eq_true h3
          clear hs
          go_wp2_with fail
          go_ret
          exact ⟨ret_b HE.out, HB.out⟩
        · have hq0 : i < pr.length := by omega
          have d3 : decide (pr.length ≤ i) = false := decide_eq_false h3
          obtain ⟨ad, c3, u, A3, cu, he, hu, hcell, hsl⟩ := HPR.out.at i hq0
          cases he
          subst hu
          have HV := verN_some (root := root) (x := x) (pr := pr.drop i) h1 (by rw [← HSS.out]; exact h2) (show 0 < (pr.drop i).length by rw [List.length_drop]; omega)
          rw [show (pr.drop i).getD 0 [] = pr.getD i [] by simp [List.getElem?_drop], List.drop_drop] at HV
          have HFP1 := Aside0.mk (HFP.out.at i)
          obtain ⟨p, hp⟩ : ∃ p, p = pr.getD i [] := ⟨_, rfl⟩
          rw [← hp] at hcell hsl HV HFP1
          have HK : Aside0 (∀ w', Below w.heap.size w w' → w'.cell? (ad.add i) = some (.slice A3 p.length cu) ∧ Sl bv 5 w' bp (.slice A3 p.length cu) p) := ⟨fun w' hb => ⟨cell_keep hb hcell, hsl.below hb⟩⟩
          have HG := Aside0.mk (HV.symm.trans hs.out.1)
          have HX := Aside0.mk hs.out.2.1
          have HXL := Aside0.mk hs.out.2.2.1
          have HB := Aside0.mk hs.out.2.2.2
          have HBW := Aside0.mk hs.out.2.2.2
          have hcell2 := (HK.out _ HB.out).1
          obtain ⟨xl, hxl⟩ : ∃ xl, xl = x.length := ⟨_, rfl⟩
          clear hp hsl h3 hs HV hcell
          have hiz : (i : Int) < pr.length := by omega
          have hizz : 0 ≤ (i : Int) := by omega
          rcases Nat.mod_two_eq_zero_or_one kn with he | he
          · have d5 : (((kn : Int) % 2) == 0) = true := by simp; omega
            have d6 : decide ((kn : Int) % 2 = 0) = true := decide_eq_true (by omega)
            have HE := Aside0.mk he
            have HEN : Aside0 (shaL (([1] ++ x) ++ p) = nodeL x p) := ⟨by simp [nodeL]⟩
            clear he
            go_wp2_with fail
            go_region_held3 (fun w' => w'.cell? (ad.add i) = some (.slice A3 p.length cu)) (first | exact (HK.out _ HB.out).1 | exact (HK.out _ HB.out.drew).1 | exact (HK.out _ (HB.out.alloc HB.out.size _)).1 | exact (HK.out _ (HB.out.drew.alloc HB.out.size _)).1) (first
              | (refine step_append_row rfl rfl (.tmp 34) (.tmp 35) rfl wr.heap.size 5 _ _ [1] x _ rfl rfl (own_lit (heap_new rfl) (Nat.le_refl _)) (HX.out.below (((Below.refl _ _).drew).alloc (Nat.le_refl _) _)) (by have := HXL.out; simp; omega) (by simp) ?_
                 intro v5 w5 hown5 hg5 hsh5
                 have HO5 := Aside0.mk hown5
                 have hb5 : Below wr.heap.size wr w5 := (((Below.refl _ _).drew).alloc (Nat.le_refl _) _).grown hg5 (by simp) (fun k hk => by cases hk; exact Nat.le_refl _)
                 have HWB := Aside0.mk hb5
                 have HB := Aside0.mk (below_step HB.out hb5)
                 clear hown5 hg5 hb5)
              | (refine step_append_row rfl rfl (.tmp 36) (.tmp 40) rfl wr.heap.size 5 _ _ ([1] ++ x) p _ rfl rfl HO5.out (HK.out _ HB.out).2 (by have := HXL.out; have := HFP1.out; simp; omega) HWB.out.size ?_
                 intro v6 w6 hown6 hg6 hsh6
                 have HO6 := Aside0.mk (Sl.of_own (b := 0) hown6)
                 have hb6 : Below wr.heap.size wr w6 := HWB.out.grown hg6 HWB.out.size (own_base HO5.out)
                 have HB := Aside0.mk (below_step HBW.out hb6)
                 obtain ⟨A6, n6, c6, rfl⟩ := hsh6
                 clear hown6 hg6 hb6)
              | ((go_at_call 34; refine (rsum_calls _ HO6.out (by have := HXL.out; have := HFP1.out; simp; omega)).mono ?_; rintro e w7 ⟨v7, rfl, hown7, hb7⟩)
                 rw [HEN.out] at hown7
                 have HY := Aside0.mk (Sl.of_own (b := bl) hown7)
                 obtain ⟨A7, c7, rfl, _⟩ := Sl.of_own (b := bl) hown7
                 have HB := Aside0.mk (below_step HB.out hb7)
                 clear hown7 hb7))
            have HV := Aside0.mk (show verN root ((m + 1) / 2) (nodeL x p) (kn / 2) (pr.drop (i + 1)) = G by have := HG.out; rw [if_pos HE.out] at this; exact this)
            go_wp2_with fail
            go_roundw
            case rel => exact ⟨kn / 2, (m + 1) / 2, i + 1, nodeL x p, A7, _, c7, by go_num, by go_num, by go_num, by omega, by omega, by omega, rfl, ⟨HV.out, HY.out, node_len _ _, HB.out⟩⟩
            case measure => simp [intOf]; omega
          · have d5 : (((kn : Int) % 2) == 0) = false := by rw [beq_eq_false_iff_ne]; omega
            have d6 : decide ((kn : Int) % 2 = 0) = false := decide_eq_false (by omega)
            have HE := Aside0.mk he
            have HEN : Aside0 (shaL (([1] ++ p) ++ x) = nodeL p x) := ⟨by simp [nodeL]⟩
            clear he
            have hc4 := (HK.out _ (HB.out.alloc HB.out.size (Obj.cells #[Value.int IntKind.u8 1] 5))).1
            go_wp2_with (first
              | (at_builtin; refine append_row bv (fun _ => rfl) rfl (.tmp 43) (.tmp 47) 22 rfl wr.heap.size 5 5 _ _ _ Try.underlying22 info_u8 rfl (by decide) _ [1] p _ rfl rfl (own_lit (heap_new rfl) (Nat.le_refl _)) ((HK.out _ (HB.out.alloc HB.out.size _)).2) (by have := HFP1.out; simp; omega) (by simp) ?_
                 intro v5 w5 hown5 hg5 _
                 have HO5 := Aside0.mk hown5
                 have hb5 : Below wr.heap.size wr w5 := ((Below.refl _ _).alloc (Nat.le_refl _) _).grown hg5 (by simp) (fun k hk => by cases hk; exact Nat.le_refl _)
                 have HWB := Aside0.mk hb5
                 clear hown5 hg5 hb5)
              | (at_builtin; refine append_row bv (fun _ => rfl) rfl (.tmp 48) (.tmp 49) 22 rfl wr.heap.size 5 5 _ _ _ Try.underlying22 info_u8 rfl (by decide) _ ([1] ++ p) x _ rfl rfl HO5.out (HX.out.below HWB.out) (by have := HXL.out; have := HFP1.out; simp; omega) HWB.out.size ?_
                 intro v6 w6 hown6 hg6 _
                 have HO6 := Aside0.mk (Sl.of_own (b := 0) hown6)
                 have hb6 : Below wr.heap.size wr w6 := HWB.out.grown hg6 HWB.out.size (own_base HO5.out)
                 have HB := Aside0.mk (below_step HBW.out hb6)
                 clear hown6 hg6 hb6)
              | ((go_at_call 34; refine (rsum_calls _ HO6.out (by have := HXL.out; have := HFP1.out; simp; omega)).mono ?_; rintro e w7 ⟨v7, rfl, hown7, hb7⟩)
                 rw [HEN.out] at hown7
                 have HY := Aside0.mk (Sl.of_own (b := bl) hown7)
                 obtain ⟨A7, c7, rfl, _⟩ := Sl.of_own (b := bl) hown7
                 have HB := Aside0.mk (below_step HB.out hb7)
                 clear hown7 hb7))
            have HV := Aside0.mk (show verN root ((m + 1) / 2) (nodeL p x) (kn / 2) (pr.drop (i + 1)) = G by have := HG.out; rw [if_neg (by have := HE.out; omega)] at this; exact this)
            go_wp2_with fail
            go_roundw
            case rel => exact ⟨kn / 2, (m + 1) / 2, i + 1, nodeL p x, A7, _, c7, by go_num, by go_num, by go_num, by omega, by omega, by omega, rfl, ⟨HV.out, HY.out, node_len _ _, HB.out⟩⟩
            case measure => simp [intOf]; omega
      · have HV := Aside0.mk ((verN_skip (root := root) (x := x) (pr := pr.drop i) (k := kn) h1 (by rw [← HSS.out]; exact h2)).symm.trans hs.out.1)
        have HS := Aside0.mk hs.out.2
        clear hs
        go_wp2_with fail
        go_roundw
        case rel => exact ⟨kn / 2, (m + 1) / 2, i, x, A2, q2, c2, by go_num, by go_num, rfl, by omega, by omega, hi, rfl, ⟨HV.out, HS.out⟩⟩
        case measure => simp [intOf]; omega
    · have HV := Aside0.mk ((verN_low (root := root) (x := x) (pr := pr.drop i) (k := kn) (n := m) (by omega)).symm.trans hs.out.1)
      have HB := Aside0.mk hs.out.2.2.2
      have cx := hs.out.2.1.string (P := Try.prog) Try.underlying22 Try.underlying5 Try.underlying9
      have cr := (HR.out.below HB.out).string (P := Try.prog) Try.underlying22 Try.underlying5 Try.underlying9
      clear hs
      by_cases h2 : i = pr.length
      · have HV2 := Aside0.mk (show (x == root) = G by have := HV.out; rw [List.length_drop] at this; simpa [h2] using this)
        have d3 : decide (i = pr.length) = true := decide_eq_true h2
        have d4 : ((i : Int) == (pr.length : Int)) = true := by rw [beq_iff_eq]; omega
        have HH := Aside0.mk h2
        clear h2
        go_wp2_with fail
        go_ret
        exact ⟨ret_b (by rw [← HV2.out]; simp [str_toList]), HB.out⟩
      · have HV2 := Aside0.mk (show false = G by have := HV.out; rw [List.length_drop] at this; rw [← this]; simp; omega)
        have d3 : decide (i = pr.length) = false := decide_eq_false h2
        have d4 : ((i : Int) == (pr.length : Int)) = false := by rw [beq_eq_false_iff_ne]; omega
        go_wp2_with fail
        go_ret
        exact ⟨ret_b HV2.out, HB.out⟩

theorem rverify_calls {br bl bp : Nat} {vr vl vp : Value} {root leaf : List UInt8} {pr : List (List UInt8)} (k n : Int) (w : World) (hr : Sl bv 5 w br vr root) (hl : Sl bv 5 w bl vl leaf) (hp : SlL w bp vp pr) (hfl : leaf.length ≤ 1000000000) (hfp : FitM pr)
    (hn : n ≤ 9223372036854775807) :
    Calls Try.prog 29 #[vr, vl, .int .i64 k, .int .i64 n, vp] w fun e w' => e = .returned (.bool (verifyL root leaf k n pr)) ∧ Below w.heap.size w w' := by
  unfold verifyL
  by_cases h : k < 0 ∨ n ≤ k
  · rw [if_pos h]
    refine (rverify_bad k n w h).mono ?_
    rintro e w' ⟨rfl, rfl⟩
    exact ⟨rfl, Below.refl _ _⟩
  · rw [if_neg h]
    obtain ⟨K, rfl⟩ := Int.eq_ofNat_of_zero_le (show 0 ≤ k by omega)
    obtain ⟨N, rfl⟩ := Int.eq_ofNat_of_zero_le (show 0 ≤ n by omega)
    exact rverify_good K N w hr hl hp hfl hfp (by omega) (by omega)
end
end Go.Proofs.Ytjoljmkedghcbaa
