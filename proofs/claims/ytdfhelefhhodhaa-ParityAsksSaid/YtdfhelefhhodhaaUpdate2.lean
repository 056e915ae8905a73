/-
  parity.Update: what parity becomes. No condition but that the slices can be read.
-/
import Derived.Test.YtdfhelefhhodhaaUpdate
namespace Go.Proofs.Ytdfhelefhhodhaa
open Go.RowKit
set_option linter.unusedVariables false
set_option linter.unusedSimpArgs false

/-- A group's parity behind a change. -/
def updG (par : List (List UInt8)) (old now : List UInt8) (block k : Int) (g : Nat) : List UInt8 :=
  xorL (if g < par.length then xorL (par.getD g []) (oneL old block k g) else List.replicate block.toNat 0) (oneL now block k g)
def updN (par : List (List UInt8)) (old now : List UInt8) (block k : Int) (n : Nat) : List (List UInt8) := (List.range n).map fun g : Nat => updG par old now block k g
def updL (par : List (List UInt8)) (old now : List UInt8) (block k : Int) : List (List UInt8) := updN par old now block k (grp now.length block k).toNat
theorem updN_succ (par : List (List UInt8)) (old now : List UInt8) (block k : Int) (n : Nat) : updN par old now block k (n + 1) = updN par old now block k n ++ [updG par old now block k n] := by
  simp [updN, List.range_succ]
theorem updN_length (par : List (List UInt8)) (old now : List UInt8) (block k : Int) (n : Nat) : (updN par old now block k n).length = n := by simp [updN]

/-- May parity become another one? -/
def updOk (par : List (List UInt8)) (old : List UInt8) (block k : Int) : Bool := mayB block k && (((par.length : Int) == grp old.length block k) && allLen par block)

set_option maxHeartbeats 1000000 in
theorem update_bad {b0 b1 b2 e1 e2 : Nat} {vp vo vn : Value} {par : List (List UInt8)} {old now : List UInt8} (block k : Int) (w : World) (hp : SlL w b0 vp par) (ho : Sl bv e1 w b1 vo old) (hn : Sl bv e2 w b2 vn now)
    (hb : -9223372036854775808 ≤ block ∧ block ≤ 9223372036854775807) (hbad : updOk par old block k = false) :
    Calls Try.prog 9 #[vp, vo, vn, .int .i64 block, .int .i64 k] w fun e w' => e = .returned (.tuple #[.slice none 0 0, .int .i64 1]) ∧ Below w.heap.size w w' := by
  have HP := Aside0.mk hp
  obtain ⟨A, c, rfl, hc, hm⟩ := hp.shape
  obtain ⟨Ao, co, rfl, _, hmo, _⟩ := ho
  obtain ⟨An, cn, rfl, _, hmn, _⟩ := hn
  have HB1 : Aside0 (∀ o, Below w.heap.size w (w.alloc o)) := ⟨fun o => (Below.refl _ _).alloc (Nat.le_refl _) _⟩
  rcases hmay : mayB block k with _ | _
  · have HM := Aside0.mk hmay
    clear hmay hbad
    go_enter Try.func9, Try.ntmps9
    go_wp2_with fail
    refine (may_calls _ _ _).mono ?_
    rintro e w' ⟨rfl, rfl⟩
    rw [HM.out]
    go_wp2_with fail
    go_ret2
    exact ⟨rfl, HB1.out _⟩
  · rcases hlen : ((par.length : Int) == grp old.length block k) with _ | _
    · have HM := Aside0.mk hmay
      have HLEN := Aside0.mk hlen
      clear hmay hbad hlen
      go_enter Try.func9, Try.ntmps9
      go_wp2_with fail
      refine (may_calls _ _ _).mono ?_
      rintro e w' ⟨rfl, rfl⟩
      rw [HM.out]
      go_wp2_with fail
      refine (groups_calls _ _ _ _ (by omega) hb).mono ?_
      rintro e w' ⟨rfl, rfl⟩
      have hl := HLEN.out
      generalize grp old.length block k = q at hl ⊢
      have hl2 : ((par.length : Int) != q) = true := by rw [bne, hl]; rfl
      clear hl
      go_wp2_with fail
      go_ret2
      exact ⟨rfl, HB1.out _⟩
    · have hall : allLen par block = false := by
        unfold updOk at hbad; rw [hmay, hlen] at hbad; simpa using hbad
      have HM := Aside0.mk hmay
      have HLEN := Aside0.mk hlen
      have HALL := Aside0.mk hall
      clear hmay hbad hlen hall
      go_enter Try.func9, Try.ntmps9
      go_wp2_with fail
      refine (may_calls _ _ _).mono ?_
      rintro e w' ⟨rfl, rfl⟩
      rw [HM.out]
      go_wp2_with fail
      refine (groups_calls _ _ _ _ (by omega) hb).mono ?_
      rintro e w' ⟨rfl, rfl⟩
      have hl := HLEN.out
      generalize grp old.length block k = q at hl ⊢
      have hl2 : ((par.length : Int) != q) = false := by rw [bne, hl]; rfl
      clear hl
      go_wp2_with fail
      refine (contains_calls _ block _ (HP.out.below (HB1.out _)) (((blk (heap_new rfl)).1 0).trans rfl)).mono ?_
      rintro e w' ⟨rfl, rfl⟩
      rw [HALL.out]
      go_wp2_with fail
      go_ret2
      exact ⟨rfl, HB1.out _⟩

set_option maxHeartbeats 2000000 in
theorem update_good {b0 b1 b2 e1 e2 : Nat} {vp vo vn : Value} {par : List (List UInt8)} {old now : List UInt8} (block k : Int) (w : World) (hp : SlL w b0 vp par) (ho : Sl bv e1 w b1 vo old) (hn : Sl bv e2 w b2 vn now)
    (hb : -9223372036854775808 ≤ block ∧ block ≤ 9223372036854775807) (hok : updOk par old block k = true) :
    Calls Try.prog 9 #[vp, vo, vn, .int .i64 block, .int .i64 k] w fun e w' => ∃ v', e = .returned (.tuple #[v', .int .i64 0]) ∧ OwnL w' w.heap.size v' (updL par old now block k) ∧ Below w.heap.size w w' := by
  have HP := Aside0.mk hp
  have HO := Aside0.mk ho
  have HN := Aside0.mk hn
  obtain ⟨A, c, rfl, hc, hm⟩ := hp.shape
  obtain ⟨Ao, co, rfl, _, hmo, _⟩ := ho
  obtain ⟨An, cn, rfl, _, hmn, _⟩ := hn
  have HB1 : Aside0 (∀ o, Below w.heap.size w (w.alloc o)) := ⟨fun o => (Below.refl _ _).alloc (Nat.le_refl _) _⟩
  have hok' := hok
  unfold updOk at hok'
  simp only [Bool.and_eq_true] at hok'
  obtain ⟨hmay, hlen, hall⟩ := hok'
  obtain ⟨hbl0, hbl1, hk0, hk1⟩ := mayB_iff.1 hmay
  have HM := Aside0.mk hmay
  have HLEN := Aside0.mk hlen
  have HALL := Aside0.mk hall
  have HG := Aside0.mk (grp_bd now.length block k)
  clear hmay hlen hall hok hb
  obtain ⟨B, hB⟩ := Int.eq_ofNat_of_zero_le (show 0 ≤ block by omega)
  subst hB
  obtain ⟨i0, hi, hz0, hz1, hz2⟩ := info_parts info_u8
  go_enter Try.func9, Try.ntmps9
  go_wp2_with fail
  refine (may_calls _ _ _).mono ?_
  rintro e w' ⟨rfl, rfl⟩
  rw [HM.out]
  go_wp2_with fail
  refine (groups_calls _ _ _ _ (by omega) (by omega)).mono ?_
  rintro e w' ⟨rfl, rfl⟩
  have hl := HLEN.out
  generalize grp old.length (B : Int) k = q at hl ⊢
  have hl2 : ((par.length : Int) != q) = false := by rw [bne, hl]; rfl
  clear hl
  go_wp2_with fail
  refine (contains_calls _ (B : Int) _ (HP.out.below (HB1.out _)) (((blk (heap_new rfl)).1 0).trans rfl)).mono ?_
  rintro e w' ⟨rfl, rfl⟩
  rw [HALL.out]
  go_wp2_with fail
  refine (groups_calls _ _ _ _ (by omega) (by omega)).mono ?_
  rintro e w' ⟨rfl, rfl⟩
  obtain ⟨hq0, hq1⟩ := HG.out
  generalize hqq : grp now.length (B : Int) k = Q at hq0 hq1 ⊢
  have HQ := Aside0.mk hqq
  clear hqq
  obtain ⟨W, hW⟩ : ∃ W, W = w.alloc (.cells #[.int .i64 (B : Int)] 3) := ⟨_, rfl⟩
  have HW : Aside0 (W.cell? ⟨w.heap.size, 0, none⟩ = some (.int .i64 (B : Int)) ∧ W.heap.size = w.heap.size + 1 ∧ Below w.heap.size w W) := ⟨by subst hW; exact ((blk (heap_new rfl)).1 0).trans rfl, by subst hW; simp, by subst hW; exact HB1.out _⟩
  have HWh : Aside0 (W.heap[w.heap.size]? = some (.cells #[.int .i64 (B : Int)] 3 (0, 0))) := ⟨by subst hW; exact heap_new rfl⟩
  rw [← hW]
  clear hW
  go_wp2_with fail
  have HC : Aside0 (∀ {w1 : World}, Below W.heap.size W w1 → w1.cell? ⟨w.heap.size, 0, none⟩ = some (.int .i64 (B : Int))) := ⟨fun hb => (hb.cell (p := ⟨w.heap.size, 0, none⟩) (by have := HW.out.2.1; show w.heap.size < W.heap.size; omega)).trans HW.out.1⟩
  go_loopw [10, 38] (fun v i wr => ∃ n : Nat, (n : Int) ≤ Q ∧ i = .int .i64 n ∧ Aside0 (OwnL wr W.heap.size v (updN par old now (B : Int) k n) ∧ Below W.heap.size W wr)) (fun v i wr => (Q - intOf i).toNat)
  case atStart => exact ⟨0, by omega, rfl, ⟨OwnL.nil _ _, Below.refl _ _⟩⟩
  case round =>
    obtain ⟨n, hn, rfl, hs⟩ := hrel
    by_cases hlt : (n : Int) < Q
    · have cell := HC.out hs.out.2
      have HPr := Aside0.mk ((HP.out.below HW.out.2.2).below hs.out.2)
      have HOr := Aside0.mk ((HO.out.below HW.out.2.2).below hs.out.2)
      have HNr := Aside0.mk ((HN.out.below HW.out.2.2).below hs.out.2)
      by_cases hp : n < par.length
      · have hpd : decide ((n : Int) < (par.length : Int)) = true := by simpa using hp
        have hpd2 : decide (n < par.length) = true := by simpa using hp
        have hpn := Aside0.mk hp
        go_wp2_with (first | (at_make; go_must (refine wpList_make_full _ rfl _ _ 25 rfl wr.heap.size 5 i0 _ 1 Try.underlying25 hi hz0 hz1 _ _ _ _ B rfl rfl rfl rfl (by rw [hz2]; omega) (by simp only [maxLen]; omega) (Nat.le_refl _) ?_); intro w1 hown hgrow; have hz := made_bytes B; simp only [Value.cells, Nat.mul_one] at hown; rw [hz] at hown; clear hz; have H1 := Aside0.mk (show OwnB w1 wr.heap.size (.slice (some ⟨wr.heap.size, 0, none⟩) B B) (List.replicate B 0) ∧ Below wr.heap.size wr w1 from ⟨by unfold OwnB; simpa using hown, below_none hgrow⟩); clear hown hgrow; clear cell; have cell1 := HC.out (below_step hs.out.2 H1.out.2); obtain ⟨ad, ca, u, Au, cu, he, hu, hcell, hsl⟩ := (HPr.out.below H1.out.2).at n hp; cases he; obtain ⟨x, hxx⟩ : ∃ x, x = par.getD n [] := ⟨_, rfl⟩; rw [← hxx] at hu hsl; subst hu; have HX := Aside0.mk (show x = par.getD n [] ∧ Sl bv 5 w1 b0 (.slice Au x.length cu) x from ⟨hxx, hsl⟩); clear hxx hsl) | ((with_reducible refine copy_bytes rfl ?hg (.tmp 47) (.tmp 51) ?ho (off := 0) (g := wr.heap.size) (n := B) (cap := B) (x := List.replicate B 0) (u := .slice Au x.length cu) (y := x) (e := 5) (b0 := b0) (base := wr.heap.size) (dp := some ⟨wr.heap.size, 0, none⟩) (dLen := B) (dCap := B) ?hd ?hdp ?hown ?hoff ?hs ?hu ?hh); (case hg => rfl); (case ho => rfl); (case hd => rfl); (case hdp => intro _; rfl); (case hown => exact H1.out.1); (case hoff => simp); (case hs => rfl); (case hu => exact HX.out.2); intro m w2 ho2 hg2; have H2 := Aside0.mk (show OwnB w2 wr.heap.size (.slice (some ⟨wr.heap.size, 0, none⟩) B B) (par.getD n []) ∧ Below wr.heap.size wr w2 from ⟨by rw [← HX.out.1]; rw [splB_full _ _ (by have h1 := HALL.out; unfold allLen at h1; rw [List.all_eq_true] at h1; have h2 := h1 x (by rw [HX.out.1]; simp [List.getElem?_eq_getElem hpn.out]); simp at h2; rw [List.length_replicate]; omega)] at ho2; exact ho2, H1.out.2.grown hg2 H1.out.2.size (by rintro k' hk'; cases hk'; exact Nat.le_refl _)⟩); clear ho2 hg2 cell1; have cell2 := HC.out (below_step hs.out.2 H2.out.2)))
        refine (one_calls _ _ _ _ (HOr.out.below H2.out.2) ⟨hbl0, hbl1⟩ ⟨hk0, hk1⟩ (by omega)).mono ?_
        rintro e w3 ⟨v', rfl, hown, hb⟩
        have HO3 := Aside0.mk hown
        have HB3 := Aside0.mk hb
        clear hown hb
        go_wp2_with fail
        refine (mix_calls _ (own_below H2.out.1 HB3.out) (Sl.of_own (b := 0) HO3.out) (by
          rintro ad n' c' rfl _ he
          have h1 := own_base HO3.out ad.block rfl
          have h2 := own_lt H2.out.1 ad.block he.symm
          omega)).mono ?_
        rintro e w4 ⟨rfl, ho4, hg4⟩
        have H4 := Aside0.mk (show OwnB w4 wr.heap.size (.slice (some ⟨wr.heap.size, 0, none⟩) B B) (xorL (par.getD n []) (oneL old (B : Int) k n)) ∧ Below wr.heap.size wr w4 from
          ⟨ho4, (below_step H2.out.2 HB3.out).grown hg4 (below_step H2.out.2 HB3.out).size (own_base H2.out.1)⟩)
        clear ho4 hg4 cell2
        have cell4 := HC.out (below_step hs.out.2 H4.out.2)
        have HG2 : Aside0 (updG par old now (B : Int) k n = xorL (xorL (par.getD n []) (oneL old (B : Int) k n)) (oneL now (B : Int) k n)) := ⟨by rw [updG, if_pos hpn.out]⟩
        go_wp2_with fail
        refine (one_calls _ _ _ _ (HNr.out.below H4.out.2) ⟨hbl0, hbl1⟩ ⟨hk0, hk1⟩ (by omega)).mono ?_
        rintro e w5 ⟨v', rfl, hown, hb⟩
        have HO5 := Aside0.mk hown
        have HB5 := Aside0.mk hb
        clear hown hb
        go_wp2_with fail
        refine (mix_calls _ (own_below H4.out.1 HB5.out) (Sl.of_own (b := 0) HO5.out) (by
          rintro ad n' c' rfl _ he
          have h1 := own_base HO5.out ad.block rfl
          have h2 := own_lt H4.out.1 ad.block he.symm
          omega)).mono ?_
        rintro e w6 ⟨rfl, ho6, hg6⟩
        have H6 := Aside0.mk (show Sl bv 5 w6 W.heap.size (.slice (some ⟨wr.heap.size, 0, none⟩) B B) (updG par old now (B : Int) k n) ∧ Below wr.heap.size wr w6 from
          ⟨by rw [HG2.out]; exact Sl.of_own ho6, (below_step H4.out.2 HB5.out).grown hg6 (below_step H4.out.2 HB5.out).size (own_base H4.out.1)⟩)
        have HL6 := Aside0.mk (hs.out.1.below H6.out.2)
        have HB6 := Aside0.mk (below_step hs.out.2 H6.out.2)
        have HLL := Aside0.mk (updN_length par old now (B : Int) k n)
        clear ho6 hg6 cell4
        go_wp2_with (at_builtin; go_must (refine append_list rfl rfl (.tmp 67) (.tmp 69) rfl _ _ w6.heap.size 1 25 (0, 0) rfl rfl (HL6.out.below ((Below.refl _ _).alloc (Nat.le_refl _) _)) (heap_new rfl) (H6.out.1.below ((Below.refl _ _).alloc (Nat.le_refl _) _)) (by rw [HLL.out]; omega) (by have := HB6.out.size; simp; omega) ?_); intro v7 w7 hl7 hg7 hsh)
        have H7 := Aside0.mk (show OwnL w7 W.heap.size v7 (updN par old now (B : Int) k (n + 1)) ∧ Below W.heap.size W w7 from
          ⟨by rw [updN_succ]; exact hl7, (HB6.out.alloc HB6.out.size _).grown hg7 (by have := HB6.out.size; simp; omega) (OwnL.base_le HL6.out)⟩)
        clear hl7 hg7 hsh
        go_roundw
        case rel => exact ⟨n + 1, by omega, by go_num, H7⟩
        case measure => simp [intOf]; omega
      · have hpd : decide ((n : Int) < (par.length : Int)) = false := by simpa using hp
        have hpd2 : decide (n < par.length) = false := by simpa using hp
        have hpn := Aside0.mk hp
        go_wp2_with (at_make; go_must (refine wpList_make_full _ rfl _ _ 25 rfl wr.heap.size 5 i0 _ 1 Try.underlying25 hi hz0 hz1 _ _ _ _ B rfl rfl rfl rfl (by rw [hz2]; omega) (by simp only [maxLen]; omega) (Nat.le_refl _) ?_); intro w1 hown hgrow; have hz := made_bytes B; simp only [Value.cells, Nat.mul_one] at hown; rw [hz] at hown; clear hz; have H1 := Aside0.mk (show OwnB w1 wr.heap.size (.slice (some ⟨wr.heap.size, 0, none⟩) B B) (List.replicate B 0) ∧ Below wr.heap.size wr w1 from ⟨by unfold OwnB; simpa using hown, below_none hgrow⟩); clear hown hgrow; clear cell; have cell1 := HC.out (below_step hs.out.2 H1.out.2))
        have HG2 : Aside0 (updG par old now (B : Int) k n = xorL (List.replicate B 0) (oneL now (B : Int) k n)) := ⟨by rw [updG, if_neg hpn.out]; simp⟩
        go_wp2_with fail
        refine (one_calls _ _ _ _ (HNr.out.below H1.out.2) ⟨hbl0, hbl1⟩ ⟨hk0, hk1⟩ (by omega)).mono ?_
        rintro e w5 ⟨v', rfl, hown, hb⟩
        have HO5 := Aside0.mk hown
        have HB5 := Aside0.mk hb
        clear hown hb
        go_wp2_with fail
        refine (mix_calls _ (own_below H1.out.1 HB5.out) (Sl.of_own (b := 0) HO5.out) (by
          rintro ad n' c' rfl _ he
          have h1 := own_base HO5.out ad.block rfl
          have h2 := own_lt H1.out.1 ad.block he.symm
          omega)).mono ?_
        rintro e w6 ⟨rfl, ho6, hg6⟩
        have H6 := Aside0.mk (show Sl bv 5 w6 W.heap.size (.slice (some ⟨wr.heap.size, 0, none⟩) B B) (updG par old now (B : Int) k n) ∧ Below wr.heap.size wr w6 from
          ⟨by rw [HG2.out]; exact Sl.of_own ho6, (below_step H1.out.2 HB5.out).grown hg6 (below_step H1.out.2 HB5.out).size (own_base H1.out.1)⟩)
        have HL6 := Aside0.mk (hs.out.1.below H6.out.2)
        have HB6 := Aside0.mk (below_step hs.out.2 H6.out.2)
        have HLL := Aside0.mk (updN_length par old now (B : Int) k n)
        clear ho6 hg6 cell1
        go_wp2_with (at_builtin; go_must (refine append_list rfl rfl (.tmp 67) (.tmp 69) rfl _ _ w6.heap.size 1 25 (0, 0) rfl rfl (HL6.out.below ((Below.refl _ _).alloc (Nat.le_refl _) _)) (heap_new rfl) (H6.out.1.below ((Below.refl _ _).alloc (Nat.le_refl _) _)) (by rw [HLL.out]; omega) (by have := HB6.out.size; simp; omega) ?_); intro v7 w7 hl7 hg7 hsh)
        have H7 := Aside0.mk (show OwnL w7 W.heap.size v7 (updN par old now (B : Int) k (n + 1)) ∧ Below W.heap.size W w7 from
          ⟨by rw [updN_succ]; exact hl7, (HB6.out.alloc HB6.out.size _).grown hg7 (by have := HB6.out.size; simp; omega) (OwnL.base_le HL6.out)⟩)
        clear hl7 hg7 hsh
        go_roundw
        case rel => exact ⟨n + 1, by omega, by go_num, H7⟩
        case measure => simp [intOf]; omega
    · have hnq2 : n = Q.toNat := by omega
      have HNQ := Aside0.mk hnq2
      clear hnq2
      go_wp2_with fail
      go_ret2
      obtain ⟨vs, h1, h2, h3⟩ := hs.out.1
      refine ⟨_, rfl, ?_, ?_⟩
      · rw [updL, HQ.out, ← HNQ.out]
        have hle : w.heap.size ≤ W.heap.size := by have := HW.out.2.1; omega
        refine ⟨vs, h1, own_mono h2 hle, fun i u x hu hx => Sl.under_box (t := 3) (by have h := h3 i u x hu hx; rwa [HW.out.2.1] at h) ((hs.out.2.block _ (by have := HW.out.2.1; omega)).trans HWh.out) (fun j b hj => ?_)⟩
        cases j with
        | zero => cases hj
        | succ j => simp at hj
      · exact HW.out.2.2.trans (hs.out.2.mono (by have := HW.out.2.1; omega))
end Go.Proofs.Ytdfhelefhhodhaa
