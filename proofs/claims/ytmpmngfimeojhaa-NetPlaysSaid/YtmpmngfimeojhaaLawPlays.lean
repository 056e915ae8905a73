/-
  Whatever is done with a net: each call answers, and what waits is shown, as the document says. No condition: for every input.
-/
import Derived.Test.YtmpmngfimeojhaaPlaysA
import Derived.Test.YtmpmngfimeojhaaAlike
import Derived.Test.YtmpmngfimeojhaaListsEq
import Derived.Deep.DeepCutAuto
import Derived.Deep.RegionHeld3
import Derived.WalkMore
namespace Go.Proofs.Ytmpmngfimeojhaa
open Go.RowKit Go.Joins
set_option linter.unusedVariables false
set_option linter.unusedSimpArgs false

/-- One step. -/
structure St where
  kind : Int
  a : Int
  n : Int
  now : Int
  b : List UInt8
  u : Value
def stC (x : St) : List Value := [.int .i64 x.kind, .int .i64 x.a, .int .i64 x.n, .int .i64 x.now, x.u]
theorem stC_len (x : St) : (stC x).length = 5 := rfl
theorem step_at {e : Nat} {w : World} {base : Nat} {v : Value} {fs : List St} (h : SlC stC e w base v fs) (i : Nat) (hi : i < fs.length) : ∃ ad c, v = .slice (some ad) fs.length c ∧
    w.cell? (ad.add (i * 5)) = some (.int .i64 (fs[i]'hi).kind) ∧ w.cell? ⟨(ad.add (i * 5)).block, (ad.add (i * 5)).off + 1, none⟩ = some (.int .i64 (fs[i]'hi).a) ∧
    w.cell? ⟨(ad.add (i * 5)).block, (ad.add (i * 5)).off + 2, none⟩ = some (.int .i64 (fs[i]'hi).n) ∧ w.cell? ⟨(ad.add (i * 5)).block, (ad.add (i * 5)).off + 3, none⟩ = some (.int .i64 (fs[i]'hi).now) ∧
    w.cell? ⟨(ad.add (i * 5)).block, (ad.add (i * 5)).off + 4, none⟩ = some (fs[i]'hi).u := by
  obtain ⟨ad, c, rfl, hcell⟩ := h.at stC_len (by decide) i hi
  refine ⟨ad, c, rfl, ?_, ?_, ?_, ?_, ?_⟩
  · exact hcell 0 _ rfl
  · have h := hcell 1 _ rfl; rw [← add_add] at h; exact h
  · have h := hcell 2 _ rfl; rw [← add_add] at h; exact h
  · have h := hcell 3 _ rfl; rw [← add_add] at h; exact h
  · have h := hcell 4 _ rfl; rw [← add_add] at h; exact h
theorem st_cells {w : World} {k t : Nat} {x0 x1 x2 x3 : Int} {u : Value} (h : w.heap[k]? = some (.cells #[.int .i64 x0, .int .i64 x1, .int .i64 x2, .int .i64 x3, u] t (0, 0))) :
    w.cell? ⟨k, 0, none⟩ = some (.int .i64 x0) ∧ w.cell? ⟨k, 1, none⟩ = some (.int .i64 x1) ∧ w.cell? ⟨k, 2, none⟩ = some (.int .i64 x2) ∧ w.cell? ⟨k, 3, none⟩ = some (.int .i64 x3) ∧ w.cell? ⟨k, 4, none⟩ = some u := by
  obtain ⟨h1, _⟩ := blk h
  exact ⟨h1 0, h1 1, h1 2, h1 3, h1 4⟩
/-- The steps' weight. -/
def wtS : List St → Int
  | [] => 0
  | x :: xs => x.b.length + 1 + wtS xs
theorem wtS_nonneg : ∀ L, 0 ≤ wtS L
  | [] => by simp [wtS]
  | x :: xs => by have := wtS_nonneg xs; simp only [wtS]; omega
theorem wtS_append : ∀ L M, wtS (L ++ M) = wtS L + wtS M
  | [], M => by simp [wtS]
  | x :: xs, M => by simp only [List.cons_append, wtS, wtS_append xs M]; omega
theorem wtS_length : ∀ L, (L.length : Int) ≤ wtS L
  | [] => by simp [wtS]
  | x :: xs => by have := wtS_length xs; simp only [wtS, List.length_cons]; omega
theorem wtS_mem : ∀ (L : List St) (x : St), x ∈ L → (x.b.length : Int) < wtS L
  | y :: ys, x, h => by
    have h0 := wtS_nonneg ys
    simp only [wtS]
    rcases List.mem_cons.1 h with rfl | h
    · omega
    · have := wtS_mem ys x h; omega
theorem sum2 (q : Int) (n : Nat) (h0 : 0 ≤ q) (h1 : q ≤ 1000) : 0 ≤ sumI q [(n : Int), 1] ∧ sumI q [(n : Int), 1] ≤ 1099511627776 ∧ (sumI q [(n : Int), 1] ≤ 1000 → sumI q [(n : Int), 1] = q + n + 1) := by
  unfold sumI sumI sumI
  split
  · omega
  · split
    · omega
    · split
      · omega
      · split <;> omega
def plT (e : Nat) : Prop := netT e ∨ rnT e

set_option maxRecDepth 100000 in
set_option maxHeartbeats 8000000 in
theorem plays_calls {b0 : Nat} {v : Value} {l : List St} (w : World) (hv : SlC stC 47 w b0 v l) (hb : ∀ x ∈ l, Sl bv 5 w b0 x.u x.b) :
    Calls Try.prog 5 #[v] w fun e w' => e = .returned (.bool true) ∧ Below w.heap.size w w' := by
  have HB0 : Aside0 (∀ (w : World) o, Below w.heap.size w (w.alloc o)) := ⟨fun w o => (Below.refl _ _).alloc (Nat.le_refl _) _⟩
  have HV := Aside0.mk (hv.old (b := w.heap.size) (e' := 5) (Nat.le_refl _))
  have HBY := Aside0.mk (show ∀ x ∈ l, Sl bv 5 w w.heap.size x.u x.b from fun x hx => (hb x hx).old (Nat.le_refl _))
  obtain ⟨A, c, rfl, hc, hm, _⟩ := hv
  have hmx : l.length ≤ 9223372036854775807 := by simp only [maxLen] at hm; omega
  clear hb
  go_enter Try.func5, Try.ntmps5
  go_wp2_with fail
  go_loopw [3, 4] (fun s i wr => ∃ (k : Nat) (q : Int), k ≤ l.length ∧ i = .int .i64 k ∧ s = .int .i64 q ∧ 0 ≤ q ∧ q ≤ 1099511627776 ∧ Aside0 ((q ≤ 1000 → q = wtS (l.take k)) ∧ Below w.heap.size w wr)) (fun s i wr => l.length - (intOf i).toNat)
  case atStart => exact ⟨0, 0, Nat.zero_le _, rfl, rfl, Int.le_refl _, by decide, ⟨fun _ => rfl, Below.refl _ _⟩⟩
  case round =>
    obtain ⟨k, q, hk, rfl, rfl, hq0, hq1, hs⟩ := hrel
    by_cases hgo : k < l.length ∧ q ≤ 1000
    · obtain ⟨hlt, hq⟩ := hgo
      obtain ⟨ad, c', he, d0, d1, d2, d3, d4⟩ := step_at (HV.out.below hs.out.2) k hlt
      cases he
      have hsl := (HBY.out _ (List.getElem_mem hlt)).below hs.out.2
      have HTK := Aside0.mk (show wtS (l.take (k + 1)) = wtS (l.take k) + (l[k]'hlt).b.length + 1 from by
        rw [List.take_succ_eq_append_getElem hlt, wtS_append]; simp [wtS]; omega)
      obtain ⟨x, hx⟩ : ∃ x, x = l[k]'hlt := ⟨_, rfl⟩
      rw [← hx] at d4 hsl HTK
      obtain ⟨Au, cu, hu, hcu, hmu, _⟩ := hsl
      rw [hu] at d4
      have hs2 := sum2 q x.b.length hq0 hq
      clear d0 d1 d2 d3 hx hu
      go_wp2_with fail
      refine (sum_calls (e := 3) (b0 := 0) q _ [(x.b.length : Int), 1] _ hq0 (by omega) (by simp; omega) (Sl.at (cur := #[.int .i64 x.b.length, .int .i64 1]) (fr := (0, 0)) (heap_new rfl) rfl rfl (by simp) (by simp))).mono ?_
      rintro e w2 ⟨rfl, rfl⟩
      obtain ⟨q', hq'⟩ : ∃ q', q' = sumI q [(x.b.length : Int), 1] := ⟨_, rfl⟩
      rw [← hq'] at hs2 ⊢
      obtain ⟨hq0', hq1', hq2'⟩ := hs2
      have HQ2 := Aside0.mk hq2'
      clear hq' hq2'
      go_wp2_with fail
      go_roundw
      case rel => exact ⟨k + 1, q', by omega, by go_num, rfl, hq0', hq1', ⟨fun h => by rw [HQ2.out h, hs.out.1 hq, HTK.out], below_step hs.out.2 (HB0.out _ _)⟩⟩
      case measure => simp [intOf]; omega
    · by_cases hq : q ≤ 1000
      · have hlt : ¬ k < l.length := fun h => hgo ⟨h, hq⟩
        have hqq : ¬ 1000 < q := by omega
        have hw := hs.out.1 hq
        rw [List.take_of_length_le (by omega)] at hw
        have hln := wtS_length l
        have HLN := Aside0.mk (show l.length ≤ 1000 by omega)
        have HSM := Aside0.mk (show ∀ x ∈ l, x.b.length ≤ 1000 from fun x hx => by have := wtS_mem l x hx; omega)
        have HBW := Aside0.mk hs.out.2
        clear hw hln hs hgo
        go_wp2_with fail
        refine (new_calls _).mono ?_
        rintro e w1 ⟨rfl, N1, hb1⟩
        obtain ⟨G, hG⟩ : ∃ G, G = wr.heap.size := ⟨_, rfl⟩
        rw [← hG] at N1 hb1 ⊢
        have HGw := Aside0.mk (show w.heap.size ≤ G by rw [hG]; exact HBW.out.size)
        have hGlt := blk_lt N1.box
        have hb01 : Below w.heap.size w w1 := by rw [hG] at hb1; exact below_step HBW.out hb1
        have HVG := Aside0.mk (show SlC stC 5 w G _ l from HV.out.mono HGw.out)
        have HBG := Aside0.mk (show ∀ x ∈ l, Sl bv 5 w G x.u x.b from fun x hx => (HBY.out x hx).mono HGw.out)
        have H1 := Aside0.mk (And.intro N1 hb01)
        clear N1 hb1 hG hb01
        go_wp2_with fail
        obtain ⟨M, hM⟩ : ∃ M, M = w1.heap.size := ⟨_, rfl⟩
        rw [← hM]
        have H2 := Aside0.mk (show NetA (w1.alloc (.cells #[.int .i64 0, .int .i64 0, .slice none 0 0] 51)) G G ⟨0, 0, []⟩ ∧ RNetA (w1.alloc (.cells #[.int .i64 0, .int .i64 0, .slice none 0 0] 51)) G M ⟨0, 0, []⟩ ∧ Keeps plT w.heap.size w (w1.alloc (.cells #[.int .i64 0, .int .i64 0, .slice none 0 0] 51)) from
          ⟨⟨_, _, H1.out.1.below (HB0.out _ _), rfl⟩, ⟨.slice none 0 0, ⟨0, 0, []⟩, ⟨by omega, heap_new hM, World.ownsRow_nil _ _ _ _, fun f hf => by cases hf⟩, rfl⟩, .of_below (below_step H1.out.2 (HB0.out _ _))⟩)
        clear hM
        go_loopw [7] (fun i wr => ∃ k : Nat, k ≤ l.length ∧ i = .int .i64 k ∧ Aside0 (∃ a : KS, NetA wr G G a ∧ RNetA wr G M a ∧ OkA k a ∧ Keeps plT w.heap.size w wr)) (fun i wr => l.length - (intOf i).toNat)
        case atStart => exact ⟨0, Nat.zero_le _, rfl, ⟨_, H2.out.1, H2.out.2.1, ⟨by decide, by decide, by decide, by simp⟩, H2.out.2.2⟩⟩
        case round =>
          obtain ⟨k, hk, rfl, hs⟩ := hrel
          by_cases hlt : k < l.length
          · obtain ⟨a, hn, hm, hok, hK⟩ := hs.out
            obtain ⟨ad, c', he, d0, d1, d2, d3, d4⟩ := step_at (HV.out.keeps hK (by unfold plT netT rnT; decide) (Nat.le_refl _)) k hlt
            cases he
            have hsl := ((HBY.out _ (List.getElem_mem hlt)).keeps hK (by unfold plT netT rnT; decide) (Nat.le_refl _)).mono HGw.out
            have hsm := HSM.out _ (List.getElem_mem hlt)
            obtain ⟨x, hx⟩ : ∃ x, x = l[k]'hlt := ⟨_, rfl⟩
            rw [← hx] at d0 d1 d2 d3 d4 hsl hsm
            obtain ⟨kind, xa, xn, xnow, xb, xu⟩ := x
            simp only at d0 d1 d2 d3 d4 hsl hsm
            have hsl' := hsl
            obtain ⟨Au, cu, rfl, _⟩ := hsl'
            have HST := Aside0.mk (And.intro hn (And.intro hm (And.intro hok hK)))
            have HXB := Aside0.mk (And.intro hsl hsm)
            have hkx := heap_new (w := wr) (o := .cells #[.int .i64 kind, .int .i64 xa, .int .i64 xn, .int .i64 xnow, .slice Au xb.length cu] 47) rfl
            have HN1000 := Aside0.mk (show k ≤ 1099511627776 by have := HLN.out; omega)
            clear hn hm hok hK hsl hsm hx hs
            go_upto_region 15 with fail
            iterate 23 (first | go_values | go_skip | go_guarded | go_step | go_upon | go_back)
            obtain ⟨wy, hwy⟩ : ∃ wy, wy = wr.alloc (.cells #[.int .i64 kind, .int .i64 xa, .int .i64 xn, .int .i64 xnow, .slice Au xb.length cu] 47) := ⟨_, rfl⟩
            have hbA : Below wr.heap.size wr wy := by rw [hwy]; exact HB0.out _ _
            rw [← hwy] at hkx ⊢
            have HC := Aside0.mk (And.intro (HST.out.1.below hbA) (And.intro (HST.out.2.1.below hbA) hkx))
            have HXB := Aside0.mk (And.intro (HXB.out.1.below hbA) HXB.out.2)
            have HKK := Aside0.mk (HST.out.2.2.2.then_below hbA)
            have HOK := Aside0.mk HST.out.2.2.1
            have HKN1 := Aside0.mk (show k + 1 ≤ 1099511627776 by have := HLN.out; omega)
            have HKN := HN1000
            obtain ⟨s0, s1, s2, s3, s4⟩ := st_cells hkx
            obtain ⟨X, hX⟩ : ∃ X, X = wr.heap.size := ⟨_, rfl⟩
            rw [← hX] at hkx HC s0 s1 s2 s3 s4 ⊢
            clear hwy hkx hbA HST HN1000 d0 d1 d2 d3 d4 hX
            go_cut [] (fun wx => Aside0 (∃ a' : KS, NetA wx G G a' ∧ RNetA wx G M a' ∧ OkA (k + 1) a' ∧ Keeps plT w.heap.size w wx))
            case first =>
              have hcases : kind = 1 ∨ kind = 2 ∨ kind = 3 ∨ kind = 4 ∨ kind = 5 ∨ kind = 6 ∨ (¬ kind = 1 ∧ ¬ kind = 2 ∧ ¬ kind = 3 ∧ ¬ kind = 4 ∧ ¬ kind = 5 ∧ ¬ kind = 6) := by omega
              rcases hcases with rfl | rfl | rfl | rfl | rfl | rfl | ⟨hk1, hk2, hk3, hk4, hk5, hk6⟩
              · go_wp2_with fail
                refine (send_any xa xn xnow (HC.out.1.below (by first | exact Below.refl _ _ | exact (Below.refl _ _).drew)) HOK.out HKN.out (HXB.out.1.below (by first | exact Below.refl _ _ | exact (Below.refl _ _).drew)) HXB.out.2).mono ?_
                rintro e w2 ⟨rfl, hn2, K2⟩
                have HKK := Aside0.mk ((HKK.out.then_below (by first | exact Below.refl _ _ | exact (Below.refl _ _).drew)).trans (K2.wider (T' := plT) (fun e he => .inl he) HGw.out))
                have HXB := Aside0.mk (And.intro ((HXB.out.1.below (by first | exact Below.refl _ _ | exact (Below.refl _ _).drew)).keeps K2 (by unfold netT; decide) (Nat.le_refl _)) HXB.out.2)
                have HC := Aside0.mk (And.intro hn2 (And.intro ((HC.out.2.1.below (by first | exact Below.refl _ _ | exact (Below.refl _ _).drew)).keeps K2 (by unfold netT; decide) (by unfold netT; decide) (by unfold netT; decide)) (heap_keeps (below_heap (by first | exact Below.refl _ _ | exact (Below.refl _ _).drew) HC.out.2.2) K2 (.inr (by unfold netT; decide)))))
                obtain ⟨s0, s1, s2, s3, s4⟩ := st_cells HC.out.2.2
                clear hn2 K2
                go_wp2_with fail
                refine (rsend_any xa xn xnow (HC.out.2.1.below (by first | exact Below.refl _ _ | exact (Below.refl _ _).drew)) HOK.out HKN.out (HXB.out.1.below (by first | exact Below.refl _ _ | exact (Below.refl _ _).drew))).mono ?_
                rintro e w3 ⟨rfl, hm2, K2⟩
                have HKK := Aside0.mk ((HKK.out.then_below (by first | exact Below.refl _ _ | exact (Below.refl _ _).drew)).trans (K2.wider (T' := plT) (fun e he => .inr he) HGw.out))
                have HXB := Aside0.mk (And.intro ((HXB.out.1.below (by first | exact Below.refl _ _ | exact (Below.refl _ _).drew)).keeps K2 (by unfold rnT; decide) (Nat.le_refl _)) HXB.out.2)
                have HC := Aside0.mk (And.intro ((HC.out.1.below (by first | exact Below.refl _ _ | exact (Below.refl _ _).drew)).keeps K2 (by unfold rnT; decide) (by unfold rnT; decide) (by unfold rnT; decide)) (And.intro hm2 (heap_keeps (below_heap (by first | exact Below.refl _ _ | exact (Below.refl _ _).drew) HC.out.2.2) K2 (.inr (by unfold rnT; decide)))))
                obtain ⟨s0, s1, s2, s3, s4⟩ := st_cells HC.out.2.2
                clear hm2 K2
                go_wp2_with fail
                go_meet
                exact ⟨⟨_, HC.out.1.below (by first | exact Below.refl _ _ | exact (Below.refl _ _).drew), HC.out.2.1.below (by first | exact Below.refl _ _ | exact (Below.refl _ _).drew), HOK.out.send xa xn xnow HXB.out.2, HKK.out.then_below (by first | exact Below.refl _ _ | exact (Below.refl _ _).drew)⟩⟩
              · go_wp2_with fail
                go_region_held3 (fun w' => w'.cell? ⟨X, 1, none⟩ = some (.int .i64 xa) ∧ w'.cell? ⟨X, 2, none⟩ = some (.int .i64 xn) ∧ w'.cell? ⟨X, 3, none⟩ = some (.int .i64 xnow)) (first | exact ⟨s1, s2, s3⟩) (first
                    | ((go_at_call 11; refine (lose_any xa (HC.out.1.below (by first | exact Below.refl _ _ | exact (Below.refl _ _).drew)) HOK.out HKN.out).mono ?_; rintro e w2 ⟨rfl, hn2, K2⟩)
                       have HKK := Aside0.mk ((HKK.out.then_below (by first | exact Below.refl _ _ | exact (Below.refl _ _).drew)).trans (K2.wider (T' := plT) (fun e he => .inl he) HGw.out))
                       have HXB := Aside0.mk (And.intro ((HXB.out.1.below (by first | exact Below.refl _ _ | exact (Below.refl _ _).drew)).keeps K2 (by unfold netT; decide) (Nat.le_refl _)) HXB.out.2)
                       have HC := Aside0.mk (And.intro hn2 (And.intro ((HC.out.2.1.below (by first | exact Below.refl _ _ | exact (Below.refl _ _).drew)).keeps K2 (by unfold netT; decide) (by unfold netT; decide) (by unfold netT; decide)) (heap_keeps (below_heap (by first | exact Below.refl _ _ | exact (Below.refl _ _).drew) HC.out.2.2) K2 (.inr (by unfold netT; decide)))))
                       obtain ⟨s0, s1, s2, s3, s4⟩ := st_cells HC.out.2.2
                       clear hn2 K2)
                    | ((go_at_call 19; refine (rlose_any xa (HC.out.2.1.below (by first | exact Below.refl _ _ | exact (Below.refl _ _).drew)) HOK.out HKN.out).mono ?_; rintro e w2 ⟨rfl, hm2, K2⟩)
                       have HKK := Aside0.mk ((HKK.out.then_below (by first | exact Below.refl _ _ | exact (Below.refl _ _).drew)).trans (K2.wider (T' := plT) (fun e he => .inr he) HGw.out))
                       have HXB := Aside0.mk (And.intro ((HXB.out.1.below (by first | exact Below.refl _ _ | exact (Below.refl _ _).drew)).keeps K2 (by unfold rnT; decide) (Nat.le_refl _)) HXB.out.2)
                       have HC := Aside0.mk (And.intro ((HC.out.1.below (by first | exact Below.refl _ _ | exact (Below.refl _ _).drew)).keeps K2 (by unfold rnT; decide) (by unfold rnT; decide) (by unfold rnT; decide)) (And.intro hm2 (heap_keeps (below_heap (by first | exact Below.refl _ _ | exact (Below.refl _ _).drew) HC.out.2.2) K2 (.inr (by unfold rnT; decide)))))
                       obtain ⟨s0, s1, s2, s3, s4⟩ := st_cells HC.out.2.2
                       clear hm2 K2))
                all_goals
                  go_wp2_with fail
                  go_meet
                  exact ⟨⟨_, HC.out.1.below (by first | exact Below.refl _ _ | exact (Below.refl _ _).drew), HC.out.2.1.below (by first | exact Below.refl _ _ | exact (Below.refl _ _).drew), HOK.out.lose xa, HKK.out.then_below (by first | exact Below.refl _ _ | exact (Below.refl _ _).drew)⟩⟩
              · go_wp2_with fail
                refine (double_any xa (HC.out.1.below (by first | exact Below.refl _ _ | exact (Below.refl _ _).drew)) HOK.out HKN.out).mono ?_
                rintro e w2 ⟨rfl, hn2, K2⟩
                have HKK := Aside0.mk ((HKK.out.then_below (by first | exact Below.refl _ _ | exact (Below.refl _ _).drew)).trans (K2.wider (T' := plT) (fun e he => .inl he) HGw.out))
                have HXB := Aside0.mk (And.intro ((HXB.out.1.below (by first | exact Below.refl _ _ | exact (Below.refl _ _).drew)).keeps K2 (by unfold netT; decide) (Nat.le_refl _)) HXB.out.2)
                have HC := Aside0.mk (And.intro hn2 (And.intro ((HC.out.2.1.below (by first | exact Below.refl _ _ | exact (Below.refl _ _).drew)).keeps K2 (by unfold netT; decide) (by unfold netT; decide) (by unfold netT; decide)) (heap_keeps (below_heap (by first | exact Below.refl _ _ | exact (Below.refl _ _).drew) HC.out.2.2) K2 (.inr (by unfold netT; decide)))))
                obtain ⟨s0, s1, s2, s3, s4⟩ := st_cells HC.out.2.2
                clear hn2 K2
                go_wp2_with fail
                refine (rdouble_any xa (HC.out.2.1.below (by first | exact Below.refl _ _ | exact (Below.refl _ _).drew)) HOK.out HKN.out).mono ?_
                rintro e w3 ⟨rfl, hm2, K2⟩
                have HKK := Aside0.mk ((HKK.out.then_below (by first | exact Below.refl _ _ | exact (Below.refl _ _).drew)).trans (K2.wider (T' := plT) (fun e he => .inr he) HGw.out))
                have HXB := Aside0.mk (And.intro ((HXB.out.1.below (by first | exact Below.refl _ _ | exact (Below.refl _ _).drew)).keeps K2 (by unfold rnT; decide) (Nat.le_refl _)) HXB.out.2)
                have HC := Aside0.mk (And.intro ((HC.out.1.below (by first | exact Below.refl _ _ | exact (Below.refl _ _).drew)).keeps K2 (by unfold rnT; decide) (by unfold rnT; decide) (by unfold rnT; decide)) (And.intro hm2 (heap_keeps (below_heap (by first | exact Below.refl _ _ | exact (Below.refl _ _).drew) HC.out.2.2) K2 (.inr (by unfold rnT; decide)))))
                obtain ⟨s0, s1, s2, s3, s4⟩ := st_cells HC.out.2.2
                clear hm2 K2
                go_wp2_with fail
                go_meet
                exact ⟨⟨_, HC.out.1.below (by first | exact Below.refl _ _ | exact (Below.refl _ _).drew), HC.out.2.1.below (by first | exact Below.refl _ _ | exact (Below.refl _ _).drew), HOK.out.double xa, HKK.out.then_below (by first | exact Below.refl _ _ | exact (Below.refl _ _).drew)⟩⟩
              · go_wp2_with fail
                go_region_held3 (fun w' => w'.cell? ⟨X, 1, none⟩ = some (.int .i64 xa) ∧ w'.cell? ⟨X, 2, none⟩ = some (.int .i64 xn) ∧ w'.cell? ⟨X, 3, none⟩ = some (.int .i64 xnow)) (first | exact ⟨s1, s2, s3⟩) (first
                    | ((go_at_call 16; refine (swap_any xa xn (HC.out.1.below (by first | exact Below.refl _ _ | exact (Below.refl _ _).drew))).mono ?_; rintro e w2 ⟨rfl, hn2, K2⟩)
                       have HKK := Aside0.mk ((HKK.out.then_below (by first | exact Below.refl _ _ | exact (Below.refl _ _).drew)).trans (K2.wider (T' := plT) (fun e he => .inl he) HGw.out))
                       have HXB := Aside0.mk (And.intro ((HXB.out.1.below (by first | exact Below.refl _ _ | exact (Below.refl _ _).drew)).keeps K2 (by unfold netT; decide) (Nat.le_refl _)) HXB.out.2)
                       have HC := Aside0.mk (And.intro hn2 (And.intro ((HC.out.2.1.below (by first | exact Below.refl _ _ | exact (Below.refl _ _).drew)).keeps K2 (by unfold netT; decide) (by unfold netT; decide) (by unfold netT; decide)) (heap_keeps (below_heap (by first | exact Below.refl _ _ | exact (Below.refl _ _).drew) HC.out.2.2) K2 (.inr (by unfold netT; decide)))))
                       obtain ⟨s0, s1, s2, s3, s4⟩ := st_cells HC.out.2.2
                       clear hn2 K2)
                    | ((go_at_call 21; refine (rswap_any xa xn (HC.out.2.1.below (by first | exact Below.refl _ _ | exact (Below.refl _ _).drew)) HOK.out HKN.out).mono ?_; rintro e w2 ⟨rfl, hm2, K2⟩)
                       have HKK := Aside0.mk ((HKK.out.then_below (by first | exact Below.refl _ _ | exact (Below.refl _ _).drew)).trans (K2.wider (T' := plT) (fun e he => .inr he) HGw.out))
                       have HXB := Aside0.mk (And.intro ((HXB.out.1.below (by first | exact Below.refl _ _ | exact (Below.refl _ _).drew)).keeps K2 (by unfold rnT; decide) (Nat.le_refl _)) HXB.out.2)
                       have HC := Aside0.mk (And.intro ((HC.out.1.below (by first | exact Below.refl _ _ | exact (Below.refl _ _).drew)).keeps K2 (by unfold rnT; decide) (by unfold rnT; decide) (by unfold rnT; decide)) (And.intro hm2 (heap_keeps (below_heap (by first | exact Below.refl _ _ | exact (Below.refl _ _).drew) HC.out.2.2) K2 (.inr (by unfold rnT; decide)))))
                       obtain ⟨s0, s1, s2, s3, s4⟩ := st_cells HC.out.2.2
                       clear hm2 K2))
                all_goals
                  go_wp2_with fail
                  go_meet
                  exact ⟨⟨_, HC.out.1.below (by first | exact Below.refl _ _ | exact (Below.refl _ _).drew), HC.out.2.1.below (by first | exact Below.refl _ _ | exact (Below.refl _ _).drew), HOK.out.swap xa xn, HKK.out.then_below (by first | exact Below.refl _ _ | exact (Below.refl _ _).drew)⟩⟩
              · go_wp2_with fail
                go_region_held3 (fun w' => w'.cell? ⟨X, 1, none⟩ = some (.int .i64 xa) ∧ w'.cell? ⟨X, 2, none⟩ = some (.int .i64 xn) ∧ w'.cell? ⟨X, 3, none⟩ = some (.int .i64 xnow)) (first | exact ⟨s1, s2, s3⟩) (first
                    | ((go_at_call 10; refine (take_any xa xnow (HC.out.1.below (by first | exact Below.refl _ _ | exact (Below.refl _ _).drew)) HOK.out HKN.out).mono ?_; rintro e w2 ⟨⟨vt, rfl, ht⟩, hn2, K2⟩)
                       try have HG := Aside0.mk ((HG.out.below (by first | exact Below.refl _ _ | exact (Below.refl _ _).drew)).keeps K2 (by unfold netT; decide) (by unfold netT; decide) (Nat.le_refl _))
                       have HKK := Aside0.mk ((HKK.out.then_below (by first | exact Below.refl _ _ | exact (Below.refl _ _).drew)).trans (K2.wider (T' := plT) (fun e he => .inl he) HGw.out))
                       have HXB := Aside0.mk (And.intro ((HXB.out.1.below (by first | exact Below.refl _ _ | exact (Below.refl _ _).drew)).keeps K2 (by unfold netT; decide) (Nat.le_refl _)) HXB.out.2)
                       have HC := Aside0.mk (And.intro hn2 (And.intro ((HC.out.2.1.below (by first | exact Below.refl _ _ | exact (Below.refl _ _).drew)).keeps K2 (by unfold netT; decide) (by unfold netT; decide) (by unfold netT; decide)) (heap_keeps (below_heap (by first | exact Below.refl _ _ | exact (Below.refl _ _).drew) HC.out.2.2) K2 (.inr (by unfold netT; decide)))))
                       obtain ⟨s0, s1, s2, s3, s4⟩ := st_cells HC.out.2.2
                       have HT := Aside0.mk ht
                       obtain ⟨Av, cv, rfl, _⟩ := ht.list.reads.shape
                       clear hn2 K2 ht)
                    | ((go_at_call 23; refine (rtake_any xa xnow (HC.out.2.1.below (by first | exact Below.refl _ _ | exact (Below.refl _ _).drew)) HOK.out HKN.out).mono ?_; rintro e w2 ⟨⟨vr, rfl, hr⟩, hm2, K2⟩)
                       try have HT := Aside0.mk ((HT.out.below (by first | exact Below.refl _ _ | exact (Below.refl _ _).drew)).keeps K2 (by unfold rnT; decide) (by unfold rnT; decide))
                       have HKK := Aside0.mk ((HKK.out.then_below (by first | exact Below.refl _ _ | exact (Below.refl _ _).drew)).trans (K2.wider (T' := plT) (fun e he => .inr he) HGw.out))
                       have HXB := Aside0.mk (And.intro ((HXB.out.1.below (by first | exact Below.refl _ _ | exact (Below.refl _ _).drew)).keeps K2 (by unfold rnT; decide) (Nat.le_refl _)) HXB.out.2)
                       have HC := Aside0.mk (And.intro ((HC.out.1.below (by first | exact Below.refl _ _ | exact (Below.refl _ _).drew)).keeps K2 (by unfold rnT; decide) (by unfold rnT; decide) (by unfold rnT; decide)) (And.intro hm2 (heap_keeps (below_heap (by first | exact Below.refl _ _ | exact (Below.refl _ _).drew) HC.out.2.2) K2 (.inr (by unfold rnT; decide)))))
                       obtain ⟨s0, s1, s2, s3, s4⟩ := st_cells HC.out.2.2
                       have HG := Aside0.mk hr
                       obtain ⟨Ar, cr, rfl, _⟩ := hr.shape
                       clear hm2 K2 hr)
                    | ((go_at_call 22; refine (lists_calls _ (HT.out.below (by first | exact Below.refl _ _ | exact (Below.refl _ _).drew)).list.reads (HG.out.below (by first | exact Below.refl _ _ | exact (Below.refl _ _).drew)).reads).mono ?_; rintro e w2 ⟨rfl, hb2⟩)
                       have HKK := Aside0.mk ((HKK.out.then_below (by first | exact Below.refl _ _ | exact (Below.refl _ _).drew)).then_below hb2)
                       have HXB := Aside0.mk (And.intro ((HXB.out.1.below (by first | exact Below.refl _ _ | exact (Below.refl _ _).drew)).below hb2) HXB.out.2)
                       have HC := Aside0.mk (And.intro ((HC.out.1.below (by first | exact Below.refl _ _ | exact (Below.refl _ _).drew)).below hb2) (And.intro ((HC.out.2.1.below (by first | exact Below.refl _ _ | exact (Below.refl _ _).drew)).below hb2) (below_heap hb2 (below_heap (by first | exact Below.refl _ _ | exact (Below.refl _ _).drew) HC.out.2.2))))
                       obtain ⟨s0, s1, s2, s3, s4⟩ := st_cells HC.out.2.2
                       rw [show (takeV xa xnow a == takeV xa xnow a) = true from by simp]
                       clear hb2))
                all_goals
                  go_wp2_with fail
                  go_meet
                  exact ⟨⟨_, HC.out.1.below (by first | exact Below.refl _ _ | exact (Below.refl _ _).drew), HC.out.2.1.below (by first | exact Below.refl _ _ | exact (Below.refl _ _).drew), HOK.out.take xa xnow, HKK.out.then_below (by first | exact Below.refl _ _ | exact (Below.refl _ _).drew)⟩⟩
              · go_wp2_with fail
                go_region_held3 (fun w' => w'.cell? ⟨X, 1, none⟩ = some (.int .i64 xa) ∧ w'.cell? ⟨X, 2, none⟩ = some (.int .i64 xn) ∧ w'.cell? ⟨X, 3, none⟩ = some (.int .i64 xnow)) (first | exact ⟨s1, s2, s3⟩) (first
                    | ((go_at_call 12; refine (due_any xa xnow (HC.out.1.below (by first | exact Below.refl _ _ | exact (Below.refl _ _).drew)) HOK.out HKN.out).mono ?_; rintro e w2 ⟨⟨vt, rfl, ht⟩, hb2⟩)
                       try have HG := Aside0.mk ((HG.out.below (by first | exact Below.refl _ _ | exact (Below.refl _ _).drew)).below hb2)
                       have HKK := Aside0.mk ((HKK.out.then_below (by first | exact Below.refl _ _ | exact (Below.refl _ _).drew)).then_below hb2)
                       have HXB := Aside0.mk (And.intro ((HXB.out.1.below (by first | exact Below.refl _ _ | exact (Below.refl _ _).drew)).below hb2) HXB.out.2)
                       have HC := Aside0.mk (And.intro ((HC.out.1.below (by first | exact Below.refl _ _ | exact (Below.refl _ _).drew)).below hb2) (And.intro ((HC.out.2.1.below (by first | exact Below.refl _ _ | exact (Below.refl _ _).drew)).below hb2) (below_heap hb2 (below_heap (by first | exact Below.refl _ _ | exact (Below.refl _ _).drew) HC.out.2.2))))
                       obtain ⟨s0, s1, s2, s3, s4⟩ := st_cells HC.out.2.2
                       have HT := Aside0.mk ht
                       obtain ⟨Av, nv', cv, rfl⟩ := ht.shape
                       clear hb2 ht)
                    | ((go_at_call 25; refine (rdue_any xa xnow (HC.out.2.1.below (by first | exact Below.refl _ _ | exact (Below.refl _ _).drew)) HOK.out HKN.out).mono ?_; rintro e w2 ⟨⟨vr, rfl, hr⟩, hb2⟩)
                       try have HT := Aside0.mk ((HT.out.below (by first | exact Below.refl _ _ | exact (Below.refl _ _).drew)).below hb2)
                       have HKK := Aside0.mk ((HKK.out.then_below (by first | exact Below.refl _ _ | exact (Below.refl _ _).drew)).then_below hb2)
                       have HXB := Aside0.mk (And.intro ((HXB.out.1.below (by first | exact Below.refl _ _ | exact (Below.refl _ _).drew)).below hb2) HXB.out.2)
                       have HC := Aside0.mk (And.intro ((HC.out.1.below (by first | exact Below.refl _ _ | exact (Below.refl _ _).drew)).below hb2) (And.intro ((HC.out.2.1.below (by first | exact Below.refl _ _ | exact (Below.refl _ _).drew)).below hb2) (below_heap hb2 (below_heap (by first | exact Below.refl _ _ | exact (Below.refl _ _).drew) HC.out.2.2))))
                       obtain ⟨s0, s1, s2, s3, s4⟩ := st_cells HC.out.2.2
                       have HG := Aside0.mk hr
                       obtain ⟨Ar, nr', cr, rfl⟩ := hr.shape
                       clear hb2 hr)
                    | ((go_at_call 24; refine (same_any (HT.out.below (by first | exact Below.refl _ _ | exact (Below.refl _ _).drew)) (HG.out.below (by first | exact Below.refl _ _ | exact (Below.refl _ _).drew))).mono ?_; rintro e w2 ⟨rfl, hb2⟩)
                       have HKK := Aside0.mk ((HKK.out.then_below (by first | exact Below.refl _ _ | exact (Below.refl _ _).drew)).then_below hb2)
                       have HXB := Aside0.mk (And.intro ((HXB.out.1.below (by first | exact Below.refl _ _ | exact (Below.refl _ _).drew)).below hb2) HXB.out.2)
                       have HC := Aside0.mk (And.intro ((HC.out.1.below (by first | exact Below.refl _ _ | exact (Below.refl _ _).drew)).below hb2) (And.intro ((HC.out.2.1.below (by first | exact Below.refl _ _ | exact (Below.refl _ _).drew)).below hb2) (below_heap hb2 (below_heap (by first | exact Below.refl _ _ | exact (Below.refl _ _).drew) HC.out.2.2))))
                       obtain ⟨s0, s1, s2, s3, s4⟩ := st_cells HC.out.2.2
                       clear hb2))
                all_goals
                  go_wp2_with fail
                  go_meet
                  exact ⟨⟨_, HC.out.1.below (by first | exact Below.refl _ _ | exact (Below.refl _ _).drew), HC.out.2.1.below (by first | exact Below.refl _ _ | exact (Below.refl _ _).drew), HOK.out.more, HKK.out.then_below (by first | exact Below.refl _ _ | exact (Below.refl _ _).drew)⟩⟩
              · have b1 : (kind == 1) = false := by simp [hk1]
                have b2 : (kind == 2) = false := by simp [hk2]
                have b3 : (kind == 3) = false := by simp [hk3]
                have b4 : (kind == 4) = false := by simp [hk4]
                have b5 : (kind == 5) = false := by simp [hk5]
                have b6 : (kind == 6) = false := by simp [hk6]
                go_wp2_with fail
                go_meet
                exact ⟨⟨_, HC.out.1.below (by first | exact Below.refl _ _ | exact (Below.refl _ _).drew), HC.out.2.1.below (by first | exact Below.refl _ _ | exact (Below.refl _ _).drew), HOK.out.more, HKK.out.then_below (by first | exact Below.refl _ _ | exact (Below.refl _ _).drew)⟩⟩
            case rest =>
              obtain ⟨a', ha1, ha2, ha3, ha4⟩ := hcut.out
              have HF := Aside0.mk (And.intro ha1 (And.intro ha2 (And.intro ha3 (And.intro ha4 HKN1.out))))
              obtain ⟨vm, m0, m1, m2o, m3, hr0⟩ := HF.out.2.1.cells
              obtain ⟨Am, nm, cm, rfl⟩ := hr0.shape
              have HR := Aside0.mk hr0
              clear hr0 ha1 ha2 ha3 ha4 hcut
              go_wp2_with fail
              go_region_held3 (fun w' => w'.cell? ⟨M, 1, none⟩ = some (.int .i64 a'.lost) ∧ w'.cell? ⟨M, 2, none⟩ = some (.slice Am nm cm)) (first | exact ⟨m1, m2o⟩) (first
                  | ((go_at_call 13; refine (waiting_any (HF.out.1.below (by first | exact Below.refl _ _ | exact (Below.refl _ _).drew)) HF.out.2.2.1 HF.out.2.2.2.2).mono ?_; rintro e w2 ⟨⟨vt, rfl, ht⟩, hb2⟩)
                     have HF := Aside0.mk (And.intro ((HF.out.1.below (by first | exact Below.refl _ _ | exact (Below.refl _ _).drew)).below hb2) (And.intro ((HF.out.2.1.below (by first | exact Below.refl _ _ | exact (Below.refl _ _).drew)).below hb2) (And.intro HF.out.2.2.1 (And.intro ((HF.out.2.2.2.1.then_below (by first | exact Below.refl _ _ | exact (Below.refl _ _).drew)).then_below hb2) HF.out.2.2.2.2))))
                     have HT := Aside0.mk ht
                     obtain ⟨Av, nv', cv, rfl⟩ := ht.shape
                     have HR := Aside0.mk ((HR.out.below (by first | exact Below.refl _ _ | exact (Below.refl _ _).drew)).below hb2)
                     obtain ⟨vm', m0, m1, m2, m3, hr0⟩ := HF.out.2.1.cells
                     have m2o := cell_keep hb2 m2o
                     clear hb2 ht hr0 m2)
                  | ((go_at_call 24; refine (same_any (HT.out.below (by first | exact Below.refl _ _ | exact (Below.refl _ _).drew)) (HR.out.below (by first | exact Below.refl _ _ | exact (Below.refl _ _).drew))).mono ?_; rintro e w2 ⟨rfl, hb2⟩)
                     have HF := Aside0.mk (And.intro ((HF.out.1.below (by first | exact Below.refl _ _ | exact (Below.refl _ _).drew)).below hb2) (And.intro ((HF.out.2.1.below (by first | exact Below.refl _ _ | exact (Below.refl _ _).drew)).below hb2) (And.intro HF.out.2.2.1 (And.intro ((HF.out.2.2.2.1.then_below (by first | exact Below.refl _ _ | exact (Below.refl _ _).drew)).then_below hb2) HF.out.2.2.2.2))))
                     obtain ⟨vm', m0, m1, m2, m3, hr0⟩ := HF.out.2.1.cells
                     have m2o := cell_keep hb2 m2o
                     clear hb2 hr0 m2)
                  | ((go_at_call 14; refine (lost_any (HF.out.1.below (by first | exact Below.refl _ _ | exact (Below.refl _ _).drew))).mono ?_; rintro e w2 ⟨rfl, rfl⟩)
                     skip))
              all_goals
                go_wp2_with fail
                go_roundw
                case rel => exact ⟨k + 1, by omega, by go_num, ⟨_, HF.out.1.below (by first | exact Below.refl _ _ | exact (Below.refl _ _).drew), HF.out.2.1.below (by first | exact Below.refl _ _ | exact (Below.refl _ _).drew), HF.out.2.2.1, HF.out.2.2.2.1.then_below (by first | exact Below.refl _ _ | exact (Below.refl _ _).drew)⟩⟩
                case measure => simp [intOf]; omega
          · have HZ := Aside0.mk (show Keeps plT w.heap.size w wr from by obtain ⟨a, _, _, _, h⟩ := hs.out; exact h)
            clear hs
            go_wp2_with fail
            refine (awake_calls _).mono ?_
            rintro e w14 ⟨rfl, hb14⟩
            have H14 := Aside0.mk (HZ.out.then_below hb14)
            clear hb14
            go_wp2_with fail
            go_ret
            exact ⟨rfl, H14.out.below (Nat.le_refl _) (Nat.le_refl _)⟩
      · have hqq : 1000 < q := by omega
        by_cases hlt : k < l.length
        all_goals
          have HBW := Aside0.mk hs.out.2
          clear hs hgo
          go_wp2_with fail
          refine (awake_calls _).mono ?_
          rintro e w14 ⟨rfl, hb14⟩
          have H14 := Aside0.mk (below_step HBW.out hb14)
          clear hb14
          go_wp2_with fail
          go_ret
          exact ⟨rfl, H14.out⟩
end Go.Proofs.Ytmpmngfimeojhaa
