/-
  SchedRounds: in so many calls as a round has each block is visited, and none twice as often as another, but for one. No condition.
-/
import Derived.Test.YtoigmepkhiknbaaDoorLawSOrd
import Derived.Test.YtoigmepkhiknbaaDoorSchRnd
import Derived.Test.YtoigmepkhiknbaaDoorRowApp
import Derived.Test.YtoigmepkhiknbaaDoorStillQ
namespace Go.Proofs.YtoigmepkhiknbaaDoor
open Go.RowKit Go.Joins Go.Maps
set_option linter.unusedVariables false
set_option linter.unusedSimpArgs false

theorem int_nth {e b : Nat} {w : World} {A : Option Addr} {n c : Nat} {l : List Int} (h : Sl iv e w b (.slice A n c) l) (i : Nat) (hi : i < l.length) : ∃ ad, A = some ad ∧ w.cell? (ad.add i) = some (.int .i64 (l.getD i 0)) := by
  obtain ⟨A', c', h1, h2, h3, h4⟩ := h
  obtain ⟨ad, rfl, hc⟩ := h4.cell i (iv l[i]) (by simp [List.getElem?_eq_getElem hi])
  cases h1
  exact ⟨ad, rfl, by rw [hc]; simp [iv, List.getElem?_eq_getElem hi]⟩
/-- How often each has been seen. -/
def SeenB (w : World) (sb : Nat) (L : List Ent) : Prop := ∃ cur, w.heap[sb]? = some (.cells cur 34 (0, 0)) ∧ ∀ i j, i < 10 → j < 8 → cur[i * 8 + j]? = some (.int .i64 (L.count (pk i, j) : Int))
theorem seen_zero : ∀ i, i < 10 → ∀ j, j < 8 → Tryd.zeroCells34[i * 8 + j]? = some (.int .i64 0) := by
  intro i hi j hj
  have h : Tryd.zeroCells34 = Array.replicate 80 (Value.int .i64 0) := by kernel_rfl
  rw [h, Array.getElem?_replicate, if_pos (by omega)]
theorem SeenB.below {w w' : World} {sb : Nat} {L : List Ent} (h : SeenB w sb L) (hb : Below w.heap.size w w') : SeenB w' sb L := by
  obtain ⟨cur, h1, h2⟩ := h
  exact ⟨cur, below_heap hb h1, h2⟩
theorem SeenB.lt {w : World} {sb : Nat} {L : List Ent} (h : SeenB w sb L) : sb < w.heap.size := by
  obtain ⟨cur, h1, _⟩ := h
  exact blk_lt h1
theorem SeenB.bump {w : World} {sb : Nat} {L : List Ent} (h : SeenB w sb L) {a m : Nat} (ha : a < 10) (hm : m < 8) :
    SeenB (w.setCell ⟨sb, a * 8 + m, none⟩ (.int .i64 ((L.count (pk a, m) : Int) + 1))) sb (L ++ [(pk a, m)]) := by
  obtain ⟨cur, h1, h2⟩ := h
  refine ⟨_, by rw [block_setCell h1], fun i j hi hj => ?_⟩
  have hsz : a * 8 + m < cur.size := (Array.getElem?_eq_some_iff.1 (h2 a m ha hm)).1
  rw [List.count_append, Array.getElem?_setIfInBounds]
  by_cases he : i = a ∧ j = m
  · obtain ⟨rfl, rfl⟩ := he
    rw [if_pos rfl, if_pos hsz, List.count_singleton_self]
    rfl
  · rw [if_neg (by intro h; apply he; constructor <;> omega), h2 i j hi hj]
    have : List.count (pk i, j) [(pk a, m)] = 0 := List.count_eq_zero.2 (by
      intro hmem
      rw [List.mem_singleton] at hmem
      injection hmem with hp hj'
      exact he ⟨pk_inj i hi a ha hp, hj'⟩)
    rw [this]; rfl
/-- Where a round stands. -/
structure RnS (w w1 wr : World) (g mb sb : Nat) (S : SS) (pv : Value) (n : Nat) (L : List Ent) : Prop where
  or : OrS w w1 wr g mb S
  row : wr.ownsRow w1.heap.size 9 1 pv ((List.range n).map pk).length (((List.range n).map pk).map tv)
  seen : SeenB wr sb L
  hsb : w1.heap.size ≤ sb
theorem RnS.keep {w w1 wr w' : World} {g mb sb n : Nat} {S S' : SS} {pv : Value} {L : List Ent} (h : RnS w w1 wr g mb sb S pv n L) (hi : IsS w' w.heap.size g mb S') (hk : KeepS g mb wr w') : RnS w w1 w' g mb sb S' pv n L := by
  refine ⟨h.or.keep hi hk, own_keepS h.row hk h.or.hg h.or.hm, ?_, h.hsb⟩
  have h1 := h.or.hg
  have h2 := h.or.hm
  have h3 := h.hsb
  obtain ⟨cur, h4, h5⟩ := h.seen
  exact ⟨cur, (hk.block sb (blk_lt h4) (by omega) (by omega)).trans h4, h5⟩
theorem RnS.below {w w1 wr w' : World} {g mb sb n : Nat} {S : SS} {pv : Value} {L : List Ent} (h : RnS w w1 wr g mb sb S pv n L) (hb : Below wr.heap.size wr w') : RnS w w1 w' g mb sb S pv n L :=
  h.keep (h.or.is.below hb) (KeepS.of_below hb)
theorem RnS.bump {w w1 wr : World} {g mb sb n : Nat} {S : SS} {pv : Value} {L : List Ent} (h : RnS w w1 wr g mb sb S pv n L) {a m : Nat} (ha : a < 10) (hm : m < 8) {b : Nat} {V : List Ent} {lv : Value} (hl : wr.ownsRow b 36 2 lv V.length (V.flatMap visC)) :
    RnS w w1 (wr.setCell ⟨sb, a * 8 + m, none⟩ (.int .i64 ((L.count (pk a, m) : Int) + 1))) g mb sb S pv n (L ++ [(pk a, m)]) ∧ (wr.setCell ⟨sb, a * 8 + m, none⟩ (.int .i64 ((L.count (pk a, m) : Int) + 1))).ownsRow b 36 2 lv V.length (V.flatMap visC) := by
  have h1 := h.or.hg
  have h2 := h.or.hm
  have h3 := h.hsb
  have h4 := h.or.hs
  obtain ⟨cur, hc, _⟩ := h.seen
  have hK := Keeps.setCell (T := fun e => e = 34) (base := w1.heap.size) (a := ⟨sb, a * 8 + m, none⟩) h3 hc rfl (.int .i64 ((L.count (pk a, m) : Int) + 1))
  refine ⟨⟨⟨h.or.is.other (by omega) (by omega) _ _, h.or.low.setCell (p := ⟨sb, a * 8 + m, none⟩) (by show w.heap.size ≤ sb; omega) _, h1, h2, h4, by rw [World.size_setCell]; exact h.or.h1⟩, own_keeps h.row hK (by decide), h.seen.bump ha hm, h3⟩, own_keeps hl hK (by decide)⟩

/-- The least and the most often seen so far. -/
def LHs (f : Nat → Nat) (n : Nat) (L : List Ent) (lo hi : Nat) : Prop :=
  (lo = 1073741824 ∨ ∃ i k, i < n ∧ k < f i ∧ lo = L.count (pk i, k)) ∧ (hi = 0 ∨ ∃ i k, i < n ∧ k < f i ∧ hi = L.count (pk i, k))
theorem LHs.step {f : Nat → Nat} {n lo hi i k : Nat} {L : List Ent} (h : LHs f n L lo hi) (hi' : i < n) (hk : k < f i) : LHs f n L (min lo (L.count (pk i, k))) (max hi (L.count (pk i, k))) := by
  constructor
  · rcases Nat.le_total lo (L.count (pk i, k)) with hl | hl
    · rw [Nat.min_eq_left hl]; exact h.1
    · rw [Nat.min_eq_right hl]; exact .inr ⟨i, k, hi', hk, rfl⟩
  · rcases Nat.le_total hi (L.count (pk i, k)) with hl | hl
    · rw [Nat.max_eq_right hl]; exact .inr ⟨i, k, hi', hk, rfl⟩
    · rw [Nat.max_eq_left hl]; exact h.2
theorem LHs.fin {f : Nat → Nat} {n lo hi i0 R V : Nat} {L : List Ent} (h : LHs f n L lo hi) (hg : Good (rndL f n)) (hL : L = ringN (rndL f n) i0 V) (hV : R * totL (rndL f n) ≤ V) (hR : R ≤ 3) (hb : L.length ≤ 20000) : R ≤ lo ∧ hi ≤ lo + 1 := by
  constructor
  · rcases h.1 with h | ⟨i, k, h1, h2, h3⟩
    · omega
    · rw [h3, hL]
      exact count_low hg (rndL_in h1 h2) hV
  · rcases h.2 with h2 | ⟨i, k, h1, h2, h3⟩
    · omega
    · rcases h.1 with h | ⟨i', k', h1', h2', h3'⟩
      · have := List.count_le_length (a := (pk i, k)) (l := L)
        omega
      · rw [h3, h3', hL]
        exact count_near hg (rndL_in h1 h2) (rndL_in h1' h2')

theorem cv_pk (W : World) {k : Nat} (hk : k < 10) : (convert 28 9 (.slice (some ⟨W.heap.size, 0, none⟩) 1 1)).run Tryd.prog (W.alloc (.cells #[.int .u8 (97 + (k : Int))] 5)) = .ok (.string (str (pk k))) (W.alloc (.cells #[.int .u8 (97 + (k : Int))] 5)) := by
  have h1 : ((UInt8.ofNat (97 + k)).toNat : Int) = 97 + (k : Int) := by
    rw [UInt8.toNat_ofNat']
    omega
  have h : Sl bv 5 (W.alloc (.cells #[.int .u8 (97 + (k : Int))] 5)) 0 (.slice (some ⟨W.heap.size, 0, none⟩) 1 1) (pk k) := Sl.at (heap_new rfl) (by simp only [pk, List.length_singleton, List.map_singleton, bv, h1]; rfl) rfl (Nat.le_refl _) (by decide)
  exact h.string Tryd.underlying28 Tryd.underlying5 Tryd.underlying9

set_option maxRecDepth 10000 in
set_option maxHeartbeats 16000000 in
theorem law_rounds_in {v : Value} {B : List Int} (ah q R : Int) (w : World) (hv : Sl iv 3 w w.heap.size v B) (hB : ∀ n ∈ B, -9223372036854775808 ≤ n ∧ n ≤ 9223372036854775807)
    (hn : ¬ 10 < (B.length : Int)) (ha0 : ¬ ah < 0) (ha1 : ¬ 100 < ah) (hq0 : ¬ q < 1) (hq1 : ¬ 50 < q) (hR0 : ¬ R < 1) (hR1 : ¬ 3 < R) :
    Calls Tryd.prog 3 #[v, .int .i64 ah, .int .i64 q, .int .i64 R] w fun e w' => e = .returned (.bool true) ∧ Below w.heap.size w w' := by
  have HV := Aside0.mk hv
  obtain ⟨A, c, rfl, hc, hm, _⟩ := hv
  have dn : decide (10 < (B.length : Int)) = false := decide_eq_false hn
  have da0 : decide (ah < 0) = false := decide_eq_false ha0
  have da1 : decide (100 < ah) = false := decide_eq_false ha1
  have dq0 : decide (q < 1) = false := decide_eq_false hq0
  have dq1 : decide (50 < q) = false := decide_eq_false hq1
  have dr0 : decide (R < 1) = false := decide_eq_false hR0
  have dr1 : decide (3 < R) = false := decide_eq_false hR1
  obtain ⟨f, hf⟩ : ∃ f : Nat → Nat, ∀ i, rndI (B.getD i 0) 8 = (f i : Int) ∧ f i ≤ 7 := ⟨fun i => (rndI (B.getD i 0) 8).toNat, fun i => by
    have := rndI_bd (B.getD i 0) (y := 8) (by decide)
    show rndI (B.getD i 0) 8 = ((rndI (B.getD i 0) 8).toNat : Int) ∧ (rndI (B.getD i 0) 8).toNat ≤ 7
    constructor <;> omega⟩
  have HF := Aside0.mk hf
  have HBB := Aside0.mk hB
  clear hB hf
  go_enter Tryd.func3, Tryd.ntmps3
  go_wp2_with fail
  refine (snew_calls w).mono ?_
  rintro e w1 ⟨g, mb, rfl, hI, hbl⟩
  have HO := Aside0.mk (show OrS w w1 w1 g mb ⟨rndL f 0, [], 0, false⟩ ∧ w1.ownsRow w1.heap.size 9 1 (.slice none 0 0) (((List.range 0).map pk).map tv).length (((List.range 0).map pk).map tv) from ⟨⟨hI, hbl, blk_lt hI.box, hI.mlt, hbl.size, Nat.le_refl _⟩, World.ownsRow_nil _ _ _ _⟩)
  clear hI hbl
  go_wp2_with fail
  go_loopw [10, 11, 12] (fun pv sv iw wr => ∃ (k : Nat) (Ap : Option Addr) (cp : Nat), k ≤ B.length ∧ pv = .slice Ap k cp ∧ sv = .int .i64 (totL (rndL f k) : Int) ∧ iw = .int .i64 k ∧ Aside0 (OrS w w1 wr g mb ⟨rndL f k, [], 0, false⟩ ∧ wr.ownsRow w1.heap.size 9 1 (.slice Ap k cp) ((List.range k).map pk).length (((List.range k).map pk).map tv))) (fun pv sv iw wr => B.length - (intOf iw).toNat)
  case atStart => exact ⟨0, none, 0, Nat.zero_le _, rfl, rfl, rfl, HO⟩
  case round =>
    obtain ⟨k, Ap, cp, hk, rfl, rfl, rfl, hs⟩ := hrel
    by_cases hlt : k < B.length
    · obtain ⟨ad, rfl, hcell⟩ := int_nth HV.out k hlt
      have hcell := cell_keep hs.out.1.low hcell
      obtain ⟨x, hx⟩ : ∃ x, x = B.getD k 0 := ⟨_, rfl⟩
      have HRC : Aside0 (∀ W, Calls Tryd.prog 9 #[.int .i64 x, .int .i64 8] W fun e w' => e = .returned (.int .i64 (f k : Int)) ∧ w' = W) := ⟨fun W => by
        have h1 := roundI_calls x 8 W (by decide) (by decide) (HBB.out x (by rw [hx, List.getD_eq_getElem?_getD, List.getElem?_eq_getElem hlt]; exact List.getElem_mem hlt))
        rw [hx, (HF.out k).1, ← hx] at h1
        exact h1.mono fun e w' h => ⟨h.1, h.2.symm⟩⟩
      rw [← hx] at hcell
      have z1 : (k : Int) < (B.length : Int) := by omega
      have hfk := (HF.out k).2
      have hk10 : k < 10 := by omega
      have CV : ∀ W : World, (convert 28 9 (.slice (some ⟨W.heap.size, 0, none⟩) 1 1)).run Tryd.prog (W.alloc (.cells #[.int .u8 (97 + (k : Int))] 5)) = .ok (.string (str (pk k))) (W.alloc (.cells #[.int .u8 (97 + (k : Int))] 5)) := fun W => cv_pk W hk10
      clear hx
      go_wp2_with fail
      refine (HRC.out _).mono ?_
      rintro e w' ⟨rfl, rfl⟩
      have HSE : Aside0 (setE (rndL f k) (pk k) (f k) = 0) := ⟨setE_ok (pk_valid k hk10) (by omega) (by omega) (by rw [rndL_len]; omega)⟩
      have HST : Aside0 (∀ (W : World) (e : Ending) (W' : World), OrS w w1 W g mb ⟨rndL f k, [], 0, false⟩ → (e = .returned (.int .i64 (setE (rndL f k) (str (pk k)).data.toList (f k))) ∧ SetQ w.heap.size g mb ⟨rndL f k, [], 0, false⟩ (str (pk k)).data.toList (f k) W W') → e = .returned (.int .i64 0) ∧ OrS w w1 W' g mb ⟨rndL f (k + 1), [], 0, false⟩ ∧ KeepS g mb W W') := ⟨fun W e W' ho h => by
        rw [str_data, HSE.out] at h
        obtain ⟨h1, h2⟩ := h
        unfold SetQ at h2
        rw [if_pos HSE.out, show ((f k : Int)).toNat = f k by omega, rndL_set hk10] at h2
        exact ⟨h1, ho.keep h2.1 h2.2, h2.2⟩⟩
      have hpl : (str (pk k)).size ≤ 1000000000 := by rw [str_size]; show (pk k).length ≤ _; simp [pk]
      obtain ⟨pp, hpp⟩ : ∃ pp, pp = str (pk k) := ⟨_, rfl⟩
      rw [← hpp] at CV HST hpl
      have HPP := Aside0.mk hpp
      clear hpp
      go_wp2_with fail
      refine (sset_calls pp (f k) _ (hs.out.1.below ((Below.refl _ _).alloc (Nat.le_refl _) _)).is hpl (by omega)).mono ?_
      intro e w3 h3
      obtain ⟨rfl, H3, hk3⟩ := HST.out _ e w3 (hs.out.1.below ((Below.refl _ _).alloc (Nat.le_refl _) _)) h3
      have HO3 := Aside0.mk H3
      have HP3 := Aside0.mk (own_keepS (own_below hs.out.2 ((Below.refl _ _).alloc (Nat.le_refl _) _)) hk3 hs.out.1.hg hs.out.1.hm)
      have hs3 := hk3.size
      have HPS : Aside0 (∀ (W : World) (G : Nat), W.heap[G]? = some (.cells #[.string pp] 9 (0, 0)) → SlS W 0 (.slice (some ⟨G, 0, none⟩) 1 1) [pk k]) := ⟨fun W G h => Sl.at h (by rw [HPP.out]; rfl) rfl (Nat.le_refl _) (by decide)⟩
      have HTT : Aside0 (totL (rndL f (k + 1)) = totL (rndL f k) + f k) := ⟨rndL_tot f k⟩
      have HT7 : totL (rndL f k) ≤ 7 * k := rndL_bd (fun i => (HF.out i).2) k
      obtain ⟨ts, hts⟩ : ∃ ts, ts = totL (rndL f k) := ⟨_, rfl⟩
      rw [← hts] at HTT HT7 ⊢
      clear h3 H3 hk3 HST hts
      go_wp2_with (at_builtin
                   go_must (refine append_row tv (fun _ => rfl) rfl (.tmp 77) (.tmp 79) 26 rfl w1.heap.size 9 9 0 (.string ⟨#[]⟩) 16 Tryd.underlying26 info_str rfl (by decide) (.slice Ap k cp) ((List.range k).map pk) [pk k] (.slice (some ⟨w3.heap.size, 0, none⟩) 1 1) rfl rfl (own_below HP3.out ((Below.refl _ _).alloc (Nat.le_refl _) _)) (HPS.out _ _ (heap_new rfl)) (by simp; omega) (by have := HO3.out.h1; simp; omega) ?_)
                   intro v2 w4 hown4 hgr4 _
                   have H4 := Aside0.mk (And.intro ((HO3.out.below ((Below.refl _ _).alloc (Nat.le_refl _) _)).grown (own_below HP3.out ((Below.refl _ _).alloc (Nat.le_refl _) _)) hgr4) hown4)
                   clear hown4 hgr4)
      have e5 : (List.range k).map pk ++ [pk k] = (List.range (k + 1)).map pk := by simp [List.range_succ]
      rw [e5] at H4
      obtain ⟨r4, c4, hv4, _, _⟩ := H4.out.2.form (by simp)
      rw [List.length_map, List.length_range] at hv4
      subst hv4
      go_roundw
      case rel => exact ⟨k + 1, _, _, by omega, rfl, by rw [HTT.out]; go_num, by go_num, H4⟩
      case measure => simp [intOf]; omega
    · obtain rfl : k = B.length := by omega
      have z1 : ¬ ((B.length : Nat) : Int) < (B.length : Int) := by omega
      obtain ⟨T, hT⟩ : ∃ T, T = totL (rndL f B.length) := ⟨_, rfl⟩
      have hT7 : T ≤ 70 := by have := rndL_bd (fun i => (HF.out i).2) B.length; omega
      have HO1 := hs
      clear hs
      rw [← hT]
      have HT := Aside0.mk hT
      clear hT
      go_wp2_with fail
      refine (snext_calls ah _ HO1.out.1.is (by omega)).mono ?_
      rintro e w3 ⟨v3, rfl, _, ⟨A3, n3, c3, rfl⟩, hi3, hk3⟩
      obtain ⟨S, hS⟩ : ∃ S, S = afterN ⟨rndL f B.length, [], 0, false⟩ (nextQ ⟨rndL f B.length, [], 0, false⟩ ah) := ⟨_, rfl⟩
      have HSR : Aside0 (S.l = rndL f B.length ∧ (0 < T → ∃ i, AtR S i)) := ⟨by
        refine ⟨by rw [hS, afterN_l], fun h0 => ?_⟩
        rw [hS]
        exact ⟨_, at_steps (rndL_good (by omega) fun i _ => by have := (HF.out i).2; omega) (by show 0 < totL (rndL f B.length); rw [← HT.out]; exact h0) (atR_new _ _ _) _⟩⟩
      rw [← hS] at hi3
      have H3 := Aside0.mk (HO1.out.1.keep hi3 hk3)
      have HP3 := Aside0.mk (own_keepS HO1.out.2 hk3 HO1.out.1.hg HO1.out.1.hm)
      clear hi3 hk3 hS
      go_wp2_with fail
      obtain ⟨sb, hsb⟩ : ∃ sb, sb = w3.heap.size := ⟨_, rfl⟩
      have hB3 : Below w3.heap.size w3 (w3.alloc (.cells Tryd.zeroCells34 34 (0, 0))) := (Below.refl _ _).alloc (Nat.le_refl _) _
      have HN0 : Aside0 (RnS w w1 (w3.alloc (.cells Tryd.zeroCells34 34 (0, 0))) g mb sb (afterN S 0) (.slice Ap B.length cp) B.length (visN S 0)) := ⟨by
        exact ⟨H3.out.below hB3, own_below HP3.out hB3, ⟨_, heap_new hsb, fun i j hi hj => by rw [seen_zero i hi j hj]; rfl⟩, by rw [hsb]; exact H3.out.h1⟩⟩
      obtain ⟨wz, hwz⟩ : ∃ wz, wz = w3.alloc (.cells Tryd.zeroCells34 34 (0, 0)) := ⟨_, rfl⟩
      rw [← hwz] at HN0 ⊢
      rw [← hsb]
      clear hwz hB3 hsb HP3 H3 HO1
      obtain ⟨qn, hqn⟩ : ∃ qn : Nat, q = (qn : Int) := ⟨q.toNat, by omega⟩
      subst hqn
      have hre := round_enough (T := T) (q := qn) (by omega)
      obtain ⟨rn, hrn⟩ : ∃ rn : Nat, roundN (T : Int) (qn : Int) = (rn : Int) := ⟨(roundN (T : Int) (qn : Int)).toNat, by omega⟩
      obtain ⟨Rn, hRn⟩ : ∃ Rn : Nat, R = (Rn : Int) := ⟨R.toNat, by omega⟩
      subst hRn
      have HRR : Aside0 (∀ W, Calls Tryd.prog 12 #[.int .i64 (T : Int), .int .i64 (qn : Int)] W fun e w' => e = .returned (.int .i64 (rn : Int)) ∧ w' = W) := ⟨fun W => by have h := sround_calls T qn W (by omega) (by omega); rw [hrn] at h; exact h⟩
      rw [hrn] at hre
      have hrt : rn ≤ T := by have := hre.2.2.2; omega
      have HRE := Aside0.mk (show T ≤ rn * min qn T ∧ (T < qn → rn * min qn T = T) from ⟨by have := hre.1; simpa using this, fun h => by have := hre.2.1 h; simpa using this⟩)
      have hK : Rn * rn ≤ 210 := Nat.le_trans (Nat.mul_le_mul (show Rn ≤ 3 by omega) (show rn ≤ 70 by omega)) (by decide)
      obtain ⟨K, hKe⟩ : ∃ K, K = Rn * rn := ⟨_, rfl⟩
      have hKi : (Rn : Int) * (rn : Int) = (K : Int) := by rw [hKe]; simp
      have HKE := Aside0.mk hKe
      rw [← hKe] at hK
      obtain ⟨vq, hvq⟩ : ∃ vq, vq = min qn T := ⟨_, rfl⟩
      have HVQ := Aside0.mk hvq
      have hvm : min (qn : Int) (T : Int) = (vq : Int) := by omega
      have hv50 : vq ≤ 50 := by omega
      have HQN : Aside0 (∀ u, nextQ (afterN S u) (qn : Int) = vq) := ⟨fun u => by
        unfold nextQ
        rw [afterN_l, HSR.out.1, ← HT.out]; omega⟩
      have HGS : Aside0 (Good S.l ∧ totL S.l = T) := ⟨by rw [HSR.out.1]; exact ⟨rndL_good (by omega) fun i _ => by have := (HF.out i).2; omega, HT.out.symm⟩⟩
      clear hre hrn hKe
      go_loopw [16] (fun uw wr => ∃ u : Nat, u ≤ K ∧ uw = .int .i64 u ∧ Aside0 (RnS w w1 wr g mb sb (afterN S (u * vq)) (.slice Ap B.length cp) B.length (visN S (u * vq)))) (fun uw wr => K - (intOf uw).toNat)
      case atStart => exact ⟨0, Nat.zero_le _, rfl, ⟨by rw [Nat.zero_mul]; exact HN0.out⟩⟩
      case round =>
        obtain ⟨u, hu, rfl, hs⟩ := hrel
        by_cases hlt2 : u < K
        · have z2 : (u : Int) < (K : Int) := by omega
          have hT0 : 0 < T := by
            rcases Nat.eq_zero_or_pos T with h | h
            · have h1 : rn = 0 := by omega
              have := HKE.out
              rw [h1, Nat.mul_zero] at this
              omega
            · exact h
          go_wp2_with fail
          refine (HRR.out _).mono ?_
          rintro e w' ⟨rfl, rfl⟩
          go_wp2_with fail
          have h1 := (snext_calls (qn : Int) w' hs.out.or.is (by omega))
          rw [HQN.out] at h1
          refine h1.mono ?_
          clear h1
          rintro e w4 ⟨v4, rfl, ho4, _, hi4, hk4⟩
          have hv0 : 0 < vq := by omega
          obtain ⟨r4, c4, rfl, hr4, hr4l⟩ := ho4.form (by rw [visN_len]; exact hv0)
          rw [visN_len]
          rw [afterN_add] at hi4
          have H4 := Aside0.mk (hs.out.keep hi4 hk4)
          have HL4 := Aside0.mk (show w4.ownsRow w1.heap.size 36 2 (.slice (some ⟨r4, 0, none⟩) vq c4) (visN (afterN S (u * vq)) vq).length ((visN (afterN S (u * vq)) vq).flatMap visC) from by
            have h := own_mono ho4 hs.out.or.h1
            rw [visN_len] at h ⊢
            exact h)
          clear hi4 hk4 ho4
          go_wp2_with fail
          have HL0 : Aside0 (RnS w w1 w4 g mb sb (afterN S (u * vq + vq)) (.slice Ap B.length cp) B.length (visN S (u * vq + 0))) := H4
          go_loopw [18] (fun xw wx => ∃ i : Nat, i ≤ vq ∧ xw = .int .i64 i ∧ Aside0 (RnS w w1 wx g mb sb (afterN S (u * vq + vq)) (.slice Ap B.length cp) B.length (visN S (u * vq + i)) ∧ wx.ownsRow w1.heap.size 36 2 (.slice (some ⟨r4, 0, none⟩) vq c4) (visN (afterN S (u * vq)) vq).length ((visN (afterN S (u * vq)) vq).flatMap visC))) (fun xw wx => vq - (intOf xw).toNat)
          case atStart => exact ⟨0, Nat.zero_le _, rfl, ⟨HL0.out, HL4.out⟩⟩
          case round =>
            obtain ⟨i, hi, rfl, hs⟩ := hrel
            by_cases hlt3 : i < vq
            · have hil : i < (visN (afterN S (u * vq)) vq).length := by rw [visN_len]; exact hlt3
              obtain ⟨x, hx⟩ : ∃ x, x = nextV (afterN S (u * vq + i)) := ⟨_, rfl⟩
              have hxi : (visN (afterN S (u * vq)) vq)[i]'hil = x := by
                rw [hx]
                simp [visN, afterN_add]
              have hxm : x ∈ flatL (rndL f B.length) := by
                obtain ⟨i0, hat⟩ := HSR.out.2 hT0
                have hg := HGS.out
                have h2 := at_steps hg.1 (by rw [hg.2]; exact hT0) hat (u * vq + i)
                have h3 := at_next (by rw [afterN_l]; exact hg.1) (by rw [afterN_l, hg.2]; exact hT0) h2
                rw [← hx, afterN_l, HSR.out.1] at h3
                exact List.mem_of_getElem? h3
              obtain ⟨a, ha, hxa, hm⟩ := rndL_mem hxm
              obtain ⟨m, hme⟩ : ∃ m, m = x.2 := ⟨_, rfl⟩
              rw [← hme] at hxa hm
              have HXA := Aside0.mk (show nextV (afterN S (u * vq + i)) = (pk a, m) from by rw [← hx, hxa])
              obtain ⟨l0, l1⟩ := vis_cells hs.out.2 i hil
              rw [hxi, hxa] at l0 l1
              simp only at l0 l1
              have hf7 := (HF.out a).2
              have hr4w : r4 < wr.heap.size := (hs.out.2.lt r4 rfl).2
              obtain ⟨pa, hpa⟩ : ∃ pa, pa = str (pk a) := ⟨_, rfl⟩
              have HPA := Aside0.mk hpa
              rw [← hpa] at l0
              have ha10 : a < 10 := by omega
              have hm8 : m < 8 := by omega
              clear hxi hx hxm hxa hme hpa
              obtain ⟨rp, cp2, hvp, _, _⟩ := hs.out.1.row.form (by simp; omega)
              obtain rfl : Ap = some ⟨rp, 0, none⟩ := by injection hvp
              obtain ⟨ad, rfl, hcellB⟩ := int_nth HV.out a ha
              have hcellB := cell_keep hs.out.1.or.low hcellB
              obtain ⟨y, hy⟩ : ∃ y, y = B.getD a 0 := ⟨_, rfl⟩
              have HRC : Aside0 (∀ W, Calls Tryd.prog 9 #[.int .i64 y, .int .i64 8] W fun e w' => e = .returned (.int .i64 (f a : Int)) ∧ w' = W) := ⟨fun W => by
                have h1 := roundI_calls y 8 W (by decide) (by decide) (HBB.out y (by rw [hy, List.getD_eq_getElem?_getD, List.getElem?_eq_getElem ha]; exact List.getElem_mem ha))
                rw [hy, (HF.out a).1, ← hy] at h1
                exact h1.mono fun e w' h => ⟨h.1, h.2.symm⟩⟩
              rw [← hy] at hcellB
              clear hvp hy
              have z3 : (i : Int) < (vq : Int) := by omega
              go_wp2_with fail
              have HW0 := Aside0.mk (Below.refl wr.heap.size wr)
              obtain ⟨w0, hw0⟩ : ∃ w0, w0 = wr := ⟨_, rfl⟩
              rw [← hw0] at hs l0 l1 hr4w hcellB
              have HW1 : Aside0 (Below w0.heap.size w0 wr) := ⟨by rw [hw0]; exact HW0.out⟩
              clear hw0 HW0
              go_loopw [19, 20] (fun aw tw wx => ∃ t : Nat, t ≤ B.length ∧ tw = .int .i64 t ∧ aw = .int .i64 (if a < t then (a : Int) else -1) ∧ Aside0 (Below w0.heap.size w0 wx)) (fun aw tw wx => B.length - (intOf tw).toNat)
              case atStart => exact ⟨0, Nat.zero_le _, rfl, by rw [if_neg (Nat.not_lt_zero _)], HW1⟩
              case round =>
                obtain ⟨t, ht, rfl, rfl, hsx⟩ := hrel
                have l0' := cell_keep hsx.out l0
                have l1' := cell_keep hsx.out l1
                have hrx : r4 < wr.heap.size := Nat.lt_of_lt_of_le hr4w hsx.out.size
                by_cases hlt4 : t < B.length
                · obtain ⟨ap, cap, hap, hcp⟩ := SlS.at (Sl.of_own (b := 0) hs.out.1.row) t (by simpa using hlt4)
                  obtain rfl : ap = ⟨rp, 0, none⟩ := by injection hap with h; injection h with h; exact h.symm
                  have hcp := cell_keep hsx.out hcp
                  rw [show ((List.range B.length).map pk).getD t [] = pk t from by rw [List.getD_eq_getElem?_getD, List.getElem?_map, List.getElem?_range hlt4]; rfl] at hcp
                  have hrp : rp < wr.heap.size := Nat.lt_of_lt_of_le (hs.out.1.row.lt rp rfl).2 hsx.out.size
                  obtain ⟨pt, hpt⟩ : ∃ pt, pt = str (pk t) := ⟨_, rfl⟩
                  rw [← hpt, adr0] at hcp
                  obtain ⟨av, hav⟩ : ∃ av : Int, av = if a < t then (a : Int) else -1 := ⟨_, rfl⟩
                  rw [← hav]
                  have HAV := Aside0.mk hav
                  have z4 : (t : Int) < (B.length : Int) := by omega
                  have HDR : Aside0 (∀ n, Below w0.heap.size w0 (wr.drewN n)) := ⟨fun n => below_drewN hsx.out n⟩
                  clear hav hap
                  by_cases hta : t = a
                  · have hd : (pt.toList == pa.toList) = true := by rw [hpt, HPA.out, hta, beq_self_eq_true]
                    have HTA := Aside0.mk hta
                    clear hpt hta
                    go_wp2_with fail
                    go_quiet (fail)
                    go_wp2_with fail
                    go_roundw
                    case rel => exact ⟨t + 1, by omega, by go_num, by rw [HTA.out, if_pos (by omega)], ⟨HDR.out _⟩⟩
                    case measure => simp [intOf]; omega
                  · have hd : (pt.toList == pa.toList) = false := by
                      rw [hpt, HPA.out, beq_eq_false_iff_ne, str_toList, str_toList]
                      exact fun h => hta (pk_inj t (by omega) a ha10 h)
                    clear hpt
                    have HAV2 : Aside0 (Value.int .i64 av = .int .i64 (if a < t + 1 then (a : Int) else -1)) := ⟨by
                      rw [HAV.out]
                      by_cases h : a < t
                      · rw [if_pos h, if_pos (by omega)]
                      · rw [if_neg h, if_neg (by omega)]⟩
                    go_wp2_with fail
                    go_quiet (fail)
                    go_wp2_with fail
                    go_roundw
                    case rel => exact ⟨t + 1, by omega, by go_num, HAV2.out, ⟨HDR.out _⟩⟩
                    case measure => simp [intOf]; omega
                · obtain rfl : t = B.length := by omega
                  rw [if_pos ha]
                  have z4 : ¬ ((B.length : Nat) : Int) < (B.length : Int) := by omega
                  have hcx := cell_keep hsx.out hcellB
                  have e0 : decide ((a : Int) < 0) = false := decide_eq_false (by omega)
                  have e1 : decide ((m : Int) < 0) = false := decide_eq_false (by omega)
                  have e2 : decide ((f a : Int) ≤ (m : Int)) = false := decide_eq_false (by omega)
                  have z5 : (a : Int) < (B.length : Int) := by omega
                  go_wp2_with fail
                  go_quiet (first | (go_at_call_of 9 (Value.int .i64 y); exact Calls.quiet_of_same (HRC.out _)))
                  go_wp2_with fail
                  obtain ⟨w5, hw5⟩ : ∃ w5, w5 = wr.drewN nq := ⟨_, rfl⟩
                  rw [← hw5]
                  have hb5 : Below w0.heap.size w0 w5 := by rw [hw5]; exact below_drewN hsx.out nq
                  have l6 := cell_keep hb5 l1
                  have hr6 : r4 < w5.heap.size := Nat.lt_of_lt_of_le hr4w hb5.size
                  have HR5 := Aside0.mk (hs.out.1.below hb5)
                  have HL5 := Aside0.mk (own_below hs.out.2 hb5)
                  obtain ⟨cn, hcn⟩ : ∃ cn, cn = (visN S (u * vq + i)).count (pk a, m) := ⟨_, rfl⟩
                  have hcb : cn ≤ 20000 := by
                    rw [hcn]
                    refine Nat.le_trans List.count_le_length ?_
                    rw [visN_len]
                    have : u * vq ≤ 210 * 50 := Nat.mul_le_mul (by omega) hv50
                    omega
                  have s5 : w5.cell? ⟨sb, a * 8 + m, none⟩ = some (.int .i64 (cn : Int)) := by
                    obtain ⟨cur, h1, h2⟩ := HR5.out.seen
                    rw [(blk h1).1, h2 a m ha10 hm8, hcn]
                  have f5 : w5.frozen? ⟨sb, a * 8 + m, none⟩ = false := by
                    obtain ⟨cur, h1, h2⟩ := HR5.out.seen
                    exact (blk h1).2 _
                  have hsl : sb < w5.heap.size := HR5.out.seen.lt
                  have k10 : (a : Int) < 10 := by omega
                  have k8 : (m : Int) < 8 := by omega
                  have HCN := Aside0.mk hcn
                  clear hcn hw5 hb5 hcx e0 e1 e2 l0' l1' hrx
                  go_wp2_with fail
                  refine wp_region_still_tail 12 (by kernel_rfl) (by kernel_rfl) ?_
                  simp only [List.take_succ_cons, List.take_zero, List.drop_succ_cons, List.drop_zero]
                  refine still_of_quiet _ _ ?_
                  change wpQuiet _ _ (fun w' => w' = w5.drew) _ _ _
                  repeat (quiet_step (fail))
                  refine wpQuiet_nil ?_
                  change wpList _ _ _ _ _ w5.drew
                  go_wp2_with fail
                  have hbp := HR5.out.bump ha10 hm8 HL5.out
                  rw [← HCN.out, ← HXA.out, ← visN_succ] at hbp
                  have HBP := Aside0.mk hbp
                  clear hbp
                  go_roundw
                  case rel => exact ⟨i + 1, by omega, by go_num, ⟨HBP.out.1.below (Below.refl _ _).drew, own_below HBP.out.2 (Below.refl _ _).drew⟩⟩
                  case measure => simp [intOf]; omega
            · obtain rfl : i = vq := by omega
              have z3 : ¬ ((i : Nat) : Int) < (i : Int) := by omega
              go_wp2_with fail
              go_roundw
              case rel => exact ⟨u + 1, by omega, by go_num, ⟨by rw [Nat.add_mul, Nat.one_mul]; exact hs.out.1⟩⟩
              case measure => simp [intOf]; omega
        · obtain rfl : u = K := by omega
          have z2 : ¬ ((u : Nat) : Int) < (u : Int) := by omega
          go_wp2_with fail
          refine (HRR.out _).mono ?_
          rintro e w' ⟨rfl, rfl⟩
          go_wp2_with fail
          obtain ⟨L, hL⟩ : ∃ L, L = visN S (u * vq) := ⟨_, rfl⟩
          have HLL := Aside0.mk hL
          have HRS : Aside0 (RnS w w1 w' g mb sb (afterN S (u * vq)) (.slice Ap B.length cp) B.length L) := ⟨by rw [hL]; exact hs.out⟩
          have hLl : L.length ≤ 20000 := by
            rw [hL, visN_len]
            exact Nat.le_trans (Nat.mul_le_mul hK hv50) (by decide)
          clear hs hL
          go_loopw [21, 22, 23] (fun lw hw iw wx => ∃ (lo hi i : Nat), i ≤ B.length ∧ lw = .int .i64 lo ∧ hw = .int .i64 hi ∧ iw = .int .i64 i ∧ lo ≤ 1073741824 ∧ hi ≤ 1073741824 ∧ Aside0 (LHs f B.length L lo hi ∧ RnS w w1 wx g mb sb (afterN S (u * vq)) (.slice Ap B.length cp) B.length L)) (fun lw hw iw wx => B.length - (intOf iw).toNat)
          case atStart => exact ⟨1073741824, 0, 0, Nat.zero_le _, rfl, rfl, rfl, Nat.le_refl _, by decide, ⟨⟨.inl rfl, .inl rfl⟩, HRS.out⟩⟩
          case round =>
            obtain ⟨lo, hi, i, hil, rfl, rfl, rfl, hlo, hhi, hs⟩ := hrel
            by_cases hlt5 : i < B.length
            · have z6 : (i : Int) < (B.length : Int) := by omega
              have hi10 : i < 10 := by omega
              have k10 : (i : Int) < 10 := by omega
              obtain ⟨ad, rfl, hcellB⟩ := int_nth HV.out i hlt5
              obtain ⟨y, hy⟩ : ∃ y, y = B.getD i 0 := ⟨_, rfl⟩
              have HRC : Aside0 (∀ W, Calls Tryd.prog 9 #[.int .i64 y, .int .i64 8] W fun e w' => e = .returned (.int .i64 (f i : Int)) ∧ w' = W) := ⟨fun W => by
                have h1 := roundI_calls y 8 W (by decide) (by decide) (HBB.out y (by rw [hy, List.getD_eq_getElem?_getD, List.getElem?_eq_getElem hlt5]; exact List.getElem_mem hlt5))
                rw [hy, (HF.out i).1, ← hy] at h1
                exact h1.mono fun e w' h => ⟨h.1, h.2.symm⟩⟩
              rw [← hy] at hcellB
              have hf7 := (HF.out i).2
              clear hy
              go_wp2_with fail
              go_loopw [21, 22, 24] (fun lw hw kw wx => ∃ (lo hi k : Nat), k ≤ f i ∧ lw = .int .i64 lo ∧ hw = .int .i64 hi ∧ kw = .int .i64 k ∧ lo ≤ 1073741824 ∧ hi ≤ 1073741824 ∧ Aside0 (LHs f B.length L lo hi ∧ RnS w w1 wx g mb sb (afterN S (u * vq)) (.slice Ap B.length cp) B.length L)) (fun lw hw kw wx => f i - (intOf kw).toNat)
              case atStart => exact ⟨lo, hi, 0, Nat.zero_le _, rfl, rfl, rfl, hlo, hhi, hs⟩
              case round =>
                clear hs hlo hhi
                obtain ⟨lo, hi, k, hkl, rfl, rfl, rfl, hlo, hhi, hs⟩ := hrel
                have hcx := cell_keep hs.out.2.or.low hcellB
                by_cases hlt6 : k < f i
                · have z7 : (k : Int) < (f i : Int) := by omega
                  have hk8 : k < 8 := by omega
                  have k8 : (k : Int) < 8 := by omega
                  obtain ⟨cn, hcn⟩ : ∃ cn, cn = L.count (pk i, k) := ⟨_, rfl⟩
                  have hcb : cn ≤ 20000 := by rw [hcn]; exact Nat.le_trans List.count_le_length hLl
                  have s5 : wr.cell? ⟨sb, i * 8 + k, none⟩ = some (.int .i64 (cn : Int)) := by
                    obtain ⟨cur, h1, h2⟩ := hs.out.2.seen
                    rw [(blk h1).1, h2 i k hi10 hk8, hcn]
                  have hsl : sb < wr.heap.size := hs.out.2.seen.lt
                  obtain ⟨lo', hlo'⟩ : ∃ lo', lo' = min lo cn := ⟨_, rfl⟩
                  obtain ⟨hi', hhi'⟩ : ∃ hi', hi' = max hi cn := ⟨_, rfl⟩
                  have m1 : min (lo : Int) (cn : Int) = (lo' : Int) := by omega
                  have m2 : max (hi : Int) (cn : Int) = (hi' : Int) := by omega
                  have HNX : Aside0 (LHs f B.length L lo' hi') := ⟨by rw [hlo', hhi', hcn]; exact hs.out.1.step hlt5 hlt6⟩
                  have b1 : lo' ≤ 1073741824 := by omega
                  have b2 : hi' ≤ 1073741824 := by omega
                  clear hcn hlo' hhi'
                  go_wp2_with fail
                  refine (HRC.out _).mono ?_
                  rintro e w' ⟨rfl, rfl⟩
                  go_wp2_with fail
                  go_roundw
                  case rel => exact ⟨lo', hi', k + 1, by omega, rfl, rfl, by go_num, b1, b2, ⟨HNX.out, hs.out.2⟩⟩
                  case measure => simp [intOf]; omega
                · obtain rfl : k = f i := by omega
                  have z7 : ¬ ((f i : Nat) : Int) < (f i : Int) := by omega
                  go_wp2_with fail
                  refine (HRC.out _).mono ?_
                  rintro e w' ⟨rfl, rfl⟩
                  go_wp2_with fail
                  go_roundw
                  case rel => exact ⟨lo, hi, i + 1, by omega, rfl, rfl, by go_num, hlo, hhi, hs⟩
                  case measure => simp [intOf]; omega
            · obtain rfl : i = B.length := by omega
              have z6 : ¬ ((B.length : Nat) : Int) < (B.length : Int) := by omega
              have HFI : Aside0 (0 < T → Rn ≤ lo ∧ (qn ≤ T → hi ≤ lo + 1)) := ⟨fun h0 => by
                obtain ⟨i0, hat⟩ := HSR.out.2 h0
                have hv := vis_ring HGS.out.1 (by rw [HGS.out.2]; exact h0) hat (u * vq)
                rw [← HLL.out, HSR.out.1] at hv
                have hg : Good (rndL f B.length) := by rw [← HSR.out.1]; exact HGS.out.1
                have hV : Rn * totL (rndL f B.length) ≤ u * vq := by
                  rw [← HT.out, HKE.out, HVQ.out, Nat.mul_assoc]
                  exact Nat.mul_le_mul_left _ HRE.out.1
                have h := hs.out.1.fin hg hv hV (by omega) hLl
                exact ⟨h.1, fun _ => h.2⟩⟩
              have HX := Aside0.mk (fun W => awake13_calls W)
              have HRF := Aside0.mk hs.out.2
              clear hs
              rcases Nat.eq_zero_or_pos T with h0 | h0
              · have c1 : ((T : Int) == 0) = true := by rw [h0]; rfl
                clear h0
                go_wp2_with fail
                refine (HX.out _).mono ?_
                rintro e w9 ⟨rfl, hb9⟩
                have H9 := Aside0.mk (HRF.out.or.below hb9)
                clear hb9
                go_wp2_with fail
                go_ret
                exact ⟨rfl, H9.out.low⟩
              · have c1 : ((T : Int) == 0) = false := by rw [beq_eq_false_iff_ne]; omega
                have c2 : decide ((Rn : Int) ≤ (lo : Int)) = true := decide_eq_true (by have := (HFI.out h0).1; omega)
                have n2 : Rn ≤ lo := (HFI.out h0).1
                have n4 : hi ≤ lo + 1 ∨ T < qn := by
                  by_cases hx : T < qn
                  · exact .inr hx
                  · exact .inl ((HFI.out h0).2 (by omega))
                have HEN : Aside0 ((decide (T < qn) || decide ((hi : Int) ≤ (lo : Int) + 1)) = true) := ⟨by
                  rcases n4 with h | h
                  · rw [decide_eq_true (show (hi : Int) ≤ (lo : Int) + 1 by omega), Bool.or_true]
                  · rw [decide_eq_true h, Bool.true_or]⟩
                by_cases hqT : T < qn
                · have c3 : decide ((T : Int) < (qn : Int)) = true := decide_eq_true (by omega)
                  clear h0 n4
                  go_wp2_with fail
                  refine (HX.out _).mono ?_
                  rintro e w9 ⟨rfl, hb9⟩
                  have H9 := Aside0.mk (HRF.out.or.below hb9)
                  clear hb9
                  go_wp2_with fail
                  go_ret
                  first | exact ⟨rfl, H9.out.low⟩ | exact ⟨ret_b HEN.out, H9.out.low⟩
                · have c3 : decide ((T : Int) < (qn : Int)) = false := decide_eq_false (by omega)
                  have n5 : qn ≤ T := by omega
                  have n6 : hi ≤ lo + 1 := by omega
                  have c4 : decide ((hi : Int) ≤ (lo : Int) + 1) = true := decide_eq_true (by omega)
                  clear h0 hqT n4
                  go_wp2_with fail
                  refine (HX.out _).mono ?_
                  rintro e w9 ⟨rfl, hb9⟩
                  have H9 := Aside0.mk (HRF.out.or.below hb9)
                  clear hb9
                  go_wp2_with fail
                  go_ret
                  first | exact ⟨rfl, H9.out.low⟩ | exact ⟨ret_b HEN.out, H9.out.low⟩

set_option maxRecDepth 10000 in
set_option maxHeartbeats 8000000 in
theorem law_rounds_calls {v : Value} {B : List Int} (ah q R : Int) (w : World) (hv : Sl iv 3 w w.heap.size v B) (hB : ∀ n ∈ B, -9223372036854775808 ≤ n ∧ n ≤ 9223372036854775807) :
    Calls Tryd.prog 3 #[v, .int .i64 ah, .int .i64 q, .int .i64 R] w fun e w' => e = .returned (.bool true) ∧ Below w.heap.size w w' := by
  have hlen := hv
  obtain ⟨A, c, rfl, hc, hm, _⟩ := hlen
  by_cases h0 : 10 < (B.length : Int)
  · have d0 : decide (10 < (B.length : Int)) = true := decide_eq_true h0
    go_enter Tryd.func3, Tryd.ntmps3
    go_wp2_with fail
    refine (awake13_calls _).mono ?_
    rintro e w2 ⟨rfl, hb2⟩
    go_wp2_with fail
    go_ret
    exact ⟨rfl, hb2⟩
  · have d0 : decide (10 < (B.length : Int)) = false := decide_eq_false h0
    by_cases h1 : ah < 0
    · have d1 : decide (ah < 0) = true := decide_eq_true h1
      go_enter Tryd.func3, Tryd.ntmps3
      go_wp2_with fail
      refine (awake13_calls _).mono ?_
      rintro e w2 ⟨rfl, hb2⟩
      go_wp2_with fail
      go_ret
      exact ⟨rfl, hb2⟩
    · have d1 : decide (ah < 0) = false := decide_eq_false h1
      by_cases h2 : 100 < ah
      · have d2 : decide (100 < ah) = true := decide_eq_true h2
        go_enter Tryd.func3, Tryd.ntmps3
        go_wp2_with fail
        refine (awake13_calls _).mono ?_
        rintro e w2 ⟨rfl, hb2⟩
        go_wp2_with fail
        go_ret
        exact ⟨rfl, hb2⟩
      · have d2 : decide (100 < ah) = false := decide_eq_false h2
        by_cases h3 : q < 1
        · have d3 : decide (q < 1) = true := decide_eq_true h3
          go_enter Tryd.func3, Tryd.ntmps3
          go_wp2_with fail
          refine (awake13_calls _).mono ?_
          rintro e w2 ⟨rfl, hb2⟩
          go_wp2_with fail
          go_ret
          exact ⟨rfl, hb2⟩
        · have d3 : decide (q < 1) = false := decide_eq_false h3
          by_cases h4 : 50 < q
          · have d4 : decide (50 < q) = true := decide_eq_true h4
            go_enter Tryd.func3, Tryd.ntmps3
            go_wp2_with fail
            refine (awake13_calls _).mono ?_
            rintro e w2 ⟨rfl, hb2⟩
            go_wp2_with fail
            go_ret
            exact ⟨rfl, hb2⟩
          · have d4 : decide (50 < q) = false := decide_eq_false h4
            by_cases h5 : R < 1
            · have d5 : decide (R < 1) = true := decide_eq_true h5
              go_enter Tryd.func3, Tryd.ntmps3
              go_wp2_with fail
              refine (awake13_calls _).mono ?_
              rintro e w2 ⟨rfl, hb2⟩
              go_wp2_with fail
              go_ret
              exact ⟨rfl, hb2⟩
            · have d5 : decide (R < 1) = false := decide_eq_false h5
              by_cases h6 : 3 < R
              · have d6 : decide (3 < R) = true := decide_eq_true h6
                go_enter Tryd.func3, Tryd.ntmps3
                go_wp2_with fail
                refine (awake13_calls _).mono ?_
                rintro e w2 ⟨rfl, hb2⟩
                go_wp2_with fail
                go_ret
                exact ⟨rfl, hb2⟩
              · have d6 : decide (3 < R) = false := decide_eq_false h6
                exact law_rounds_in ah q R w hv hB (by omega) (by omega) (by omega) (by omega) (by omega) (by omega) (by omega)
end Go.Proofs.YtoigmepkhiknbaaDoor
