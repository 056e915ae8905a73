/-
  The next visit. No condition but lengths.
-/
import Derived.Test.YtoigmepkhiknbaaDoorSchBeh
import Derived.Laws.ResultCell
import Derived.Lib.SmallJoins
namespace Go.Proofs.YtoigmepkhiknbaaDoor
open Go.RowKit Go.Maps Go.Joins
set_option linter.unusedVariables false
set_option linter.unusedSimpArgs false

theorem IsS.other {w : World} {base g mb F : Nat} {S : SS} (h : IsS w base g mb S) (h1 : g ≠ F) (h2 : mb ≠ F) (o : Nat) (v : Value) : IsS (w.setCell ⟨F, o, none⟩ v) base g mb S := by
  refine ⟨h.hg, h.hm, heap_set h1 h.box, ?_, h.good, h.few, h.lpv, h.lbv⟩
  obtain ⟨D, ⟨es, clock, hh, hr⟩, hM⟩ := h.map
  exact ⟨D, ⟨es, clock, heap_set h2 hh, hr⟩, hM⟩
theorem IsS.mlt {w : World} {base g mb : Nat} {S : SS} (h : IsS w base g mb S) : mb < w.heap.size := by
  obtain ⟨D, hown, _⟩ := h.map
  exact hown.lt
theorem one_ret {wz : World} {F : Nat} {x : ByteArray} {fr : Int} {b : Bool} (h : wz.heap[F]? = some (.cells #[.string x, .int .i64 fr] 36 (0, 0))) (T : Array Value) (h4 : T.getD 4 undef = .pointer (some ⟨F, 0, none⟩)) (h5 : T.getD 5 undef = .bool b) :
    (results Tryd.f26 T).run Tryd.prog wz = .ok (.tuple #[.agg #[.string x, .int .i64 fr], .bool b]) wz := by
  have hc := (blk h).1
  rw [results_cell_tmp rfl, h4, h5]
  simp [asAddr, Result.andThen, loadVar, go_sem, hc]
def fst0 (f : Option Ent) : Ent := f.getD ([], 0)
/-- Where the loop over the paths stands. -/
def OneS (S : SS) (w wr : World) (F k : Nat) (f : Option Ent) (fp : ByteArray) (fb : Nat) : Prop :=
  goO S S.l none = goO S (S.l.drop k) f ∧ fp = str (fst0 f).1 ∧ fb = (fst0 f).2 ∧ wr.heap[F]? = some (.cells #[.string fp, .int .i64 (fb : Int)] 36 (0, 0)) ∧ Below w.heap.size w wr ∧ fb ≤ 1000000
theorem goO_zero (S : SS) {p : List UInt8} {n : Nat} {r : List Ent} (f : Option Ent) (h : n = 0) : goO S ((p, n) :: r) f = goO S r f := by rw [goO, if_pos h]
theorem goO_no (S : SS) {p : List UInt8} {n : Nat} {r : List Ent} (f : Option Ent) (h : n ≠ 0) (h2 : (decide (fromN S p < n) && behB S p (fromN S p)) = false) : goO S ((p, n) :: r) f = goO S r (some (f.getD (p, 0))) := by
  rw [goO, if_neg h, h2, if_neg (by decide)]
theorem goO_yes (S : SS) {p : List UInt8} {n : Nat} {r : List Ent} (f : Option Ent) (h : n ≠ 0) (h2 : (decide (fromN S p < n) && behB S p (fromN S p)) = true) : goO S ((p, n) :: r) f = some (p, fromN S p) := by
  rw [goO, if_neg h, if_pos h2]
/-- What one answers. -/
def OneA (S : SS) (w : World) (e : Ending) (w' : World) : Prop :=
  e = .returned (.tuple #[.agg #[.string (str (fst0 (goO S S.l none)).1), .int .i64 ((fst0 (goO S S.l none)).2 : Int)], .bool (goO S S.l none).isSome]) ∧ Below w.heap.size w w'

set_option maxRecDepth 10000 in
set_option maxHeartbeats 16000000 in
theorem one_calls {base g mb b0 : Nat} {S : SS} {v : Value} (w : World) (h : IsS w base g mb S) (hv : SlS w b0 v (keysL S.l)) :
    Calls Tryd.prog 26 #[.pointer (some ⟨g, 0, none⟩), v] w fun e w' => OneA S w e w' := by
  have H := Aside0.mk h
  have HV := Aside0.mk hv
  have hgl := blk_lt h.box
  have HML := Aside0.mk h.mlt
  obtain ⟨A, c, rfl, hc, hm, _⟩ := hv
  have hkl : (keysL S.l).length = S.l.length := List.length_map _
  rw [hkl] at HV hc hm ⊢
  have HB0 := Aside0.mk ((Below.refl w.heap.size w).alloc (Nat.le_refl _) (.cells #[.string ⟨#[]⟩, .int .i64 0] 36 (0, 0)))
  clear h
  go_enter Tryd.func26, Tryd.ntmps26
  go_wp2_with fail
  go_step3
  go_wp2_with fail
  go_step3
  go_wp2_with fail
  go_loopw [5, 13] (fun ok i wr => ∃ (k : Nat) (f : Option Ent) (fp : ByteArray) (fb : Nat), k ≤ S.l.length ∧ i = .int .i64 k ∧ ok = .bool f.isSome ∧ Aside0 (OneS S w wr w.heap.size k f fp fb)) (fun ok i wr => S.l.length - (intOf i).toNat)
  case atStart => exact ⟨0, none, _, _, Nat.zero_le _, rfl, rfl, ⟨rfl, rfl, rfl, heap_new rfl, HB0.out, by decide⟩⟩
  case round =>
    obtain ⟨k, f, fp, fb, hk, rfl, rfl, hs⟩ := hrel
    by_cases hlt : k < S.l.length
    · have HB := Aside0.mk hs.out.2.2.2.2.1
      have HBOX := Aside0.mk hs.out.2.2.2.1
      have HG0 := Aside0.mk hs.out.1
      have HFP := Aside0.mk (And.intro hs.out.2.1 hs.out.2.2.1)
      have hfb := hs.out.2.2.2.2.2
      clear hs
      obtain ⟨ad1, d1, he1, hcell1⟩ := HV.out.at k (by rw [hkl]; exact hlt)
      have hA : A = some ad1 := by injection he1
      subst hA
      clear he1
      have hcell1 := cell_keep HB.out hcell1
      have hen : S.l.drop k = S.l[k] :: S.l.drop (k + 1) := List.drop_eq_getElem_cons hlt
      obtain ⟨⟨p, n⟩, hpn⟩ : ∃ x : Ent, x = S.l[k] := ⟨_, rfl⟩
      have hmem : (p, n) ∈ S.l := by rw [hpn]; exact List.getElem_mem hlt
      rw [← hpn] at hen
      have hkp : (keysL S.l).getD k [] = p := by
        unfold keysL
        rw [List.getD_eq_getElem?_getD, List.getElem?_map, List.getElem?_eq_getElem hlt, ← hpn]; rfl
      rw [hkp] at hcell1
      rw [hen] at HG0
      have hvp := H.out.good.paths _ hmem
      have hsm := H.out.good.small _ hmem
      have hgn := getL_mem H.out.good hmem
      have hvl := valid_len hvp
      have HI := Aside0.mk (H.out.below HB.out)
      obtain ⟨D, hown, hM⟩ := HI.out.map
      have HOWN := Aside0.mk hown
      obtain ⟨x, hx⟩ : ∃ x, x = str p := ⟨_, rfl⟩
      have hxd : x.data.toList = p := by rw [hx, str_data]
      have hxs : x.size ≤ 60 := by rw [← len_data, hxd]; exact hvl
      have HXD := Aside0.mk hxd
      rw [← hx] at hcell1
      have hkey := key_str x (by simp only [maxLen]; omega)
      have HAT : Aside0 (∀ c2 : Int, D.atKey (.string x.data.toList) (.lit (.int .i64 0)) = .lit (.int .i64 c2) → c2 = (n : Int)) := ⟨fun c2 h2 => by
        rw [mapL_at hM H.out.good, hxd] at h2
        have h3 : (getL S.l p : Int) = c2 := by injection h2 with h2; injection h2
        rw [← h3, hgn]⟩
      have cb := (blk HI.out.box).1
      have c0 := cb 0
      have c1 := cb 1
      have c2 := cb 2
      have c3 := cb 3
      simp only [List.getElem?_toArray, List.getElem?_cons_zero, List.getElem?_cons_succ] at c0 c1 c2 c3
      have fb0 := (blk HBOX.out).1 0
      have fb1 := (blk HBOX.out).1 1
      simp only [List.getElem?_toArray, List.getElem?_cons_zero, List.getElem?_cons_succ] at fb0 fb1
      have ff := (blk HBOX.out).2
      have z1 : (0 : Int) ≤ (k : Int) := by omega
      have z2 : (k : Int) < S.l.length := by omega
      have hlbv := H.out.lbv
      have hFl := blk_lt HBOX.out
      have hgr : g < wr.heap.size := blk_lt HI.out.box
      clear hen hkp hvl hvp hmem hpn hgn hx hown hM cb hxd
      by_cases hn0 : n = 0
      · have d1 : ((n : Int) == 0) = true := by rw [beq_iff_eq]; omega
        have HN : Aside0 (OneS S w wr w.heap.size (k + 1) f fp fb) := ⟨by rw [HG0.out, goO_zero S f hn0], HFP.out.1, HFP.out.2, HBOX.out, HB.out, hfb⟩
        go_wp2_with (at_lookup; refine wpList_lookup_own_int _ rfl _ _ 57 rfl 9 3 .i64 (string_keyed Tryd.underlying9) Tryd.underlying57 Tryd.underlying3 (Tryd.zeroValue3 _) mb _ D rfl HOWN.out _ _ rfl hkey ?_; intro c2 hat hwc; obtain rfl : c2 = (n : Int) := HAT.out c2 hat; clear hat hwc)
        go_roundw
        case rel => exact ⟨k + 1, f, fp, fb, by omega, by go_num, rfl, HN⟩
        case measure => simp [intOf]; omega
      · have d1 : ((n : Int) == 0) = false := by rw [beq_eq_false_iff_ne]; omega
        have hneg : g ≠ w.heap.size := by omega
        have hnem : mb ≠ w.heap.size := by have := HML.out; omega
        cases f with
        | none =>
          go_upto_region 8 with (at_lookup; refine wpList_lookup_own_int _ rfl _ _ 57 rfl 9 3 .i64 (string_keyed Tryd.underlying9) Tryd.underlying57 Tryd.underlying3 (Tryd.zeroValue3 _) mb _ D rfl HOWN.out _ _ rfl hkey ?_; intro c2 hat hwc; obtain rfl : c2 = (n : Int) := HAT.out c2 hat; clear hat hwc)
          obtain ⟨wq, hwq⟩ : ∃ wq, wq = (wr.setCell ⟨w.heap.size, 0, none⟩ (.string x)).setCell ⟨w.heap.size, 1, none⟩ (.int .i64 0) := ⟨_, rfl⟩
          rw [← hwq]
          have HIQ : Aside0 (IsS wq base g mb S) := ⟨by rw [hwq]; exact (HI.out.other hneg hnem _ _).other hneg hnem _ _⟩
          have HBQ : Aside0 (wq.heap[w.heap.size]? = some (.cells #[.string x, .int .i64 ((0 : Nat) : Int)] 36 (0, 0))) := ⟨by rw [hwq, block_setCell (block_setCell HBOX.out _) _]; rfl⟩
          have HBWQ : Aside0 (Below w.heap.size w wq) := ⟨by rw [hwq]; exact (HB.out.setCell (p := ⟨w.heap.size, 0, none⟩) (Nat.le_refl _) _).setCell (p := ⟨w.heap.size, 1, none⟩) (Nat.le_refl _) _⟩
          have hfbq : 0 ≤ 1000000 := by decide
          obtain ⟨f, hf⟩ : ∃ f : Option Ent, f = none := ⟨_, rfl⟩
          have HFQ : Aside0 (x = str (fst0 (some (f.getD (p, 0)))).1 ∧ 0 = (fst0 (some (f.getD (p, 0)))).2) := ⟨by rw [hf, ← HXD.out]; exact ⟨(str_of x).symm, rfl⟩⟩
          have HG1 : Aside0 (goO S S.l none = goO S ((p, n) :: S.l.drop (k + 1)) f) := ⟨by rw [hf]; exact HG0.out⟩
          clear hwq fb0 fb1 ff c0 c1 c2 c3 hf hFl hgr HI
          have q1 := (blk HIQ.out.box).1 1
          have q2 := (blk HIQ.out.box).1 2
          have q3 := (blk HIQ.out.box).1 3
          simp only [List.getElem?_toArray, List.getElem?_cons_zero, List.getElem?_cons_succ] at q1 q2 q3
          have gb0 := (blk HBQ.out).1 0
          have gb1 := (blk HBQ.out).1 1
          simp only [List.getElem?_toArray, List.getElem?_cons_zero, List.getElem?_cons_succ] at gb0 gb1
          have gf := (blk HBQ.out).2
          have hqg : g < wq.heap.size := blk_lt HIQ.out.box
          have hqF : w.heap.size < wq.heap.size := blk_lt HBQ.out
          obtain ⟨td, htd⟩ : ∃ td, S.told = td := ⟨_, rfl⟩
          obtain ⟨lb, hlb⟩ : ∃ lb, S.lb = lb := ⟨_, rfl⟩
          obtain ⟨q, hq⟩ : ∃ q, str S.lp = q := ⟨_, rfl⟩
          obtain ⟨ev, hev⟩ : ∃ ev, (x.toList == q.toList) = ev := ⟨_, rfl⟩
          have hev2 : (p == S.lp) = ev := by rw [← hev, ← hq, toList_eq, toList_eq, str_data, HXD.out]
          have hfr : fromN S p = if (td && ev) = true then lb + 1 else 0 := by unfold fromN; rw [htd, hev2, hlb]
          rw [htd] at q3
          rw [hlb] at q2 hlbv
          rw [hq] at q1
          obtain ⟨fr, hfr2⟩ : ∃ fr, fromN S p = fr := ⟨_, rfl⟩
          rw [hfr2] at hfr
          have HFR := Aside0.mk hfr2
          have hfrb : fr ≤ 1000001 := by rw [hfr]; split <;> omega
          have HGO := HG1
          clear htd hlb hq hev2 hfr2
          have hcase : (td = true ∧ ev = true ∧ fr = lb + 1) ∨ (td = true ∧ ev = false ∧ fr = 0) ∨ (td = false ∧ fr = 0) := by
            cases td with
            | false => exact .inr (.inr ⟨rfl, hfr⟩)
            | true =>
              cases ev with
              | false => exact .inr (.inl ⟨rfl, rfl, hfr⟩)
              | true => exact .inl ⟨rfl, rfl, hfr⟩
          clear hfr
          have HVX : Aside0 (wq.heap.size ≤ wq.heap.size) := ⟨Nat.le_refl _⟩
          have HAL : Aside0 (∀ y z : Value, Below wq.heap.size wq (wq.alloc (.cells #[y, z] 36 (0, 0)))) := ⟨fun y z => (Below.refl _ _).alloc (Nat.le_refl _) _⟩
          by_cases hfn : fr < n
          · have d2 : decide ((fr : Int) < (n : Int)) = true := decide_eq_true (by omega)
            have z3 : (fr : Int) < (n : Int) := by omega
            obtain ⟨bb, hbb⟩ : ∃ bb, behB S x.data.toList fr = bb := ⟨_, rfl⟩
            have HBE : Aside0 (∀ W, IsS W base g mb S → Calls Tryd.prog 36 #[.pointer (some ⟨g, 0, none⟩), .agg #[.string x, .int .i64 (fr : Int)]] W fun e w' => e = .returned (.bool bb) ∧ Below W.heap.size W w') := ⟨fun W hW => by
              have h1 := beh_calls x fr W hW (by omega) (by omega)
              rw [hbb] at h1; exact h1⟩
            have HDEC : Aside0 ((decide (fromN S p < n) && behB S p (fromN S p)) = bb) := ⟨by rw [HFR.out, decide_eq_true hfn, ← HXD.out, hbb, Bool.true_and]⟩
            clear hbb
            cases bb with
            | false =>
              have HN : Aside0 (∀ w', Below wq.heap.size wq w' → OneS S w w' w.heap.size (k + 1) (some (f.getD (p, 0))) x 0) := ⟨fun w' hb => ⟨by rw [HGO.out, goO_no S f hn0 HDEC.out], HFQ.out.1, HFQ.out.2, below_heap hb HBQ.out, below_step HBWQ.out hb, hfbq⟩⟩
              rcases hcase with ⟨rfl, rfl, rfl⟩ | ⟨rfl, rfl, rfl⟩ | ⟨rfl, rfl⟩
              · go_wp2_with fail
                refine (HBE.out _ (HIQ.out.below (HAL.out _ _))).mono ?_
                rintro e w3 ⟨rfl, hb3⟩
                have HB3 := Aside0.mk (below_step (HAL.out _ _) hb3)
                clear hb3
                go_wp2_with fail
                go_roundw
                case rel => exact ⟨k + 1, some (f.getD (p, 0)), x, 0, by omega, by go_num, rfl, ⟨HN.out _ HB3.out⟩⟩
                case measure => simp [intOf]; omega
              · go_wp2_with fail
                refine (HBE.out _ (HIQ.out.below (HAL.out _ _))).mono ?_
                rintro e w3 ⟨rfl, hb3⟩
                have HB3 := Aside0.mk (below_step (HAL.out _ _) hb3)
                clear hb3
                go_wp2_with fail
                go_roundw
                case rel => exact ⟨k + 1, some (f.getD (p, 0)), x, 0, by omega, by go_num, rfl, ⟨HN.out _ HB3.out⟩⟩
                case measure => simp [intOf]; omega
              · go_wp2_with fail
                refine (HBE.out _ (HIQ.out.below (HAL.out _ _))).mono ?_
                rintro e w3 ⟨rfl, hb3⟩
                have HB3 := Aside0.mk (below_step (HAL.out _ _) hb3)
                clear hb3
                go_wp2_with fail
                go_roundw
                case rel => exact ⟨k + 1, some (f.getD (p, 0)), x, 0, by omega, by go_num, rfl, ⟨HN.out _ HB3.out⟩⟩
                case measure => simp [intOf]; omega
            | true =>
              have HRS : Aside0 (goO S S.l none = some (p, fr)) := ⟨by rw [HGO.out, goO_yes S f hn0 HDEC.out, HFR.out]⟩
              rcases hcase with ⟨rfl, rfl, rfl⟩ | ⟨rfl, rfl, rfl⟩ | ⟨rfl, rfl⟩
              · go_wp2_with fail
                refine (HBE.out _ (HIQ.out.below (HAL.out _ _))).mono ?_
                rintro e w3 ⟨rfl, hb3⟩
                have HB3 := Aside0.mk (below_step HBWQ.out (below_step (HAL.out _ _) hb3))
                have hv3 := below_heap hb3 (heap_new (w := wq) (o := .cells #[.string x, .int .i64 ((lb + 1 : Nat) : Int)] 36 (0, 0)) rfl)
                have hF3 := below_heap (below_step (HAL.out _ _) hb3) HBQ.out
                have v0 := (blk hv3).1 0
                have v1 := (blk hv3).1 1
                have w0 := (blk hF3).1 0
                have w1 := (blk hF3).1 1
                have wf := (blk hF3).2
                simp only [List.getElem?_toArray, List.getElem?_cons_zero, List.getElem?_cons_succ] at v0 v1 w0 w1
                have hneF : wq.heap.size ≠ w.heap.size := by omega
                have hF3l := blk_lt hF3
                have hv3l := blk_lt hv3
                have HF3 := Aside0.mk hF3
                have HRT : Aside0 (fst0 (goO S S.l none) = (p, lb + 1)) := ⟨by rw [HRS.out]; rfl⟩
                clear hb3 hv3 hF3
                go_wp2_with fail
                rw [Exit.noGoto_ret]
                refine bodyPost_ret (v := .tuple #[.agg #[.string x, .int .i64 ((lb + 1 : Nat) : Int)], .bool true]) (one_ret (F := w.heap.size) ?_ _ rfl rfl) rfl ?_
                · rw [block_setCell (block_setCell (block_setCell (block_setCell HF3.out _) _) _) _]; rfl
                · refine ⟨?_, (((HB3.out.setCell (p := ⟨w.heap.size, 0, none⟩) (Nat.le_refl _) _).setCell (p := ⟨w.heap.size, 1, none⟩) (Nat.le_refl _) _).setCell (p := ⟨w.heap.size, 0, none⟩) (Nat.le_refl _) _).setCell (p := ⟨w.heap.size, 1, none⟩) (Nat.le_refl _) _⟩
                  rw [HRT.out, HRS.out, ← HXD.out, str_of]; rfl
              · go_wp2_with fail
                refine (HBE.out _ (HIQ.out.below (HAL.out _ _))).mono ?_
                rintro e w3 ⟨rfl, hb3⟩
                have HB3 := Aside0.mk (below_step HBWQ.out (below_step (HAL.out _ _) hb3))
                have hv3 := below_heap hb3 (heap_new (w := wq) (o := .cells #[.string x, .int .i64 ((0 : Nat) : Int)] 36 (0, 0)) rfl)
                have hF3 := below_heap (below_step (HAL.out _ _) hb3) HBQ.out
                have v0 := (blk hv3).1 0
                have v1 := (blk hv3).1 1
                have w0 := (blk hF3).1 0
                have w1 := (blk hF3).1 1
                have wf := (blk hF3).2
                simp only [List.getElem?_toArray, List.getElem?_cons_zero, List.getElem?_cons_succ] at v0 v1 w0 w1
                have hneF : wq.heap.size ≠ w.heap.size := by omega
                have hF3l := blk_lt hF3
                have hv3l := blk_lt hv3
                have HF3 := Aside0.mk hF3
                have HRT : Aside0 (fst0 (goO S S.l none) = (p, 0)) := ⟨by rw [HRS.out]; rfl⟩
                clear hb3 hv3 hF3
                go_wp2_with fail
                rw [Exit.noGoto_ret]
                refine bodyPost_ret (v := .tuple #[.agg #[.string x, .int .i64 ((0 : Nat) : Int)], .bool true]) (one_ret (F := w.heap.size) ?_ _ rfl rfl) rfl ?_
                · rw [block_setCell (block_setCell (block_setCell (block_setCell HF3.out _) _) _) _]; rfl
                · refine ⟨?_, (((HB3.out.setCell (p := ⟨w.heap.size, 0, none⟩) (Nat.le_refl _) _).setCell (p := ⟨w.heap.size, 1, none⟩) (Nat.le_refl _) _).setCell (p := ⟨w.heap.size, 0, none⟩) (Nat.le_refl _) _).setCell (p := ⟨w.heap.size, 1, none⟩) (Nat.le_refl _) _⟩
                  rw [HRT.out, HRS.out, ← HXD.out, str_of]; rfl
              · go_wp2_with fail
                refine (HBE.out _ (HIQ.out.below (HAL.out _ _))).mono ?_
                rintro e w3 ⟨rfl, hb3⟩
                have HB3 := Aside0.mk (below_step HBWQ.out (below_step (HAL.out _ _) hb3))
                have hv3 := below_heap hb3 (heap_new (w := wq) (o := .cells #[.string x, .int .i64 ((0 : Nat) : Int)] 36 (0, 0)) rfl)
                have hF3 := below_heap (below_step (HAL.out _ _) hb3) HBQ.out
                have v0 := (blk hv3).1 0
                have v1 := (blk hv3).1 1
                have w0 := (blk hF3).1 0
                have w1 := (blk hF3).1 1
                have wf := (blk hF3).2
                simp only [List.getElem?_toArray, List.getElem?_cons_zero, List.getElem?_cons_succ] at v0 v1 w0 w1
                have hneF : wq.heap.size ≠ w.heap.size := by omega
                have hF3l := blk_lt hF3
                have hv3l := blk_lt hv3
                have HF3 := Aside0.mk hF3
                have HRT : Aside0 (fst0 (goO S S.l none) = (p, 0)) := ⟨by rw [HRS.out]; rfl⟩
                clear hb3 hv3 hF3
                go_wp2_with fail
                rw [Exit.noGoto_ret]
                refine bodyPost_ret (v := .tuple #[.agg #[.string x, .int .i64 ((0 : Nat) : Int)], .bool true]) (one_ret (F := w.heap.size) ?_ _ rfl rfl) rfl ?_
                · rw [block_setCell (block_setCell (block_setCell (block_setCell HF3.out _) _) _) _]; rfl
                · refine ⟨?_, (((HB3.out.setCell (p := ⟨w.heap.size, 0, none⟩) (Nat.le_refl _) _).setCell (p := ⟨w.heap.size, 1, none⟩) (Nat.le_refl _) _).setCell (p := ⟨w.heap.size, 0, none⟩) (Nat.le_refl _) _).setCell (p := ⟨w.heap.size, 1, none⟩) (Nat.le_refl _) _⟩
                  rw [HRT.out, HRS.out, ← HXD.out, str_of]; rfl
          · have d2 : decide ((fr : Int) < (n : Int)) = false := decide_eq_false (by omega)
            have z3 : ¬ (fr : Int) < (n : Int) := by omega
            have HDEC : Aside0 ((decide (fromN S p < n) && behB S p (fromN S p)) = false) := ⟨by rw [HFR.out, decide_eq_false hfn, Bool.false_and]⟩
            have HN : Aside0 (∀ w', Below wq.heap.size wq w' → OneS S w w' w.heap.size (k + 1) (some (f.getD (p, 0))) x 0) := ⟨fun w' hb => ⟨by rw [HGO.out, goO_no S f hn0 HDEC.out], HFQ.out.1, HFQ.out.2, below_heap hb HBQ.out, below_step HBWQ.out hb, hfbq⟩⟩
            rcases hcase with ⟨rfl, rfl, rfl⟩ | ⟨rfl, rfl, rfl⟩ | ⟨rfl, rfl⟩
            · go_wp2_with fail
              go_roundw
              case rel => exact ⟨k + 1, some (f.getD (p, 0)), x, 0, by omega, by go_num, rfl, ⟨HN.out _ (HAL.out _ _)⟩⟩
              case measure => simp [intOf]; omega
            · exact absurd (Nat.pos_of_ne_zero hn0) hfn
            · exact absurd (Nat.pos_of_ne_zero hn0) hfn
        | some fe =>
          go_upto_region 8 with (at_lookup; refine wpList_lookup_own_int _ rfl _ _ 57 rfl 9 3 .i64 (string_keyed Tryd.underlying9) Tryd.underlying57 Tryd.underlying3 (Tryd.zeroValue3 _) mb _ D rfl HOWN.out _ _ rfl hkey ?_; intro c2 hat hwc; obtain rfl : c2 = (n : Int) := HAT.out c2 hat; clear hat hwc)
          obtain ⟨wq, hwq⟩ : ∃ wq, wq = wr := ⟨_, rfl⟩
          rw [← hwq]
          have HIQ : Aside0 (IsS wq base g mb S) := ⟨by rw [hwq]; exact HI.out⟩
          have HBQ : Aside0 (wq.heap[w.heap.size]? = some (.cells #[.string fp, .int .i64 (fb : Int)] 36 (0, 0))) := ⟨by rw [hwq]; exact HBOX.out⟩
          have HBWQ : Aside0 (Below w.heap.size w wq) := ⟨by rw [hwq]; exact HB.out⟩
          have hfbq := hfb
          obtain ⟨f, hf⟩ : ∃ f : Option Ent, f = some fe := ⟨_, rfl⟩
          have HFQ : Aside0 (fp = str (fst0 (some (f.getD (p, 0)))).1 ∧ fb = (fst0 (some (f.getD (p, 0)))).2) := ⟨by rw [hf]; exact HFP.out⟩
          have HG1 : Aside0 (goO S S.l none = goO S ((p, n) :: S.l.drop (k + 1)) f) := ⟨by rw [hf]; exact HG0.out⟩
          clear hwq fb0 fb1 ff c0 c1 c2 c3 hf hFl hgr HI
          have q1 := (blk HIQ.out.box).1 1
          have q2 := (blk HIQ.out.box).1 2
          have q3 := (blk HIQ.out.box).1 3
          simp only [List.getElem?_toArray, List.getElem?_cons_zero, List.getElem?_cons_succ] at q1 q2 q3
          have gb0 := (blk HBQ.out).1 0
          have gb1 := (blk HBQ.out).1 1
          simp only [List.getElem?_toArray, List.getElem?_cons_zero, List.getElem?_cons_succ] at gb0 gb1
          have gf := (blk HBQ.out).2
          have hqg : g < wq.heap.size := blk_lt HIQ.out.box
          have hqF : w.heap.size < wq.heap.size := blk_lt HBQ.out
          obtain ⟨td, htd⟩ : ∃ td, S.told = td := ⟨_, rfl⟩
          obtain ⟨lb, hlb⟩ : ∃ lb, S.lb = lb := ⟨_, rfl⟩
          obtain ⟨q, hq⟩ : ∃ q, str S.lp = q := ⟨_, rfl⟩
          obtain ⟨ev, hev⟩ : ∃ ev, (x.toList == q.toList) = ev := ⟨_, rfl⟩
          have hev2 : (p == S.lp) = ev := by rw [← hev, ← hq, toList_eq, toList_eq, str_data, HXD.out]
          have hfr : fromN S p = if (td && ev) = true then lb + 1 else 0 := by unfold fromN; rw [htd, hev2, hlb]
          rw [htd] at q3
          rw [hlb] at q2 hlbv
          rw [hq] at q1
          obtain ⟨fr, hfr2⟩ : ∃ fr, fromN S p = fr := ⟨_, rfl⟩
          rw [hfr2] at hfr
          have HFR := Aside0.mk hfr2
          have hfrb : fr ≤ 1000001 := by rw [hfr]; split <;> omega
          have HGO := HG1
          clear htd hlb hq hev2 hfr2
          have hcase : (td = true ∧ ev = true ∧ fr = lb + 1) ∨ (td = true ∧ ev = false ∧ fr = 0) ∨ (td = false ∧ fr = 0) := by
            cases td with
            | false => exact .inr (.inr ⟨rfl, hfr⟩)
            | true =>
              cases ev with
              | false => exact .inr (.inl ⟨rfl, rfl, hfr⟩)
              | true => exact .inl ⟨rfl, rfl, hfr⟩
          clear hfr
          have HVX : Aside0 (wq.heap.size ≤ wq.heap.size) := ⟨Nat.le_refl _⟩
          have HAL : Aside0 (∀ y z : Value, Below wq.heap.size wq (wq.alloc (.cells #[y, z] 36 (0, 0)))) := ⟨fun y z => (Below.refl _ _).alloc (Nat.le_refl _) _⟩
          by_cases hfn : fr < n
          · have d2 : decide ((fr : Int) < (n : Int)) = true := decide_eq_true (by omega)
            have z3 : (fr : Int) < (n : Int) := by omega
            obtain ⟨bb, hbb⟩ : ∃ bb, behB S x.data.toList fr = bb := ⟨_, rfl⟩
            have HBE : Aside0 (∀ W, IsS W base g mb S → Calls Tryd.prog 36 #[.pointer (some ⟨g, 0, none⟩), .agg #[.string x, .int .i64 (fr : Int)]] W fun e w' => e = .returned (.bool bb) ∧ Below W.heap.size W w') := ⟨fun W hW => by
              have h1 := beh_calls x fr W hW (by omega) (by omega)
              rw [hbb] at h1; exact h1⟩
            have HDEC : Aside0 ((decide (fromN S p < n) && behB S p (fromN S p)) = bb) := ⟨by rw [HFR.out, decide_eq_true hfn, ← HXD.out, hbb, Bool.true_and]⟩
            clear hbb
            cases bb with
            | false =>
              have HN : Aside0 (∀ w', Below wq.heap.size wq w' → OneS S w w' w.heap.size (k + 1) (some (f.getD (p, 0))) fp fb) := ⟨fun w' hb => ⟨by rw [HGO.out, goO_no S f hn0 HDEC.out], HFQ.out.1, HFQ.out.2, below_heap hb HBQ.out, below_step HBWQ.out hb, hfbq⟩⟩
              rcases hcase with ⟨rfl, rfl, rfl⟩ | ⟨rfl, rfl, rfl⟩ | ⟨rfl, rfl⟩
              · go_wp2_with fail
                refine (HBE.out _ (HIQ.out.below (HAL.out _ _))).mono ?_
                rintro e w3 ⟨rfl, hb3⟩
                have HB3 := Aside0.mk (below_step (HAL.out _ _) hb3)
                clear hb3
                go_wp2_with fail
                go_roundw
                case rel => exact ⟨k + 1, some (f.getD (p, 0)), fp, fb, by omega, by go_num, rfl, ⟨HN.out _ HB3.out⟩⟩
                case measure => simp [intOf]; omega
              · go_wp2_with fail
                refine (HBE.out _ (HIQ.out.below (HAL.out _ _))).mono ?_
                rintro e w3 ⟨rfl, hb3⟩
                have HB3 := Aside0.mk (below_step (HAL.out _ _) hb3)
                clear hb3
                go_wp2_with fail
                go_roundw
                case rel => exact ⟨k + 1, some (f.getD (p, 0)), fp, fb, by omega, by go_num, rfl, ⟨HN.out _ HB3.out⟩⟩
                case measure => simp [intOf]; omega
              · go_wp2_with fail
                refine (HBE.out _ (HIQ.out.below (HAL.out _ _))).mono ?_
                rintro e w3 ⟨rfl, hb3⟩
                have HB3 := Aside0.mk (below_step (HAL.out _ _) hb3)
                clear hb3
                go_wp2_with fail
                go_roundw
                case rel => exact ⟨k + 1, some (f.getD (p, 0)), fp, fb, by omega, by go_num, rfl, ⟨HN.out _ HB3.out⟩⟩
                case measure => simp [intOf]; omega
            | true =>
              have HRS : Aside0 (goO S S.l none = some (p, fr)) := ⟨by rw [HGO.out, goO_yes S f hn0 HDEC.out, HFR.out]⟩
              rcases hcase with ⟨rfl, rfl, rfl⟩ | ⟨rfl, rfl, rfl⟩ | ⟨rfl, rfl⟩
              · go_wp2_with fail
                refine (HBE.out _ (HIQ.out.below (HAL.out _ _))).mono ?_
                rintro e w3 ⟨rfl, hb3⟩
                have HB3 := Aside0.mk (below_step HBWQ.out (below_step (HAL.out _ _) hb3))
                have hv3 := below_heap hb3 (heap_new (w := wq) (o := .cells #[.string x, .int .i64 ((lb + 1 : Nat) : Int)] 36 (0, 0)) rfl)
                have hF3 := below_heap (below_step (HAL.out _ _) hb3) HBQ.out
                have v0 := (blk hv3).1 0
                have v1 := (blk hv3).1 1
                have w0 := (blk hF3).1 0
                have w1 := (blk hF3).1 1
                have wf := (blk hF3).2
                simp only [List.getElem?_toArray, List.getElem?_cons_zero, List.getElem?_cons_succ] at v0 v1 w0 w1
                have hneF : wq.heap.size ≠ w.heap.size := by omega
                have hF3l := blk_lt hF3
                have hv3l := blk_lt hv3
                have HF3 := Aside0.mk hF3
                have HRT : Aside0 (fst0 (goO S S.l none) = (p, lb + 1)) := ⟨by rw [HRS.out]; rfl⟩
                clear hb3 hv3 hF3
                go_wp2_with fail
                rw [Exit.noGoto_ret]
                refine bodyPost_ret (v := .tuple #[.agg #[.string x, .int .i64 ((lb + 1 : Nat) : Int)], .bool true]) (one_ret (F := w.heap.size) ?_ _ rfl rfl) rfl ?_
                · rw [block_setCell (block_setCell (block_setCell (block_setCell HF3.out _) _) _) _]; rfl
                · refine ⟨?_, (((HB3.out.setCell (p := ⟨w.heap.size, 0, none⟩) (Nat.le_refl _) _).setCell (p := ⟨w.heap.size, 1, none⟩) (Nat.le_refl _) _).setCell (p := ⟨w.heap.size, 0, none⟩) (Nat.le_refl _) _).setCell (p := ⟨w.heap.size, 1, none⟩) (Nat.le_refl _) _⟩
                  rw [HRT.out, HRS.out, ← HXD.out, str_of]; rfl
              · go_wp2_with fail
                refine (HBE.out _ (HIQ.out.below (HAL.out _ _))).mono ?_
                rintro e w3 ⟨rfl, hb3⟩
                have HB3 := Aside0.mk (below_step HBWQ.out (below_step (HAL.out _ _) hb3))
                have hv3 := below_heap hb3 (heap_new (w := wq) (o := .cells #[.string x, .int .i64 ((0 : Nat) : Int)] 36 (0, 0)) rfl)
                have hF3 := below_heap (below_step (HAL.out _ _) hb3) HBQ.out
                have v0 := (blk hv3).1 0
                have v1 := (blk hv3).1 1
                have w0 := (blk hF3).1 0
                have w1 := (blk hF3).1 1
                have wf := (blk hF3).2
                simp only [List.getElem?_toArray, List.getElem?_cons_zero, List.getElem?_cons_succ] at v0 v1 w0 w1
                have hneF : wq.heap.size ≠ w.heap.size := by omega
                have hF3l := blk_lt hF3
                have hv3l := blk_lt hv3
                have HF3 := Aside0.mk hF3
                have HRT : Aside0 (fst0 (goO S S.l none) = (p, 0)) := ⟨by rw [HRS.out]; rfl⟩
                clear hb3 hv3 hF3
                go_wp2_with fail
                rw [Exit.noGoto_ret]
                refine bodyPost_ret (v := .tuple #[.agg #[.string x, .int .i64 ((0 : Nat) : Int)], .bool true]) (one_ret (F := w.heap.size) ?_ _ rfl rfl) rfl ?_
                · rw [block_setCell (block_setCell (block_setCell (block_setCell HF3.out _) _) _) _]; rfl
                · refine ⟨?_, (((HB3.out.setCell (p := ⟨w.heap.size, 0, none⟩) (Nat.le_refl _) _).setCell (p := ⟨w.heap.size, 1, none⟩) (Nat.le_refl _) _).setCell (p := ⟨w.heap.size, 0, none⟩) (Nat.le_refl _) _).setCell (p := ⟨w.heap.size, 1, none⟩) (Nat.le_refl _) _⟩
                  rw [HRT.out, HRS.out, ← HXD.out, str_of]; rfl
              · go_wp2_with fail
                refine (HBE.out _ (HIQ.out.below (HAL.out _ _))).mono ?_
                rintro e w3 ⟨rfl, hb3⟩
                have HB3 := Aside0.mk (below_step HBWQ.out (below_step (HAL.out _ _) hb3))
                have hv3 := below_heap hb3 (heap_new (w := wq) (o := .cells #[.string x, .int .i64 ((0 : Nat) : Int)] 36 (0, 0)) rfl)
                have hF3 := below_heap (below_step (HAL.out _ _) hb3) HBQ.out
                have v0 := (blk hv3).1 0
                have v1 := (blk hv3).1 1
                have w0 := (blk hF3).1 0
                have w1 := (blk hF3).1 1
                have wf := (blk hF3).2
                simp only [List.getElem?_toArray, List.getElem?_cons_zero, List.getElem?_cons_succ] at v0 v1 w0 w1
                have hneF : wq.heap.size ≠ w.heap.size := by omega
                have hF3l := blk_lt hF3
                have hv3l := blk_lt hv3
                have HF3 := Aside0.mk hF3
                have HRT : Aside0 (fst0 (goO S S.l none) = (p, 0)) := ⟨by rw [HRS.out]; rfl⟩
                clear hb3 hv3 hF3
                go_wp2_with fail
                rw [Exit.noGoto_ret]
                refine bodyPost_ret (v := .tuple #[.agg #[.string x, .int .i64 ((0 : Nat) : Int)], .bool true]) (one_ret (F := w.heap.size) ?_ _ rfl rfl) rfl ?_
                · rw [block_setCell (block_setCell (block_setCell (block_setCell HF3.out _) _) _) _]; rfl
                · refine ⟨?_, (((HB3.out.setCell (p := ⟨w.heap.size, 0, none⟩) (Nat.le_refl _) _).setCell (p := ⟨w.heap.size, 1, none⟩) (Nat.le_refl _) _).setCell (p := ⟨w.heap.size, 0, none⟩) (Nat.le_refl _) _).setCell (p := ⟨w.heap.size, 1, none⟩) (Nat.le_refl _) _⟩
                  rw [HRT.out, HRS.out, ← HXD.out, str_of]; rfl
          · have d2 : decide ((fr : Int) < (n : Int)) = false := decide_eq_false (by omega)
            have z3 : ¬ (fr : Int) < (n : Int) := by omega
            have HDEC : Aside0 ((decide (fromN S p < n) && behB S p (fromN S p)) = false) := ⟨by rw [HFR.out, decide_eq_false hfn, Bool.false_and]⟩
            have HN : Aside0 (∀ w', Below wq.heap.size wq w' → OneS S w w' w.heap.size (k + 1) (some (f.getD (p, 0))) fp fb) := ⟨fun w' hb => ⟨by rw [HGO.out, goO_no S f hn0 HDEC.out], HFQ.out.1, HFQ.out.2, below_heap hb HBQ.out, below_step HBWQ.out hb, hfbq⟩⟩
            rcases hcase with ⟨rfl, rfl, rfl⟩ | ⟨rfl, rfl, rfl⟩ | ⟨rfl, rfl⟩
            · go_wp2_with fail
              go_roundw
              case rel => exact ⟨k + 1, some (f.getD (p, 0)), fp, fb, by omega, by go_num, rfl, ⟨HN.out _ (HAL.out _ _)⟩⟩
              case measure => simp [intOf]; omega
            · exact absurd (Nat.pos_of_ne_zero hn0) hfn
            · exact absurd (Nat.pos_of_ne_zero hn0) hfn
    · obtain rfl : k = S.l.length := by omega
      have hend : goO S S.l none = f := by rw [hs.out.1, List.drop_length]; rfl
      have HEND := Aside0.mk hend
      have HB := Aside0.mk hs.out.2.2.2.2.1
      have HFP := Aside0.mk (And.intro hs.out.2.1 hs.out.2.2.1)
      have fb0 := (blk hs.out.2.2.2.1).1 0
      have fb1 := (blk hs.out.2.2.2.1).1 1
      simp only [List.getElem?_toArray, List.getElem?_cons_zero, List.getElem?_cons_succ] at fb0 fb1
      have ff := (blk hs.out.2.2.2.1).2
      have HBX := Aside0.mk hs.out.2.2.2.1
      have hFl := blk_lt hs.out.2.2.2.1
      clear hend hs
      go_wp2_with fail
      rw [Exit.noGoto_ret]
      refine bodyPost_ret (v := .tuple #[.agg #[.string fp, .int .i64 (fb : Int)], .bool f.isSome]) (one_ret (F := w.heap.size) ?_ _ rfl rfl) rfl ?_
      · rw [block_setCell (block_setCell HBX.out _) _]; rfl
      · refine ⟨?_, (HB.out.setCell (p := ⟨w.heap.size, 0, none⟩) (Nat.le_refl _) _).setCell (p := ⟨w.heap.size, 1, none⟩) (Nat.le_refl _) _⟩
        rw [HEND.out, ← HFP.out.1, ← HFP.out.2]
end Go.Proofs.YtoigmepkhiknbaaDoor
