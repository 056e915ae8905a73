/-
  A ring of blocks: New, Set, Drop. No condition but lengths.
-/
import Derived.Test.YtoigmepkhiknbaaDoorSchPure
import Derived.Test.YtoigmepkhiknbaaDoorRecs
import Derived.Test.YtoigmepkhiknbaaDoorRefPath4
import Derived.Maps.OwnOps
import Derived.StringKeys
import Derived.WalkSpells
namespace Go.Proofs.YtoigmepkhiknbaaDoor
open Go.RowKit Go.Maps
set_option linter.unusedVariables false
set_option linter.unusedSimpArgs false

/-- A ring: its box, its map. -/
structure IsS (w : World) (base g mb : Nat) (S : SS) : Prop where
  hg : base ≤ g
  hm : base ≤ mb
  box : w.heap[g]? = some (.cells #[.map (some mb), .string (str S.lp), .int .i64 (S.lb : Int), .bool S.told] 59 (0, 0))
  map : ∃ D : DataW Unit, w.ownsMap Tryd.prog 9 (plainElem Tryd.prog 3) mb S.l.length D ∧ MapL D S.l
  good : Good S.l
  few : S.l.length ≤ 100
  lpv : S.lp.length ≤ 60
  lbv : S.lb ≤ 1000000
/-- All is as it was but the ring's box and its map. -/
structure KeepS (g mb : Nat) (w w' : World) : Prop where
  os : w'.os = w.os
  tape : w'.tape = w.tape
  output : w'.output = w.output
  size : w.heap.size ≤ w'.heap.size
  block : ∀ k, k < w.heap.size → k ≠ g → k ≠ mb → w'.heap[k]? = w.heap[k]?
theorem KeepS.refl (g mb : Nat) (w : World) : KeepS g mb w w := ⟨rfl, rfl, rfl, Nat.le_refl _, fun _ _ _ _ => rfl⟩
theorem KeepS.of_below {g mb : Nat} {w w' : World} (h : Below w.heap.size w w') : KeepS g mb w w' := ⟨h.os, h.tape, h.output, h.size, fun k hk _ _ => h.block k hk⟩
theorem KeepS.trans {g mb : Nat} {w w1 w2 : World} (h : KeepS g mb w w1) (k : KeepS g mb w1 w2) : KeepS g mb w w2 :=
  ⟨k.os.trans h.os, k.tape.trans h.tape, k.output.trans h.output, Nat.le_trans h.size k.size, fun i hi h1 h2 => (k.block i (Nat.lt_of_lt_of_le hi h.size) h1 h2).trans (h.block i hi h1 h2)⟩
theorem KeepS.grown {g mb : Nat} {w w' : World} (h : w.grownBy w' (some mb)) : KeepS g mb w w' := ⟨h.os, h.tape, h.output, h.size, fun k hk _ h2 => h.block k hk (fun e => h2 (by cases e; rfl))⟩
theorem KeepS.set {g mb : Nat} {w : World} (o : Nat) (v : Value) : KeepS g mb w (w.setCell ⟨g, o, none⟩ v) :=
  ⟨rfl, rfl, rfl, by simp, fun k hk h1 _ => Below.heap_setCell w ⟨g, o, none⟩ v k h1⟩
theorem KeepS.below {g mb b : Nat} {w w' : World} (h : KeepS g mb w w') (hb : b ≤ w.heap.size) (hg : b ≤ g) (hm : b ≤ mb) : Below b w w' := ⟨h.os, h.tape, h.output, h.size, fun k hk => h.block k (by omega) (by omega) (by omega)⟩

theorem own_tight {w : World} {k : TypeId} {R : Value → Option (DataW Unit × List MemPlace)} {b n : Nat} {D : DataW Unit} (h : w.ownsMap Tryd.prog k R b n D) : w.ownsMap Tryd.prog k R b (Maps.size D) D := by
  obtain ⟨es, clock, hb, F, hs, rfl⟩ := h
  refine ⟨es, clock, hb, F, ?_, rfl⟩
  show es.size ≤ ((es.toList.map _).foldr DataW.insert []).length
  rw [length_read]
  exact Nat.le_refl _
theorem IsS.ne {w : World} {base g mb : Nat} {S : SS} (h : IsS w base g mb S) : g ≠ mb := by
  obtain ⟨D, ⟨es, clock, hb, _⟩, _⟩ := h.map
  rintro rfl
  rw [h.box] at hb; cases hb
theorem IsS.below {w w' : World} {base g mb : Nat} {S : SS} (h : IsS w base g mb S) (hb : Below w.heap.size w w') : IsS w' base g mb S := by
  refine ⟨h.hg, h.hm, below_heap hb h.box, ?_, h.good, h.few, h.lpv, h.lbv⟩
  obtain ⟨D, ⟨es, clock, hh, hr⟩, hM⟩ := h.map
  exact ⟨D, ⟨es, clock, below_heap hb hh, hr⟩, hM⟩
theorem key_str (p : ByteArray) (hp : p.size ≤ maxLen) : keyOf Tryd.prog 9 (.string p) = some (.string p.data.toList) := by
  exact WideMaps.keyOf_string_mk Tryd.underlying9 hp

theorem eql_map_none (mb : Nat) (w : World) : (binOp .eql 57 (.map (some mb)) (.map none)).run Tryd.prog w = .ok (.bool false) w := by
  have h := run_eql_map_nil (P := Tryd.prog) w 57 9 3 (some mb) Tryd.underlying57
  simpa using h

set_option maxHeartbeats 1000000 in
theorem snew_calls (w : World) : Calls Tryd.prog 8 #[] w fun e w' => ∃ g mb, e = .returned (.pointer (some ⟨g, 0, none⟩)) ∧ IsS w' w.heap.size g mb ⟨[], [], 0, false⟩ ∧ Below w.heap.size w w' := by
  have hmm := @run_makeMap Tryd.prog
  go_enter Tryd.func8, Tryd.ntmps8
  go_wp2_with fail
  go_ret
  have hb1 := (Below.refl w.heap.size w).alloc (Nat.le_refl _) (.map #[] 0)
  have hm := World.ownsMap_made (H := Unit) w Tryd.prog 9 (plainElem Tryd.prog 3)
  refine ⟨_, w.heap.size, rfl, ⟨?_, Nat.le_refl _, heap_new (by simp), ⟨.map [], ?_, mapL_empty⟩, ⟨List.Pairwise.nil, by simp, by simp⟩, by decide, by decide, by decide⟩, hb1.alloc hb1.size _⟩
  · simp
  · exact hm.alloc _

/-- What Set answers. -/
def setE (l : List Ent) (p : List UInt8) (n : Int) : Int := if (validB p && (decide (0 ≤ n) && decide (n ≤ 4096))) = true then (if (!hasL l p && decide (100 ≤ l.length)) = true then 4 else 0) else 1
theorem setL_length {l : List Ent} (h : Good l) (p : List UInt8) (n : Nat) : (setL l p n).length = if hasL l p = true then l.length else l.length + 1 := by
  rw [(setL_perm h p n).length_eq, List.length_cons]
  have hne := good_ne h
  clear h
  induction l with
  | nil => rfl
  | cons x r ih =>
    rw [List.pairwise_cons] at hne
    have ih := ih hne.2
    cases hx : (x.1 == p) with
    | true =>
      have h1 : delL (x :: r) p = delL r p := by unfold delL; rw [List.filter_cons, hx]; rfl
      have h2 : hasL (x :: r) p = true := by unfold hasL; rw [List.any_cons, hx]; rfl
      have h3 : delL r p = r := by
        unfold delL
        rw [List.filter_eq_self]
        intro y hy
        have := hne.1 y hy
        rw [beq_iff_eq] at hx
        rw [hx] at this
        rw [beq_eq_false_iff_ne.2 (fun e => this e.symm)]; rfl
      rw [h1, h2, h3, if_pos rfl, List.length_cons]
    | false =>
      have h1 : delL (x :: r) p = x :: delL r p := by unfold delL; rw [List.filter_cons, hx]; rfl
      have h2 : hasL (x :: r) p = hasL r p := by unfold hasL; rw [List.any_cons, hx]; rfl
      rw [h1, h2, List.length_cons, ih, List.length_cons]
      split <;> rfl

/-- What Set leaves. -/
def SetQ (base g mb : Nat) (S : SS) (p : List UInt8) (n : Int) (w w' : World) : Prop :=
  IsS w' base g mb (if setE S.l p n = 0 then ⟨setL S.l p n.toNat, S.lp, S.lb, S.told⟩ else S) ∧ KeepS g mb w w'
theorem IsS.set {w w1 w' : World} {base g mb : Nat} {S : SS} {D : DataW Unit} {p : List UInt8} {N : Nat} (h : IsS w base g mb S) (hb : Below w.heap.size w w1) (hD : MapL D S.l) (hG : Good (setL S.l p N)) (hf : (setL S.l p N).length ≤ 100) (k : Nat)
    (ho : w'.ownsMap Tryd.prog 9 (plainElem Tryd.prog 3) mb k (D.put (.string p) (.lit (.int .i64 (N : Int))))) (hg : w1.grownBy w' (some mb)) : IsS w' base g mb ⟨setL S.l p N, S.lp, S.lb, S.told⟩ ∧ KeepS g mb w w' := by
  have hM := mapL_put hD h.good p N
  have hbx := below_heap hb h.box
  refine ⟨⟨h.hg, h.hm, ?_, ⟨_, ?_, hM⟩, hG, hf, h.lpv, h.lbv⟩, (KeepS.of_below hb).trans (KeepS.grown hg)⟩
  · exact (hg.block g (blk_lt hbx) (fun e => h.ne (by cases e; rfl))).trans hbx
  · have := own_tight ho
    rwa [mapL_size hM] at this

set_option maxRecDepth 4000 in
set_option maxHeartbeats 8000000 in
theorem sset_calls {base g mb : Nat} {S : SS} (p : ByteArray) (n : Int) (w : World) (h : IsS w base g mb S) (hp : p.size ≤ 1000000000) (hn : -9223372036854775808 ≤ n ∧ n ≤ 9223372036854775807) :
    Calls Tryd.prog 10 #[.pointer (some ⟨g, 0, none⟩), .string p, .int .i64 n] w fun e w' => e = .returned (.int .i64 (setE S.l p.data.toList n)) ∧ SetQ base g mb S p.data.toList n w w' := by
  have H := Aside0.mk h
  have HBA : Aside0 (∀ w', Below w.heap.size w w' → setE S.l p.data.toList n ≠ 0 → SetQ base g mb S p.data.toList n w w') := ⟨fun w' hb hne => by unfold SetQ; rw [if_neg hne]; exact ⟨h.below hb, KeepS.of_below hb⟩⟩
  have hgl := blk_lt h.box
  clear h
  obtain ⟨b, hb⟩ : ∃ b, validB p.data.toList = b := ⟨_, rfl⟩
  have HVB := Aside0.mk hb
  cases b with
  | false =>
    have HE : Aside0 (setE S.l p.data.toList n = 1) := ⟨by unfold setE; rw [hb]; rfl⟩
    clear hb
    go_enter Tryd.func10, Tryd.ntmps10
    go_wp2_with (go_at_call 25; refine (valid_calls p _ hp).mono ?_; rintro e w1 ⟨rfl, hb1⟩; rw [HVB.out]; have HB1 := Aside0.mk hb1; clear hb1)
    go_ret
    exact ⟨by rw [HE.out]; rfl, HBA.out _ HB1.out (by rw [HE.out]; decide)⟩
  | true =>
    by_cases h0 : 0 ≤ n
    · have d1 : decide (n < 0) = false := decide_eq_false (by omega)
      by_cases h4 : n ≤ 4096
      · have d2 : decide (4096 < n) = false := decide_eq_false (by omega)
        obtain ⟨N, rfl⟩ : ∃ N : Nat, n = (N : Int) := ⟨n.toNat, by omega⟩
        obtain ⟨o, ho⟩ : ∃ o, hasL S.l p.data.toList = o := ⟨_, rfl⟩
        have HO := Aside0.mk ho
        have HSE : Aside0 (setE S.l p.data.toList (N : Int) = if (!o && decide (100 ≤ S.l.length)) = true then 4 else 0) := ⟨by
          unfold setE; rw [hb, ho, decide_eq_true h0, decide_eq_true h4]; rfl⟩
        have hN : N ≤ 4096 := by omega
        have HGS := Aside0.mk (good_set H.out.good hb hN)
        have HLS := Aside0.mk (setL_length H.out.good p.data.toList N)
        rw [ho] at HLS
        have hkey := key_str p (by simp only [maxLen]; omega)
        have hwf : (Lit.int .i64 (N : Int)).wf = true := by simp [Lit.wf, IntKind.min, IntKind.max, IntKind.signed, IntKind.bits]; omega
        have hlf := H.out.few
        clear hb ho
        go_enter Tryd.func10, Tryd.ntmps10
        go_upto_region 5 with (go_at_call 25; refine (valid_calls p _ hp).mono ?_; rintro e w1 ⟨rfl, hb1⟩; rw [HVB.out]; have HB1 := Aside0.mk hb1; clear hb1)
        have HI := Aside0.mk (H.out.below HB1.out)
        obtain ⟨D, hown, hM⟩ := HI.out.map
        have HOWN := Aside0.mk hown
        have HM := Aside0.mk hM
        have c0 := (blk HI.out.box).1 0
        simp only [List.getElem?_toArray, List.getElem?_cons_zero] at c0
        have hhas := (mapL_has hM p.data.toList).trans HO.out
        have hsize := mapL_size hM
        have hlen := fun ty => HOWN.out.len Tryd.underlying57 ty
        rw [hsize] at hlen
        have heql := fun w => eql_map_none mb w
        clear hM
        cases o with
        | true =>
          have HE : Aside0 (setE S.l p.data.toList (N : Int) = 0) := ⟨by rw [HSE.out]; rfl⟩
          rw [if_pos rfl] at HLS
          go_wp2_with (first | (at_lookup; refine wpList_lookup_own_ok_int _ rfl _ _ 57 rfl 9 3 .i64 (string_keyed Tryd.underlying9) Tryd.underlying57 Tryd.underlying3 (Tryd.zeroValue3 _) mb _ D rfl HOWN.out _ _ rfl hkey ?_; intro c hat hwc; rw [hhas]) | (at_mapUpdate; refine wpList_mapUpdate_own _ rfl _ _ _ 57 rfl 9 3 (string_keyed Tryd.underlying9) Tryd.underlying57 (plainElem Tryd.prog 3) mb _ D rfl HOWN.out (by simp only [maxLen]; omega) _ _ _ rfl rfl hkey _ [] (plainElem_int Tryd.underlying3 hwf) ?_; intro w2 hown2 hgrow2; have H2 := Aside0.mk hown2; have HG2 := Aside0.mk hgrow2; clear hown2 hgrow2))
          go_ret
          refine ⟨by rw [HE.out]; rfl, ?_⟩
          unfold SetQ
          rw [if_pos HE.out, Int.toNat_natCast]
          exact H.out.set HB1.out HM.out HGS.out (by rw [HLS.out]; exact hlf) _ H2.out HG2.out
        | false =>
          rw [if_neg (by decide)] at HLS
          by_cases h100 : 100 ≤ S.l.length
          · have HE : Aside0 (setE S.l p.data.toList (N : Int) = 4) := ⟨by rw [HSE.out, decide_eq_true h100]; rfl⟩
            have d3 : decide ((100 : Int) ≤ S.l.length) = true := decide_eq_true (by omega)
            go_wp2_with (first | (at_lookup; refine wpList_lookup_own_ok_int _ rfl _ _ 57 rfl 9 3 .i64 (string_keyed Tryd.underlying9) Tryd.underlying57 Tryd.underlying3 (Tryd.zeroValue3 _) mb _ D rfl HOWN.out _ _ rfl hkey ?_; intro c hat hwc; rw [hhas]))
            go_ret
            exact ⟨by rw [HE.out]; rfl, HBA.out _ HB1.out (by rw [HE.out]; decide)⟩
          · have HE : Aside0 (setE S.l p.data.toList (N : Int) = 0) := ⟨by rw [HSE.out, decide_eq_false h100]; rfl⟩
            have d3 : decide ((100 : Int) ≤ S.l.length) = false := decide_eq_false (by omega)
            go_wp2_with (first | (at_lookup; refine wpList_lookup_own_ok_int _ rfl _ _ 57 rfl 9 3 .i64 (string_keyed Tryd.underlying9) Tryd.underlying57 Tryd.underlying3 (Tryd.zeroValue3 _) mb _ D rfl HOWN.out _ _ rfl hkey ?_; intro c hat hwc; rw [hhas]) | (at_mapUpdate; refine wpList_mapUpdate_own _ rfl _ _ _ 57 rfl 9 3 (string_keyed Tryd.underlying9) Tryd.underlying57 (plainElem Tryd.prog 3) mb _ D rfl HOWN.out (by simp only [maxLen]; omega) _ _ _ rfl rfl hkey _ [] (plainElem_int Tryd.underlying3 hwf) ?_; intro w2 hown2 hgrow2; have H2 := Aside0.mk hown2; have HG2 := Aside0.mk hgrow2; clear hown2 hgrow2))
            go_ret
            refine ⟨by rw [HE.out]; rfl, ?_⟩
            unfold SetQ
            rw [if_pos HE.out, Int.toNat_natCast]
            exact H.out.set HB1.out HM.out HGS.out (by rw [HLS.out]; omega) _ H2.out HG2.out
      · have d2 : decide (4096 < n) = true := decide_eq_true (by omega)
        have HE : Aside0 (setE S.l p.data.toList n = 1) := ⟨by unfold setE; rw [hb, decide_eq_false h4, Bool.and_false, Bool.and_false]; rfl⟩
        clear hb
        go_enter Tryd.func10, Tryd.ntmps10
        go_wp2_with (go_at_call 25; refine (valid_calls p _ hp).mono ?_; rintro e w1 ⟨rfl, hb1⟩; rw [HVB.out]; have HB1 := Aside0.mk hb1; clear hb1)
        go_ret
        exact ⟨by rw [HE.out]; rfl, HBA.out _ HB1.out (by rw [HE.out]; decide)⟩
    · have d1 : decide (n < 0) = true := decide_eq_true (by omega)
      have HE : Aside0 (setE S.l p.data.toList n = 1) := ⟨by unfold setE; rw [hb, decide_eq_false h0, Bool.false_and, Bool.and_false]; rfl⟩
      clear hb
      go_enter Tryd.func10, Tryd.ntmps10
      go_wp2_with (go_at_call 25; refine (valid_calls p _ hp).mono ?_; rintro e w1 ⟨rfl, hb1⟩; rw [HVB.out]; have HB1 := Aside0.mk hb1; clear hb1)
      go_ret
      exact ⟨by rw [HE.out]; rfl, HBA.out _ HB1.out (by rw [HE.out]; decide)⟩
end Go.Proofs.YtoigmepkhiknbaaDoor
