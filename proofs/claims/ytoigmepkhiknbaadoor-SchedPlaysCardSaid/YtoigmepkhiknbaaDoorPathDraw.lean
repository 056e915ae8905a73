/-
  path.Compare, with how often the tape was asked: never less behind it than ahead of it. No condition but lengths.
-/
import Derived.Test.YtoigmepkhiknbaaDoorPathFns3
namespace Go.Proofs.YtoigmepkhiknbaaDoor
open Go.RowKit
set_option linter.unusedVariables false
set_option linter.unusedSimpArgs false

/-- Of what lay below B nothing has turned, and the tape was not asked less often. -/
structure BelowD (B : Nat) (w w' : World) : Prop where
  b : Below B w w'
  d : w.drawn ≤ w'.drawn
theorem BelowD.refl (B : Nat) (w : World) : BelowD B w w := ⟨Below.refl _ _, Nat.le_refl _⟩
theorem BelowD.drew {B : Nat} {w w' : World} (h : BelowD B w w') : BelowD B w w'.drew := ⟨h.b.drew, Nat.le_succ_of_le h.d⟩
theorem BelowD.setCell {B : Nat} {w w' : World} (h : BelowD B w w') {p : Addr} (hp : B ≤ p.block) (v : Value) : BelowD B w (w'.setCell p v) := ⟨h.b.setCell hp v, h.d⟩
theorem belowD_step {w w1 w2 : World} (h : BelowD w.heap.size w w1) (k : BelowD w1.heap.size w1 w2) : BelowD w.heap.size w w2 := ⟨below_step h.b k.b, Nat.le_trans h.d k.d⟩
theorem belowD_drewN {B : Nat} {w w' : World} (h : BelowD B w w') (n : Nat) : BelowD B w (w'.drewN n) := ⟨below_drewN h.b n, Nat.le_trans h.d (Nat.le_add_right _ _)⟩
theorem belowD_none {w w1 : World} (hg : w.grownBy w1 none) (hd : w1.drawn = w.drawn) : BelowD w.heap.size w w1 := ⟨below_none hg, Nat.le_of_eq hd.symm⟩
theorem wpList_make_fullD {P : Program} (w : World) {ops : Array Oper} {rest : List Oper} {o : Oper} {a : Act} {Q : Exit → Act → World → Prop}
    (hg : o.guard = none) (l c : Operand) (t : TypeId) (hop : o.op = Op.makeSlice t l c)
    (base : Nat) (e : TypeId) (i : TypeInfo) (z : Value) (size : Nat) (h1 : P.underlying t = some (.slice e)) (h2 : P.info? e = some i) (h3 : i.zero = some z) (h4 : i.size = size)
    (kl kc : IntKind) (L C : Int) (n : Nat) (hl : a.eval l = .int kl L) (hc : a.eval c = .int kc C) (hL : L = (n : Int)) (hC : C = (n : Int)) (b2 : i.bytes * n ≤ 281474976710656) (b3 : n ≤ maxLen) (b4 : base ≤ w.heap.size)
    (hK : ∀ w', w'.ownsRow base e size (.slice (some ⟨w.heap.size, 0, none⟩) n n) n (madeCells z.cells (n * size)).toList → w.grownBy w' none → w'.drawn = w.drawn → wpList P ops Q rest (a.put o.dst (.slice (some ⟨w.heap.size, 0, none⟩) n n)) w') :
    wpList P ops Q (o :: rest) a w := by
  refine wpList_plain hg fun K hK' => ?_
  obtain ⟨w', hrun, r1, r2⟩ := run_make_full (P := P) w base t e i z size h1 h2 h3 h4 kl kc n b2 b3 b4
  have hm : (maxLen : Int) = 9223372036854775807 := by simp [maxLen]
  have hb : (i.bytes : Int) * (n : Int) ≤ 281474976710656 := by
    have h : ((i.bytes * n : Nat) : Int) ≤ 281474976710656 := by omega
    rwa [Int.natCast_mul] at h
  have hrun2 := run_make (P := P) w t e i z h1 h2 h3 kl kc (n : Int) (n : Int) (by omega) (Int.le_refl _) hb (by omega)
  simp only [Int.toNat_natCast] at hrun2
  rw [hrun] at hrun2
  have hd : w'.drawn = w.drawn := by
    injection hrun2 with _ hw
    rw [hw]
    simp [World.alloc, -World.alloc_eq]
  subst hL
  subst hC
  unfold Oper.wp
  simp [execOp, hop, hl, hc, hrun, Result.andThen]
  exact hK' _ _ (hK w' r1 r2 hd)

/-- Where the loop stands. -/
def SplSD (w wr : World) (g C : Nat) (s t : ByteArray) (i : Nat) : Prop :=
  ∃ done : List (List UInt8), done.length = i ∧ splitP s.data.toList = done ++ splitP t.data.toList ∧ t.data.toList.count 47 + i = C ∧ wr.heap[g]? = some (.cells (fillL done (C + 1 - i)).toArray 9 (0, 0)) ∧ BelowD w.heap.size w wr

set_option maxRecDepth 10000 in
set_option maxHeartbeats 4000000 in
theorem gsplit_callsD (s : ByteArray) (w : World) (hs : s.size ≤ 1000000000) :
    Calls Tryd.prog 44 #[.string s, .string ⟨#[47]⟩, .int .i64 0, .int .i64 (-1)] w fun e w' => ∃ v, e = .returned v ∧ SlS w' 0 v (splitP s.data.toList) ∧ (∃ g n c, v = .slice (some ⟨g, 0, none⟩) n c) ∧ BelowD w.heap.size w w' := by
  have hcl : s.data.toList.count 47 ≤ s.size := by have := List.count_le_length (a := (47 : UInt8)) (l := s.data.toList); rwa [Array.length_toList] at this
  obtain ⟨C, hC⟩ : ∃ C, C = s.data.toList.count 47 := ⟨_, rfl⟩
  rw [← hC] at hcl
  have HC := Aside0.mk hC
  clear hC
  obtain ⟨i0, hi, hz0, hz1, hz2⟩ := info_parts info_str
  have hmin : min (C : Int) (s.size : Int) = (C : Int) := by omega
  go_enter Tryd.func44, Tryd.ntmps44
  go_wp2_with fail
  refine (count_one s 47 w).mono ?_
  rintro e w' ⟨rfl, rfl⟩
  rw [← HC.out]
  go_wp2_with (at_make; go_must (refine wpList_make_fullD _ rfl _ _ 26 rfl w.heap.size 9 i0 _ 1 Tryd.underlying26 hi hz0 hz1 _ _ _ _ (C + 1) rfl rfl rfl rfl (by rw [hz2]; omega) (by simp only [maxLen]; omega) (Nat.le_refl _) ?_); intro w1 hown hgrow hdr)
  have H0 := Aside0.mk (show SplSD w w1 w.heap.size C s s 0 from by
    refine ⟨[], rfl, rfl, HC.out.symm, ?_, belowD_none hgrow hdr⟩
    rcases hown.2 with ⟨h, _⟩ | ⟨g, cap, cur, h1, h2, h3, h4, h5, h6, h7⟩
    · cases h
    · cases h1
      rw [h3]
      congr 2
      apply Array.toList_inj.1
      have hl : cur.toList.length = C + 1 := by rw [Array.length_toList]; simpa using h6
      rw [List.take_of_length_le (by omega)] at h7
      rw [h7]
      apply List.ext_getElem
      · simp [madeCells, fillL]
      · intro i h1 h2
        simp [madeCells, fillL, Nat.mod_one, Value.cells])
  clear hown hgrow hdr
  go_loopw [0, 10] (fun t i wr => ∃ (j : Nat) (u : ByteArray), t = .string u ∧ i = .int .i64 j ∧ j ≤ C ∧ u.size ≤ 1000000000 ∧ Aside0 (SplSD w wr w.heap.size C s u j)) (fun t i wr => C - (intOf i).toNat)
  case atStart => exact ⟨0, s, rfl, rfl, Nat.zero_le _, hs, H0⟩
  case round =>
    obtain ⟨j, u, rfl, rfl, hj, hu, hs2⟩ := hrel
    clear H0
    have hu' : u.size ≤ 9223372036854775807 := by omega
    obtain ⟨done, hd1, hd2, hd3, hd4, hd5⟩ := hs2.out
    have HD := Aside0.mk (And.intro hd2 (And.intro hd3 hd5))
    by_cases hlt : j < C
    · obtain ⟨m, hm1, hm2, hm3, hm4⟩ := index_some u.data.toList 47 (by omega)
      rw [Array.length_toList] at hm2
      have HM := Aside0.mk (And.intro hm3 hm4)
      rw [show C + 1 - j = (C - j) + 1 by omega] at hd4
      have hc1 := (blk hd4).1 j
      have hf1 := (blk hd4).2 j
      rw [← hd1, fill_at, hd1] at hc1
      have HH := Aside0.mk (And.intro hd1 hd4)
      have hm5 : m < u.size := hm2
      have HI := Aside0.mk hm1
      have z1 : (j : Int) < C := by omega
      clear hd1 hd2 hd3 hd4 hd5 hs2 hm1 hm2 hm3 hm4
      go_wp2_with fail
      refine (index_one u 47 wr).mono ?_
      rintro e w' ⟨rfl, rfl⟩
      rw [HI.out]
      have H3 := Aside0.mk (show SplSD w (wr.setCell ⟨w.heap.size, j, none⟩ (.string (u.extract 0 m))) w.heap.size C s (u.extract (m + 1) u.size) (j + 1) from by
        obtain ⟨hm3, hm4⟩ := HM.out
        obtain ⟨h2, h3, h5⟩ := HD.out
        obtain ⟨h1, h4⟩ := HH.out
        have e1 : u.extract 0 m = str (u.data.toList.take m) := by rw [ext_str]; simp
        have hul : u.data.toList.length = u.size := by rw [Array.length_toList]; rfl
        have e2 : (u.extract (m + 1) u.size).data.toList = u.data.toList.drop (m + 1) := by
          rw [ext_list, List.take_of_length_le (by rw [List.length_drop]; omega)]
        have e3 : splitP u.data.toList = [u.data.toList.take m] ++ splitP (u.data.toList.drop (m + 1)) := by
          have := splitP_app (u.data.toList.take m) (u.data.toList.drop (m + 1))
          rw [← hm3] at this
          rw [this, splitP_no hm4]
        have e4 : u.data.toList.count 47 = 1 + (u.data.toList.drop (m + 1)).count 47 := by
          have := congrArg (List.count 47) hm3
          rw [List.count_append, List.count_eq_zero.2 hm4, List.count_cons_self] at this
          omega
        refine ⟨done ++ [u.data.toList.take m], by simp [h1], ?_, ?_, ?_, h5.setCell (Nat.le_refl _) _⟩
        · rw [h2, e3, e2]; simp
        · rw [e2]; omega
        · have := arr_put (i := j) (u := .string (u.extract 0 m)) h4
          rw [this, show C + 1 - (j + 1) = C - j by omega, e1]
          have h6 := fill_set done (C - j) (u.data.toList.take m)
          rw [h1] at h6
          unfold tv at h6
          rw [h6])
      have hsz : (u.extract (m + 1) u.size).size ≤ 1000000000 := by rw [ByteArray.size_extract]; omega
      clear HM HD HH
      go_wp2_with fail
      go_roundw
      case rel => exact ⟨j + 1, _, rfl, by go_num, by omega, hsz, H3⟩
      case measure => simp [intOf]; omega
    · have hjC : j = C := by omega
      subst hjC
      have e0 : u.data.toList.count 47 = 0 := by omega
      rw [show j + 1 - j = 0 + 1 by omega] at hd4
      have hc1 := (blk hd4).1 j
      have hf1 := (blk hd4).2 j
      rw [← hd1, fill_at, hd1] at hc1
      have H3 := Aside0.mk (show SlS (wr.setCell ⟨w.heap.size, j, none⟩ (.string u)) 0 (.slice (some ⟨w.heap.size, 0, none⟩) (j + 1) (j + 1)) (splitP s.data.toList) ∧ BelowD w.heap.size w (wr.setCell ⟨w.heap.size, j, none⟩ (.string u)) from by
        obtain ⟨h2, h3, h5⟩ := HD.out
        refine ⟨?_, h5.setCell (Nat.le_refl _) _⟩
        rw [h2, splitP_zero e0]
        have h4 := arr_put (i := j) (u := .string u) hd4
        have h6 := fill_set done 0 u.data.toList
        rw [hd1] at h6
        unfold tv at h6
        rw [show str u.data.toList = u by rw [← toList_eq, str_of_toList]] at h6
        rw [h6] at h4
        refine Sl.at h4 ?_ (by simp [hd1]) (Nat.le_refl _) (by omega)
        rw [List.take_of_length_le (by simp [fillL])]
        simp [fillL])
      clear hd1 hd2 hd3 hd4 hd5 hs2 HD
      go_wp2_with fail
      go_ret
      exact ⟨_, rfl, H3.out.1, ⟨_, _, _, rfl⟩, H3.out.2⟩

theorem split_callsD (s : ByteArray) (w : World) (hs : s.size ≤ 1000000000) :
    Calls Tryd.prog 34 #[.string s, .string ⟨#[47]⟩] w fun e w' => ∃ v, e = .returned v ∧ SlS w' 0 v (splitP s.data.toList) ∧ (∃ g n c, v = .slice (some ⟨g, 0, none⟩) n c) ∧ BelowD w.heap.size w w' := by
  go_enter Tryd.func34, Tryd.ntmps34
  go_wp2_with fail
  refine (gsplit_callsD s w hs).mono ?_
  rintro e w1 ⟨v, rfl, hsl, hv, hb⟩
  have H := Aside0.mk (And.intro hsl (And.intro hv hb))
  clear hsl hv hb
  go_wp2_with fail
  go_ret
  exact ⟨_, rfl, H.out⟩

/-- []byte(s). -/
theorem conv_bytesD (s : ByteArray) (w : World) : ∃ G w', (convert 9 28 (.string s)).run Tryd.prog w = .ok (.slice (some ⟨w.heap.size, 0, none⟩) s.size G) w' ∧ s.size ≤ G ∧ (∀ j, j < s.size → w'.cell? ⟨w.heap.size, j, none⟩ = some (.int .u8 ((s.data.toList.getD j 0).toNat : Int))) ∧ BelowD w.heap.size w w' := by
  refine ⟨_, _, Lib.run_convert_string_bytes w 9 28 5 s Tryd.underlying9 Tryd.underlying28 Tryd.underlying5, grownCap_ge w s.size 0 5, fun j hj => Lib.bytesWorld_cell w 5 s j hj, ?_⟩
  refine ⟨⟨?_, ?_, ?_, by rw [Lib.bytesWorld_size]; omega, fun j hj => Lib.bytesWorld_at_old w 5 s j hj⟩, ?_⟩
  · rfl
  · rfl
  · rfl
  · exact Nat.le_succ _

set_option maxRecDepth 100000 in
set_option maxHeartbeats 2000000 in
theorem part_callsD (s : ByteArray) (w : World) (hs : s.size ≤ 1000000000) : Calls Tryd.prog 35 #[.string s] w fun e w' => e = .returned (.bool (partB s.data.toList)) ∧ BelowD w.heap.size w w' := by
  obtain ⟨G, w1, hconv, hG, hcells, hb1⟩ := conv_bytesD s w
  have HC := Aside0.mk hcells
  have HB := Aside0.mk hb1
  have hlen : s.data.toList.length = s.size := by rw [Array.length_toList]; rfl
  have HLEN := Aside0.mk hlen
  clear hcells hb1 hlen
  go_enter Tryd.func35, Tryd.ntmps35
  go_wp2_with fail
  go_loopw [8] (fun i wr => ∃ k : Nat, k ≤ s.size ∧ i = .int .i64 k ∧ wr = w1 ∧ Aside0 ((s.data.toList.take k).all letB = true)) (fun i wr => s.size - (intOf i).toNat)
  case atStart => exact ⟨0, Nat.zero_le _, rfl, rfl, ⟨rfl⟩⟩
  case round =>
    obtain ⟨k, hk, rfl, rfl, hs2⟩ := hrel
    by_cases hlt : k < s.size
    · have hc := HC.out k hlt
      have HT := Aside0.mk (take_all (l := s.data.toList) (k := k) (by rw [HLEN.out]; exact hlt))
      obtain ⟨c, hcc⟩ : ∃ c, c = s.data.toList.getD k 0 := ⟨_, rfl⟩
      have hmem : c ∈ s.data.toList := by
        have h : k < s.data.toList.length := by rw [HLEN.out]; exact hlt
        rw [hcc, List.getD_eq_getElem?_getD, List.getElem?_eq_getElem h]
        exact List.getElem_mem h
      have HMEM := Aside0.mk hmem
      rw [← hcc] at hc HT
      clear hcc hmem
      go_wp2_with fail
      refine (letter_calls c _).mono ?_
      rintro e w' ⟨rfl, rfl⟩
      rcases hl : letB c with _ | _
      · have HE : Aside0 (false = partB s.data.toList) := ⟨by
          unfold partB
          have : s.data.toList.all letB = false := by
            rw [List.all_eq_false]
            exact ⟨c, HMEM.out, by rw [hl]; decide⟩
          rw [this]; rfl⟩
        clear hl
        go_wp2_with fail
        go_ret
        exact ⟨ret_b HE.out, HB.out⟩
      · have H2 : Aside0 ((s.data.toList.take (k + 1)).all letB = true) := ⟨by rw [HT.out, hs2.out, hl]; rfl⟩
        clear hl
        go_wp2_with fail
        go_roundw
        case rel => exact ⟨k + 1, by omega, by go_num, trivial, H2⟩
        case measure => simp [intOf]; omega
    · have HA : Aside0 (s.data.toList.all letB = true) := ⟨by
        have := hs2.out
        rwa [List.take_of_length_le (by rw [HLEN.out]; omega)] at this⟩
      have HP : Aside0 (partB s.data.toList = (decide (1 ≤ s.size) && (decide (s.size ≤ 20) && (s.data.toList != [46] && s.data.toList != [46, 46])))) := ⟨by
        unfold partB; rw [HA.out, HLEN.out]; rfl⟩
      clear hs2
      by_cases h1 : 1 ≤ s.size
      · have d1 : decide (1 ≤ s.size) = true := decide_eq_true h1
        by_cases h2 : s.size ≤ 20
        · have d2 : decide (s.size ≤ 20) = true := decide_eq_true h2
          rcases h3 : (s.toList == [46]) with _ | _
          · have HE : Aside0 ((s.toList != [46, 46]) = partB s.data.toList) := ⟨by rw [HP.out, ← toList_eq, d1, d2, bne, bne, h3]; rfl⟩
            rcases h4 : (s.toList == [46, 46]) with _ | _
            · have HF : Aside0 (true = partB s.data.toList) := ⟨by rw [← HE.out, bne, h4]; rfl⟩
              go_wp2_with fail
              go_ret
              exact ⟨ret_b HF.out, HB.out⟩
            · have HF : Aside0 (false = partB s.data.toList) := ⟨by rw [← HE.out, bne, h4]; rfl⟩
              go_wp2_with fail
              go_ret
              exact ⟨ret_b HF.out, HB.out⟩
          · have HE : Aside0 (false = partB s.data.toList) := ⟨by rw [HP.out, ← toList_eq, d1, d2, bne, bne, h3]; rfl⟩
            go_wp2_with fail
            go_ret
            exact ⟨ret_b HE.out, HB.out⟩
        · have d2 : decide (s.size ≤ 20) = false := decide_eq_false h2
          have HE : Aside0 (false = partB s.data.toList) := ⟨by rw [HP.out, d1, d2]; rfl⟩
          go_wp2_with fail
          go_ret
          exact ⟨ret_b HE.out, HB.out⟩
      · have d1 : decide (1 ≤ s.size) = false := decide_eq_false h1
        have HE : Aside0 (false = partB s.data.toList) := ⟨by rw [HP.out, d1]; rfl⟩
        go_wp2_with fail
        go_ret
        exact ⟨ret_b HE.out, HB.out⟩

set_option maxHeartbeats 2000000 in
theorem valid_callsD (s : ByteArray) (w : World) (hs : s.size ≤ 1000000000) : Calls Tryd.prog 25 #[.string s] w fun e w' => e = .returned (.bool (validB s.data.toList)) ∧ BelowD w.heap.size w w' := by
  by_cases h1 : 60 < s.size
  · have HE : Aside0 (false = validB s.data.toList) := ⟨by unfold validB; rw [decide_eq_false (by rw [len_data]; omega)]; rfl⟩
    have d1 : decide ((60 : Int) < s.size) = true := decide_eq_true (by omega)
    have d2 : decide (60 < s.size) = true := decide_eq_true h1
    go_enter Tryd.func25, Tryd.ntmps25
    go_wp2_with fail
    go_ret
    exact ⟨ret_b HE.out, BelowD.refl _ _⟩
  · have HE : Aside0 (validB s.data.toList = (splitP s.data.toList).all partB) := ⟨by unfold validB; rw [decide_eq_true (by rw [len_data]; omega)]; rfl⟩
    have d1 : decide ((60 : Int) < s.size) = false := decide_eq_false (by omega)
    have d2 : decide (60 < s.size) = false := decide_eq_false h1
    go_enter Tryd.func25, Tryd.ntmps25
    go_wp2_with fail
    refine (split_callsD s w hs).mono ?_
    rintro e w1 ⟨v, rfl, hsl, _, hb1⟩
    have HSL := Aside0.mk hsl
    have HB := Aside0.mk hb1
    have HSZ := Aside0.mk (split_size s.data.toList)
    obtain ⟨L, hL⟩ : ∃ L, L = splitP s.data.toList := ⟨_, rfl⟩
    rw [← hL] at HSL HE HSZ
    obtain ⟨A, c, rfl, hc, hm, _⟩ := HSL.out
    clear hsl hb1 hL
    go_wp2_with fail
    go_loopw [11] (fun i wr => ∃ k : Nat, k ≤ L.length ∧ i = .int .i64 k ∧ Aside0 ((L.take k).all partB = true ∧ BelowD w1.heap.size w1 wr)) (fun i wr => L.length - (intOf i).toNat)
    case atStart => exact ⟨0, Nat.zero_le _, rfl, ⟨rfl, BelowD.refl _ _⟩⟩
    case round =>
      obtain ⟨k, hk, rfl, hs2⟩ := hrel
      by_cases hlt : k < L.length
      · obtain ⟨ad, c2, he, hcell⟩ := HSL.out.at k hlt
        cases he
        have hcell := cell_keep hs2.out.2.b hcell
        have HT := Aside0.mk (take_allP hlt)
        have hmem : L.getD k [] ∈ L := by rw [List.getD_eq_getElem?_getD, List.getElem?_eq_getElem hlt]; exact List.getElem_mem hlt
        have HMEM := Aside0.mk hmem
        have HPS := Aside0.mk (HSZ.out _ hmem)
        obtain ⟨p, hp⟩ : ∃ p, p = L.getD k [] := ⟨_, rfl⟩
        rw [← hp] at hcell HT HMEM HPS
        clear hmem hp
        go_wp2_with fail
        refine (part_callsD (str p) wr (by have := HPS.out; rw [len_data] at this; rw [str_size]; omega)).mono ?_
        rintro e w2 ⟨rfl, hb2⟩
        have HB2 := Aside0.mk (belowD_step hs2.out.2 hb2)
        have HE2 : Aside0 (partB (str p).data.toList = partB p) := ⟨by rw [str_data]⟩
        rw [HE2.out]
        rcases hp2 : partB p with _ | _
        · have HF : Aside0 (false = validB s.data.toList) := ⟨by
            rw [HE.out, eq_comm, List.all_eq_false]
            exact ⟨p, HMEM.out, by rw [hp2]; decide⟩⟩
          clear hp2 hb2
          go_wp2_with fail
          go_ret
          exact ⟨ret_b HF.out, belowD_step HB.out HB2.out⟩
        · have H3 : Aside0 ((L.take (k + 1)).all partB = true) := ⟨by rw [HT.out, hs2.out.1, hp2]; rfl⟩
          clear hp2 hb2
          go_wp2_with fail
          go_roundw
          case rel => exact ⟨k + 1, by omega, by go_num, ⟨H3.out, HB2.out⟩⟩
          case measure => simp [intOf]; omega
      · have HF : Aside0 (true = validB s.data.toList) := ⟨by
          have := hs2.out.1
          rw [List.take_of_length_le (by omega)] at this
          rw [HE.out, this]⟩
        have HB3 := Aside0.mk (belowD_step HB.out hs2.out.2)
        clear hs2
        go_wp2_with fail
        go_ret
        exact ⟨ret_b HF.out, HB3.out⟩

set_option maxHeartbeats 1000000 in
theorem parts_noD (s : ByteArray) (w : World) (hs : s.size ≤ 1000000000) (hv : validB s.data.toList = false) : Calls Tryd.prog 41 #[.string s] w fun e w' => e = .returned (.slice none 0 0) ∧ BelowD w.heap.size w w' := by
  have HV := Aside0.mk hv
  clear hv
  go_enter Tryd.func41, Tryd.ntmps41
  go_wp2_with fail
  refine (valid_callsD s w hs).mono ?_
  rintro e w1 ⟨rfl, hb⟩
  rw [HV.out]
  have HB := Aside0.mk hb
  clear hb
  go_wp2_with fail
  go_ret
  exact ⟨rfl, HB.out⟩

set_option maxHeartbeats 1000000 in
theorem parts_yesD (s : ByteArray) (w : World) (hs : s.size ≤ 1000000000) (hv : validB s.data.toList = true) : Calls Tryd.prog 41 #[.string s] w fun e w' => ∃ v, e = .returned v ∧ SlS w' 0 v (splitP s.data.toList) ∧ (∃ g n c, v = .slice (some ⟨g, 0, none⟩) n c) ∧ BelowD w.heap.size w w' := by
  have HV := Aside0.mk hv
  clear hv
  go_enter Tryd.func41, Tryd.ntmps41
  go_wp2_with fail
  refine (valid_callsD s w hs).mono ?_
  rintro e w1 ⟨rfl, hb⟩
  rw [HV.out]
  have HB := Aside0.mk hb
  clear hb
  go_wp2_with fail
  refine (split_callsD s w1 hs).mono ?_
  rintro e w2 ⟨v, rfl, hsl, hv, hb2⟩
  have H := Aside0.mk (And.intro hsl (And.intro hv (belowD_step HB.out hb2)))
  clear hsl hv hb2
  go_wp2_with fail
  go_ret
  exact ⟨_, rfl, H.out.1, H.out.2⟩

set_option maxHeartbeats 2000000 in
theorem compare_yesD (a b : ByteArray) (w : World) (ha : a.size ≤ 1000000000) (hb : b.size ≤ 1000000000) (hva : validB a.data.toList = true) (hvb : validB b.data.toList = true) :
    Calls Tryd.prog 32 #[.string a, .string b] w fun e w' => e = .returned (.int .i64 (cmpL a.data.toList b.data.toList)) ∧ BelowD w.heap.size w w' := by
  have HE : Aside0 (cmpL a.data.toList b.data.toList = cmpP (splitP a.data.toList) (splitP b.data.toList)) := ⟨by rw [cmpL, hva, hvb]⟩
  have HVA := Aside0.mk hva
  have HVB := Aside0.mk hvb
  clear hva hvb
  go_enter Tryd.func32, Tryd.ntmps32
  go_wp2_with fail
  go_step3
  go_wp2_with fail
  refine (parts_yesD a w ha HVA.out).mono ?_
  rintro e w1 ⟨v1, rfl, hs1, ⟨g1, n1, c1, hv1⟩, hb1⟩
  have HB1 := Aside0.mk hb1
  obtain ⟨A, hA⟩ : ∃ A, A = splitP a.data.toList := ⟨_, rfl⟩
  rw [← hA] at hs1 HE
  subst hv1
  have HS1 := Aside0.mk hs1
  clear hb1 hs1 hA
  go_wp2_with fail
  refine (parts_yesD b w1 hb HVB.out).mono ?_
  rintro e w2 ⟨v2, rfl, hs2, ⟨g2, n2, c2, hv2⟩, hb2⟩
  have HB2 := Aside0.mk (belowD_step HB1.out hb2)
  obtain ⟨B, hB⟩ : ∃ B, B = splitP b.data.toList := ⟨_, rfl⟩
  rw [← hB] at hs2 HE
  subst hv2
  have HS1 := Aside0.mk (Sl.below HS1.out hb2.b)
  have HS2 := Aside0.mk hs2
  clear hb2 hs2 hB
  obtain ⟨A1, c1', he1, hc1, hm1, _⟩ := HS1.out
  cases he1
  obtain ⟨A2, c2', he2, hc2, hm2, _⟩ := HS2.out
  cases he2
  have q1 := fun w => Lib.run_eql_slice_nil (P := Tryd.prog) w 26 9 (some ⟨g1, 0, none⟩) A.length c1 0 0 Tryd.underlying26
  have q2 := fun w => Lib.run_eql_slice_nil (P := Tryd.prog) w 26 9 (some ⟨g2, 0, none⟩) B.length c2 0 0 Tryd.underlying26
  obtain ⟨o, ho⟩ : ∃ o : Int, o = if (A.length : Int) < (B.length : Int) then -1 else if (B.length : Int) < (A.length : Int) then 1 else 0 := ⟨_, rfl⟩
  have HO := Aside0.mk ho
  obtain ⟨m, hm⟩ : ∃ m, m = min A.length B.length := ⟨_, rfl⟩
  have hmA : m ≤ A.length := by omega
  have hmB : m ≤ B.length := by omega
  have hmin : min (A.length : Int) (B.length : Int) = (m : Int) := by omega
  have HM := Aside0.mk hm
  clear ho hm
  go_wp2_with fail
  refine (cmpi_calls _ _ _).mono ?_
  rintro e w' ⟨rfl, rfl⟩
  rw [← HO.out]
  go_wp2_with fail
  go_step3
  go_wp2_with fail
  go_loopw [7, 40] (fun out i wr => ∃ k : Nat, k ≤ m ∧ i = .int .i64 k ∧ out = .int .i64 o ∧ Aside0 (AlikeTo A B k ∧ BelowD w2.heap.size w2 wr)) (fun out i wr => m - (intOf i).toNat)
  case atStart => exact ⟨0, Nat.zero_le _, rfl, rfl, ⟨alike_zero _ _, BelowD.refl _ _⟩⟩
  case round =>
    obtain ⟨k, hk, rfl, rfl, hs⟩ := hrel
    by_cases hlt : k < m
    · obtain ⟨ad1, d1', he1, hcell1⟩ := (show SlS w2 0 _ A from HS1.out).at k (by omega)
      cases he1
      obtain ⟨ad2, d2', he2, hcell2⟩ := HS2.out.at k (by omega)
      cases he2
      have hcell1 := cell_keep hs.out.2.b hcell1
      have hcell2 := cell_keep hs.out.2.b hcell2
      rw [at_zero] at hcell1 hcell2
      have HX := Aside0.mk (alike_step hs.out.1 (show k < A.length by omega) (show k < B.length by omega))
      have HY := Aside0.mk (alike_succ hs.out.1 (show k < A.length by omega) (show k < B.length by omega))
      obtain ⟨x, hx⟩ : ∃ x, x = A.getD k [] := ⟨_, rfl⟩
      obtain ⟨y, hy⟩ : ∃ y, y = B.getD k [] := ⟨_, rfl⟩
      rw [← hx] at hcell1 HX HY
      rw [← hy] at hcell2 HX HY
      clear hx hy
      obtain ⟨c, hc⟩ : ∃ c, c = cmpS x y := ⟨_, rfl⟩
      rw [← hc] at HX HY
      have HC := Aside0.mk hc
      clear hc
      have z1 : (0 : Int) ≤ (k : Int) := by omega
      have z2 : (k : Int) < A.length := by omega
      have z3 : (k : Int) < B.length := by omega
      have HSAME : Aside0 (∀ w, Calls Tryd.prog 42 #[.string (str x), .string (str y)] w fun e w' => e = .returned (.int .i64 c) ∧ w' = w) := ⟨fun w => by rw [HC.out]; exact cmps_same x y w⟩
      by_cases hc0 : c = 0
      · have H3 := Aside0.mk (HY.out hc0)
        have e1 : ((c : Int) != 0) = false := by rw [hc0]; rfl
        clear hc0 HX HY
        go_wp2_with fail
        go_quiet ((go_at_call 42; exact Calls.quiet_of_same (HSAME.out _)))
        go_wp2_with fail
        go_roundw
        case rel => exact ⟨k + 1, by omega, by go_num, rfl, ⟨H3.out, by first | exact hs.out.2.drew | exact belowD_drewN hs.out.2 _⟩⟩
        case measure => simp [intOf]; omega
      · have H3 : Aside0 (cmpL a.data.toList b.data.toList = c) := ⟨by rw [HE.out, HX.out, if_neg hc0]⟩
        have e1 : ((c : Int) != 0) = true := by rw [bne_iff_ne]; exact hc0
        clear hc0 HX HY
        go_wp2_with fail
        go_quiet ((go_at_call 42; exact Calls.quiet_of_same (HSAME.out _)))
        go_wp2_with fail
        rw [Exit.noGoto_ret]
        go_ret
        exact ⟨ret_i H3.out.symm, belowD_step HB2.out (by first | exact hs.out.2.drew | exact belowD_drewN hs.out.2 _)⟩
    · have H3 : Aside0 (cmpL a.data.toList b.data.toList = o) := ⟨by
        rw [HE.out, HO.out]
        have h1 := HM.out
        exact alike_end hs.out.1 (by omega) (by omega) (by omega)⟩
      go_wp2_with fail
      rw [Exit.noGoto_ret]
      go_ret
      exact ⟨ret_i H3.out.symm, belowD_step HB2.out hs.out.2⟩

set_option maxHeartbeats 2000000 in
theorem compare_noD (a b : ByteArray) (w : World) (ha : a.size ≤ 1000000000) (hb : b.size ≤ 1000000000) (hv : ¬ (validB a.data.toList = true ∧ validB b.data.toList = true)) :
    Calls Tryd.prog 32 #[.string a, .string b] w fun e w' => e = .returned (.int .i64 (cmpL a.data.toList b.data.toList)) ∧ BelowD w.heap.size w w' := by
  have q0 := fun w => Lib.run_eql_slice_nil (P := Tryd.prog) w 26 9 none 0 0 0 0 Tryd.underlying26
  rcases hva : validB a.data.toList with _ | _
  · rcases hvb : validB b.data.toList with _ | _
    · have HE : Aside0 (cmpL a.data.toList b.data.toList = cmpS a.data.toList b.data.toList) := ⟨by rw [cmpL, hva, hvb]⟩
      have HVA := Aside0.mk hva
      have HVB := Aside0.mk hvb
      clear hva hvb hv
      go_enter Tryd.func32, Tryd.ntmps32
      go_wp2_with fail
      go_step3
      go_wp2_with fail
      refine (parts_noD a w ha HVA.out).mono ?_
      rintro e w1 ⟨rfl, hb1⟩
      have HB1 := Aside0.mk hb1
      clear hb1
      go_wp2_with fail
      refine (parts_noD b w1 hb HVB.out).mono ?_
      rintro e w2 ⟨rfl, hb2⟩
      have HB2 := Aside0.mk (belowD_step HB1.out hb2)
      clear hb2
      go_wp2_with fail
      refine (cmps_calls a b w2).mono ?_
      rintro e w' ⟨rfl, rfl⟩
      obtain ⟨o, ho⟩ : ∃ o : Int, o = if ltS a.data.toList b.data.toList = true then -1 else if ltS b.data.toList a.data.toList = true then 1 else 0 := ⟨_, rfl⟩
      rw [← ho]
      have HO : Aside0 (o = cmpS a.data.toList b.data.toList) := ⟨ho⟩
      clear ho
      go_wp2_with fail
      rw [Exit.noGoto_ret]
      go_ret
      exact ⟨ret_i (by rw [HE.out, HO.out]), HB2.out⟩
    · have HE : Aside0 (cmpL a.data.toList b.data.toList = 1) := ⟨by rw [cmpL, hva, hvb]⟩
      have HVA := Aside0.mk hva
      have HVB := Aside0.mk hvb
      clear hva hvb hv
      go_enter Tryd.func32, Tryd.ntmps32
      go_wp2_with fail
      go_step3
      go_wp2_with fail
      refine (parts_noD a w ha HVA.out).mono ?_
      rintro e w1 ⟨rfl, hb1⟩
      have HB1 := Aside0.mk hb1
      clear hb1
      go_wp2_with fail
      refine (parts_yesD b w1 hb HVB.out).mono ?_
      rintro e w2 ⟨v2, rfl, _, ⟨g2, n2, c2, hv2⟩, hb2⟩
      subst hv2
      have HB2 := Aside0.mk (belowD_step HB1.out hb2)
      clear hb2
      have q2 := fun w => Lib.run_eql_slice_nil (P := Tryd.prog) w 26 9 (some ⟨g2, 0, none⟩) n2 c2 0 0 Tryd.underlying26
      go_wp2_with fail
      rw [Exit.noGoto_ret]
      go_ret
      exact ⟨ret_i HE.out.symm, HB2.out⟩
  · rcases hvb : validB b.data.toList with _ | _
    · have HE : Aside0 (cmpL a.data.toList b.data.toList = -1) := ⟨by rw [cmpL, hva, hvb]⟩
      have HVA := Aside0.mk hva
      have HVB := Aside0.mk hvb
      clear hva hvb hv
      go_enter Tryd.func32, Tryd.ntmps32
      go_wp2_with fail
      go_step3
      go_wp2_with fail
      refine (parts_yesD a w ha HVA.out).mono ?_
      rintro e w1 ⟨v1, rfl, _, ⟨g1, n1, c1, hv1⟩, hb1⟩
      subst hv1
      have HB1 := Aside0.mk hb1
      clear hb1
      go_wp2_with fail
      refine (parts_noD b w1 hb HVB.out).mono ?_
      rintro e w2 ⟨rfl, hb2⟩
      have HB2 := Aside0.mk (belowD_step HB1.out hb2)
      clear hb2
      have q1 := fun w => Lib.run_eql_slice_nil (P := Tryd.prog) w 26 9 (some ⟨g1, 0, none⟩) n1 c1 0 0 Tryd.underlying26
      go_wp2_with fail
      rw [Exit.noGoto_ret]
      go_ret
      exact ⟨ret_i HE.out.symm, HB2.out⟩
    · exact absurd ⟨hva, hvb⟩ hv

theorem compare_callsD (a b : ByteArray) (w : World) (ha : a.size ≤ 1000000000) (hb : b.size ≤ 1000000000) :
    Calls Tryd.prog 32 #[.string a, .string b] w fun e w' => e = .returned (.int .i64 (cmpL a.data.toList b.data.toList)) ∧ BelowD w.heap.size w w' := by
  by_cases hv : validB a.data.toList = true ∧ validB b.data.toList = true
  · exact compare_yesD a b w ha hb hv.1 hv.2
  · exact compare_noD a b w ha hb hv
end Go.Proofs.YtoigmepkhiknbaaDoor
