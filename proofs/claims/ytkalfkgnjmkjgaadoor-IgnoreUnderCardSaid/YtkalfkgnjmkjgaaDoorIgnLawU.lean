/-
  What stands under something that is ignored is ignored, whatever rules say of it; the last rule that matches counts; nothing ignores nothing. No condition: for every input.
-/
import Derived.Test.YtkalfkgnjmkjgaaDoorIgnSays
import Derived.Test.YtkalfkgnjmkjgaaDoorIgnLawR
import Derived.Test.YtkalfkgnjmkjgaaDoorIgnLawL
namespace Go.Proofs.YtkalfkgnjmkjgaaDoor
open Go.RowKit Go.Joins
set_option linter.unusedVariables false
set_option linter.unusedSimpArgs false

set_option maxRecDepth 4000 in
set_option maxHeartbeats 16000000 in
theorem under12 {b0 : Nat} {v : Value} {L : List (List UInt8)} (p n : ByteArray) (dir : Bool) (w : World) (hv : SlS w b0 v L) (hl2 : ∀ S ∈ L, S.length ≤ 9223372036854775807) (hp : p.size ≤ 9223372036854775807) (hn : n.size ≤ 9223372036854775807) :
    Calls Tryd.prog 7 #[v, .string p, .string n, .bool dir] w fun e w' => e = .returned (.bool true) ∧ Below w.heap.size w w' := by
  have HV := Aside0.mk hv
  have HL2 := Aside0.mk hl2
  obtain ⟨A, c, rfl, hc, hm, _⟩ := hv
  clear hl2
  go_enter Tryd.func7, Tryd.ntmps7
  go_wp2_with fail
  refine (words_calls 2000 w HV.out HL2.out (by decide)).mono ?_
  rintro e w1 ⟨m, rfl, hm2, hb1⟩
  have HN := Aside0.mk hm2
  have HB1 := Aside0.mk hb1
  clear hm2 hb1
  by_cases hm3 : 2000 < m
  · have d1 : decide (2000 < m) = true := decide_eq_true hm3
    go_wp2_with (go_at_call 8; refine (awake12_calls _).mono ?_; rintro e w2 ⟨rfl, hb2⟩; have HB2 := Aside0.mk (below_step HB1.out hb2); clear hb2)
    go_ret
    exact ⟨rfl, HB2.out⟩
  · have d1 : decide (2000 < m) = false := decide_eq_false hm3
    by_cases hp2 : 100 < p.size
    · have d2 : decide ((100 : Int) < p.size) = true := decide_eq_true (by omega)
      go_wp2_with (go_at_call 8; refine (awake12_calls _).mono ?_; rintro e w2 ⟨rfl, hb2⟩; have HB2 := Aside0.mk (below_step HB1.out hb2); clear hb2)
      go_ret
      exact ⟨rfl, HB2.out⟩
    · have d2 : decide ((100 : Int) < p.size) = false := decide_eq_false (by omega)
      by_cases hn2 : 100 < n.size
      · have d3 : decide ((100 : Int) < n.size) = true := decide_eq_true (by omega)
        go_wp2_with (go_at_call 8; refine (awake12_calls _).mono ?_; rintro e w2 ⟨rfl, hb2⟩; have HB2 := Aside0.mk (below_step HB1.out hb2); clear hb2)
        go_ret
        exact ⟨rfl, HB2.out⟩
      · have d3 : decide ((100 : Int) < n.size) = false := decide_eq_false (by omega)
        obtain ⟨hLl, hLs⟩ := HN.out (by omega)
        have HLS : Aside0 (∀ S ∈ L, S.length ≤ 1000000000) := ⟨fun S hS => by have := hLs S hS; omega⟩
        clear hLs
        go_wp2_with fail
        refine (ignored_nil p dir w1).mono ?_
        rintro e w2 ⟨rfl, rfl⟩
        go_wp2_with fail
        refine (lines_nil w1).mono ?_
        rintro e w2 ⟨rfl, rfl⟩
        go_wp2_with fail
        refine (new_calls w1 (HV.out.below HB1.out) (by omega) HLS.out).mono ?_
        intro e w2 hnew
        by_cases h50 : 50 < L.length
        · obtain ⟨rfl, hb2⟩ := new_big hnew h50
          have HB2 := Aside0.mk (below_step HB1.out hb2)
          clear hnew hb2
          go_wp2_with (go_at_call 8; refine (awake12_calls _).mono ?_; rintro e w4 ⟨rfl, hb4⟩; have HB4 := Aside0.mk (below_step HB2.out hb4); clear hb4)
          go_ret
          exact ⟨rfl, HB4.out⟩
        · have h51 : L.length ≤ 50 := by omega
          obtain ⟨ok, hok⟩ : ∃ ok, allOk L = ok := ⟨_, rfl⟩
          cases ok with
          | false =>
            obtain ⟨rfl, hb2⟩ := new_bad hnew h51 hok
            have HB2 := Aside0.mk (below_step HB1.out hb2)
            clear hnew hb2 hok
            go_wp2_with (go_at_call 8; refine (awake12_calls _).mono ?_; rintro e w4 ⟨rfl, hb4⟩; have HB4 := Aside0.mk (below_step HB2.out hb4); clear hb4)
            go_ret
            exact ⟨rfl, HB4.out⟩
          | true =>
            obtain ⟨g, rfl, hI, hb2⟩ := new_ok hnew h51 hok
            have HB2 := Aside0.mk (below_step HB1.out hb2)
            obtain ⟨R, hR⟩ : ∃ R, L.map rlOf = R := ⟨_, rfl⟩
            rw [hR] at hI
            have HI2 := Aside0.mk hI
            have HRL : Aside0 (R.length ≤ 1000000000) := ⟨by rw [← hR, List.length_map]; omega⟩
            clear hnew hb2 hok hI hR
            go_wp2_with fail
            refine (rjoin_calls p n w2 (by omega)).mono ?_
            rintro e w3 ⟨rfl, hb3⟩
            have HB3 := Aside0.mk (below_step HB2.out hb3)
            have HI3 := Aside0.mk (HI2.out.below hb3)
            clear hb3
            obtain ⟨s, hs⟩ : ∃ s, s = str (joinL p.data.toList n.data.toList) := ⟨_, rfl⟩
            rw [← hs]
            have hsl : s.data.toList = joinL p.data.toList n.data.toList := by rw [hs, str_data]
            clear hs
            by_cases hj : joinL p.data.toList n.data.toList = []
            · have hs2 : s.toList = [] := by rw [toList_eq, hsl]; exact hj
              have d4 : s.toList.isEmpty = true := by rw [hs2]; rfl
              clear hsl hs2 hj
              go_wp2_with (go_at_call 8; refine (awake12_calls _).mono ?_; rintro e w4 ⟨rfl, hb4⟩; have HB4 := Aside0.mk (below_step HB3.out hb4); clear hb4)
              go_ret
              exact ⟨rfl, HB4.out⟩
            · have hs2 : s.toList ≠ [] := by rw [toList_eq, hsl]; exact hj
              have d4 : s.toList.isEmpty = false := by rw [List.isEmpty_eq_false_iff]; exact hs2
              by_cases hpe : p.data.toList = []
              · have hp3 : p.toList = [] := by rw [toList_eq]; exact hpe
                have d5 : p.toList.isEmpty = true := by rw [hp3]; rfl
                clear hsl hs2 hj hpe hp3
                go_wp2_with (go_at_call 8; refine (awake12_calls _).mono ?_; rintro e w4 ⟨rfl, hb4⟩; have HB4 := Aside0.mk (below_step HB3.out hb4); clear hb4)
                go_ret
                exact ⟨rfl, HB4.out⟩
              · have hp3 : p.toList ≠ [] := by rw [toList_eq]; exact hpe
                have d5 : p.toList.isEmpty = false := by rw [List.isEmpty_eq_false_iff]; exact hp3
                have hvp : validB p.data.toList = true := join_valid hpe hj
                have hssz : s.size ≤ 1000 := by
                  rw [← len_data, hsl]
                  unfold joinL
                  split
                  · rename_i h; have := valid_len h; omega
                  · simp
                obtain ⟨o1, ho1⟩ : ∃ o1, ignL R p.data.toList true = o1 := ⟨_, rfl⟩
                have HO1 := Aside0.mk ho1
                obtain ⟨o2, ho2⟩ : ∃ o2, ignL R s.data.toList dir = o2 := ⟨_, rfl⟩
                have HO2 := Aside0.mk ho2
                have HUN : o1 = true → o2 = true := fun h => by rw [← ho2, hsl]; exact under_law (ho1.trans h) hpe hj
                have hnp := name_part hvp
                obtain ⟨x, hx⟩ : ∃ x, x = str (nameL p.data.toList) := ⟨_, rfl⟩
                have hxl : x.data.toList = nameL p.data.toList := by rw [hx, str_data]
                have HNM : Aside0 (∀ W, Calls Tryd.prog 22 #[.string p] W fun e w' => e = .returned (.string x) ∧ Below W.heap.size W w') := ⟨fun W => by rw [hx]; exact rname_calls p W (by omega)⟩
                have hx20 := (part_let hnp).2.2
                have hxs : x.size ≤ 20 := by rw [← len_data, hxl]; exact hx20
                obtain ⟨k1, k2⟩ := all_rl hnp
                have HNW : Aside0 (∀ W : World, Calls Tryd.prog 13 #[.slice (some ⟨W.heap.size, 0, none⟩) 2 2] (W.alloc (.cells #[.string ⟨#[42, 42]⟩, .string ((⟨#[33]⟩ : ByteArray) ++ x)] 9 (0, 0))) fun e w' => ∃ g, e = .returned (.tuple #[.pointer (some ⟨g, 0, none⟩), .int .i64 0]) ∧ IsR w' g (W.heap.size + 1) [[42, 42], [33] ++ nameL p.data.toList] [rlOf [42, 42], ⟨nameL p.data.toList, true, false, false⟩] ∧ Below W.heap.size W w') := ⟨fun W => by
                  have h := new_two (X := ⟨#[42, 42]⟩) (Y := (⟨#[33]⟩ : ByteArray) ++ x) (x := [42, 42]) (y := [33] ++ nameL p.data.toList) W rfl (by rw [data_app, hxl]) (by decide) (by simp; omega) k1
                  rw [show [[42, 42], [33] ++ nameL p.data.toList].map rlOf = [rlOf [42, 42], ⟨nameL p.data.toList, true, false, false⟩] by show [_, _] = _; rw [k2]] at h
                  exact h⟩
                obtain ⟨u, hu⟩ : ∃ u, u = str (parentL p.data.toList) := ⟨_, rfl⟩
                have hul : u.data.toList = parentL p.data.toList := by rw [hu, str_data]
                have HU : Aside0 (∀ W, Calls Tryd.prog 12 #[.string p] W fun e w' => e = .returned (.string u) ∧ Below W.heap.size W w') := ⟨fun W => by rw [hu]; exact rparent_calls p W (by omega)⟩
                have hpd : (u.toList.isEmpty = true ∧ ignL [rlOf [42, 42], ⟨nameL p.data.toList, true, false, false⟩] p.data.toList dir = false) ∨ u.toList.isEmpty = false := by
                  by_cases h : parentL p.data.toList = []
                  · exact .inl ⟨by rw [toList_eq, hul, h]; rfl, all_one hvp h dir⟩
                  · refine .inr ?_
                    rw [List.isEmpty_eq_false_iff, toList_eq, hul]; exact h
                have HIG : Aside0 (∀ (R : List Rl) (L : List (List UInt8)) (W : World) (g b : Nat) (dir : Bool), R.length ≤ 1000000000 → IsR W g b L R → Calls Tryd.prog 14 #[.pointer (some ⟨g, 0, none⟩), .string p, .bool dir] W fun e w' => e = .returned (.bool (ignL R p.data.toList dir)) ∧ Below W.heap.size W w') := ⟨fun R L W g b dir hR hI => ignored_calls p dir W hI (by omega) hR⟩
                have HIS : Aside0 (∀ (R : List Rl) (L : List (List UInt8)) (W : World) (g b : Nat), R.length ≤ 1000000000 → IsR W g b L R → Calls Tryd.prog 14 #[.pointer (some ⟨g, 0, none⟩), .string s, .bool dir] W fun e w' => e = .returned (.bool (ignL R s.data.toList dir)) ∧ Below W.heap.size W w') := ⟨fun R L W g b hR hI => ignored_calls s dir W hI (by omega) hR⟩
                clear hsl hs2 hj hpe hp3 hvp ho1 ho2 hnp hx hxl hx20 k1 k2 hu hul
                go_wp2_with fail
                refine (HIG.out _ _ w3 g _ true HRL.out HI3.out).mono ?_
                rintro e w4 ⟨rfl, hb4⟩
                rw [HO1.out]
                have HB4 := Aside0.mk (below_step HB3.out hb4)
                have HI4 := Aside0.mk (HI3.out.below hb4)
                clear hb4
                cases o1 with
                | true =>
                  obtain rfl : o2 = true := HUN rfl
                  clear HUN
                  go_wp2_with fail
                  refine (HIS.out _ _ w4 g _ HRL.out HI4.out).mono ?_
                  rintro e w5 ⟨rfl, hb5⟩
                  rw [HO2.out]
                  have HBX := Aside0.mk (below_step HB4.out hb5)
                  clear hb5
                  rcases hpd with ⟨d6, hall⟩ | d6
                  · have HALL := Aside0.mk hall
                    clear hall
                    go_wp2_with fail
                    refine (HNM.out _).mono ?_
                    rintro e v1 ⟨rfl, hb1⟩
                    have HC1 := Aside0.mk (below_step HBX.out hb1)
                    clear hb1
                    go_wp2_with fail
                    refine (HNW.out v1).mono ?_
                    rintro e v2 ⟨g2, rfl, hI2, hb2⟩
                    have HC2 := Aside0.mk (below_step HC1.out hb2)
                    have HJ2 := Aside0.mk hI2
                    clear hb2 hI2
                    go_wp2_with fail
                    refine (HU.out v2).mono ?_
                    rintro e v3 ⟨rfl, hb3⟩
                    have HC3 := Aside0.mk (below_step HC2.out hb3)
                    have HJ3 := Aside0.mk (HJ2.out.below hb3)
                    clear hb3
                    go_wp2_with fail
                    refine (HIG.out _ _ v3 g2 _ dir (by simp) HJ3.out).mono ?_
                    rintro e v4 ⟨rfl, hb4⟩
                    rw [HALL.out]
                    have HC4 := Aside0.mk (below_step HC3.out hb4)
                    clear hb4
                    go_wp2_with (go_at_call 8; refine (awake12_calls _).mono ?_; rintro e v5 ⟨rfl, hb5⟩; have HC5 := Aside0.mk (below_step HC4.out hb5); clear hb5)
                    go_ret
                    exact ⟨rfl, HC5.out⟩
                  · go_wp2_with fail
                    refine (HNM.out _).mono ?_
                    rintro e v1 ⟨rfl, hb1⟩
                    have HC1 := Aside0.mk (below_step HBX.out hb1)
                    clear hb1
                    go_wp2_with fail
                    refine (HNW.out v1).mono ?_
                    rintro e v2 ⟨g2, rfl, hI2, hb2⟩
                    have HC2 := Aside0.mk (below_step HC1.out hb2)
                    have HJ2 := Aside0.mk hI2
                    clear hb2 hI2
                    go_wp2_with fail
                    refine (HU.out v2).mono ?_
                    rintro e v3 ⟨rfl, hb3⟩
                    have HC3 := Aside0.mk (below_step HC2.out hb3)
                    have HJ3 := Aside0.mk (HJ2.out.below hb3)
                    clear hb3
                    go_wp2_with (go_at_call 8; refine (awake12_calls _).mono ?_; rintro e v5 ⟨rfl, hb5⟩; have HC5 := Aside0.mk (below_step HC3.out hb5); clear hb5)
                    go_ret
                    exact ⟨rfl, HC5.out⟩
                | false =>
                  clear HUN
                  have HBX := HB4
                  rcases hpd with ⟨d6, hall⟩ | d6
                  · have HALL := Aside0.mk hall
                    clear hall
                    go_wp2_with fail
                    refine (HNM.out _).mono ?_
                    rintro e v1 ⟨rfl, hb1⟩
                    have HC1 := Aside0.mk (below_step HBX.out hb1)
                    clear hb1
                    go_wp2_with fail
                    refine (HNW.out v1).mono ?_
                    rintro e v2 ⟨g2, rfl, hI2, hb2⟩
                    have HC2 := Aside0.mk (below_step HC1.out hb2)
                    have HJ2 := Aside0.mk hI2
                    clear hb2 hI2
                    go_wp2_with fail
                    refine (HU.out v2).mono ?_
                    rintro e v3 ⟨rfl, hb3⟩
                    have HC3 := Aside0.mk (below_step HC2.out hb3)
                    have HJ3 := Aside0.mk (HJ2.out.below hb3)
                    clear hb3
                    go_wp2_with fail
                    refine (HIG.out _ _ v3 g2 _ dir (by simp) HJ3.out).mono ?_
                    rintro e v4 ⟨rfl, hb4⟩
                    rw [HALL.out]
                    have HC4 := Aside0.mk (below_step HC3.out hb4)
                    clear hb4
                    go_wp2_with (go_at_call 8; refine (awake12_calls _).mono ?_; rintro e v5 ⟨rfl, hb5⟩; have HC5 := Aside0.mk (below_step HC4.out hb5); clear hb5)
                    go_ret
                    exact ⟨rfl, HC5.out⟩
                  · go_wp2_with fail
                    refine (HNM.out _).mono ?_
                    rintro e v1 ⟨rfl, hb1⟩
                    have HC1 := Aside0.mk (below_step HBX.out hb1)
                    clear hb1
                    go_wp2_with fail
                    refine (HNW.out v1).mono ?_
                    rintro e v2 ⟨g2, rfl, hI2, hb2⟩
                    have HC2 := Aside0.mk (below_step HC1.out hb2)
                    have HJ2 := Aside0.mk hI2
                    clear hb2 hI2
                    go_wp2_with fail
                    refine (HU.out v2).mono ?_
                    rintro e v3 ⟨rfl, hb3⟩
                    have HC3 := Aside0.mk (below_step HC2.out hb3)
                    have HJ3 := Aside0.mk (HJ2.out.below hb3)
                    clear hb3
                    go_wp2_with (go_at_call 8; refine (awake12_calls _).mono ?_; rintro e v5 ⟨rfl, hb5⟩; have HC5 := Aside0.mk (below_step HC3.out hb5); clear hb5)
                    go_ret
                    exact ⟨rfl, HC5.out⟩
end Go.Proofs.YtkalfkgnjmkjgaaDoor
