/-
  The last rule that matches counts; a rule for directories matches no file; a pattern with a slash is held against the whole path. No condition: for every input.
-/
import Derived.Test.YtkalfkgnjmkjgaaDoorIgnSays
import Derived.Test.YtkalfkgnjmkjgaaDoorIgnAwake
import Derived.Test.YtkalfkgnjmkjgaaDoorRefPath4
namespace Go.Proofs.YtkalfkgnjmkjgaaDoor
open Go.RowKit Go.Joins
set_option linter.unusedVariables false
set_option linter.unusedSimpArgs false

set_option maxHeartbeats 1000000 in
theorem rvalid_big (s : ByteArray) (w : World) (hs : s.size ≤ 9223372036854775807) (h2 : 60 < s.size) :
    Calls Tryd.prog 11 #[.string s] w fun e w' => e = .returned (.bool (validB s.data.toList)) ∧ Below w.heap.size w w' := by
  have d1 : decide ((s.size : Int) < 1) = false := decide_eq_false (by omega)
  have d2 : decide ((60 : Int) < s.size) = true := decide_eq_true (by omega)
  have HE : Aside0 (false = validB s.data.toList) := ⟨by
    rw [validB, len_data, decide_eq_false (by omega)]; rfl⟩
  go_enter Tryd.func11, Tryd.ntmps11
  go_wp2_with fail
  go_ret
  exact ⟨ret_b HE.out, Below.refl _ _⟩
theorem rvalid_any (s : ByteArray) (w : World) (hs : s.size ≤ 9223372036854775807) :
    Calls Tryd.prog 11 #[.string s] w fun e w' => e = .returned (.bool (validB s.data.toList)) ∧ Below w.heap.size w w' := by
  by_cases h : 60 < s.size
  · exact rvalid_big s w hs h
  · exact rvalid_calls s w (by omega)
/-- Two texts that were just laid. -/
theorem texts_two {w : World} (X Y : ByteArray) (b : Nat) : SlS (w.alloc (.cells #[.string X, .string Y] 9 (0, 0))) b (.slice (some ⟨w.heap.size, 0, none⟩) 2 2) [X.data.toList, Y.data.toList] := by
  refine Sl.at (heap_new rfl) ?_ rfl (Nat.le_refl _) (by decide)
  show [Value.string X, Value.string Y] = [tv X.data.toList, tv Y.data.toList]
  unfold tv
  rw [← str_of_list (p := X) rfl, ← str_of_list (p := Y) rfl]
theorem new_two {X Y : ByteArray} {x y : List UInt8} (w : World) (hx : X.data.toList = x) (hy : Y.data.toList = y) (hx2 : x.length ≤ 1000000) (hy2 : y.length ≤ 1000000) (hok : allOk [x, y] = true) :
    Calls Tryd.prog 13 #[.slice (some ⟨w.heap.size, 0, none⟩) 2 2] (w.alloc (.cells #[.string X, .string Y] 9 (0, 0))) fun e w' => ∃ g, e = .returned (.tuple #[.pointer (some ⟨g, 0, none⟩), .int .i64 0]) ∧ IsR w' g (w.heap.size + 1) [x, y] ([x, y].map rlOf) ∧ Below w.heap.size w w' := by
  have h0 := texts_two (w := w) X Y 0
  rw [hx, hy] at h0
  refine (new_calls _ h0 (by simp) (by intro S hS; simp at hS; rcases hS with rfl | rfl <;> omega)).mono ?_
  intro e w' h
  obtain ⟨g, h1, h2, h3⟩ := new_ok h (by simp) hok
  rw [World.size_alloc] at h2
  exact ⟨g, h1, h2, below_step ((Below.refl _ w).alloc (Nat.le_refl _) _) h3⟩

set_option maxRecDepth 4000 in
set_option maxHeartbeats 16000000 in
theorem last12 (p : ByteArray) (n d dir : Bool) (w : World) (hp : p.size ≤ 9223372036854775807) :
    Calls Tryd.prog 4 #[.string p, .bool n, .bool d, .bool dir] w fun e w' => e = .returned (.bool true) ∧ Below w.heap.size w w' := by
  obtain ⟨b, hb⟩ : ∃ b, validB p.data.toList = b := ⟨_, rfl⟩
  have HVB := Aside0.mk hb
  cases b with
  | false =>
    clear hb
    go_enter Tryd.func4, Tryd.ntmps4
    go_wp2_with (first | (go_at_call 11; refine (rvalid_any p _ hp).mono ?_; rintro e w1 ⟨rfl, hb1⟩; rw [HVB.out]; have HB1 := Aside0.mk hb1; clear hb1) | (go_at_call 8; refine (awake12_calls _).mono ?_; rintro e w2 ⟨rfl, hb2⟩; have HB2 := Aside0.mk (below_step HB1.out hb2); clear hb2))
    go_ret
    exact ⟨rfl, HB2.out⟩
  | true =>
    have h60 := valid_len hb
    rw [len_data] at h60
    obtain ⟨u, hu⟩ : ∃ u, u = str (parentL p.data.toList) := ⟨_, rfl⟩
    have hul : u.data.toList = parentL p.data.toList := by rw [hu, str_data]
    have HU : Aside0 (∀ W, Calls Tryd.prog 12 #[.string p] W fun e w' => e = .returned (.string u) ∧ Below W.heap.size W w') := ⟨fun W => by rw [hu]; exact rparent_calls p W (by omega)⟩
    clear hu
    by_cases hpar : parentL p.data.toList = []
    · have hn2 : u.toList = [] := by rw [toList_eq, hul]; exact hpar
      have d1 : u.toList.isEmpty = true := by rw [hn2]; rfl
      have HLO := Aside0.mk (fun a b c => last_one hb hpar a b c)
      have HLR := Aside0.mk (fun a b => last_rl hb hpar a b)
      have hne : 1 ≤ p.size := by
        have := (part_let (one_part hb hpar).1).2.1
        rwa [len_data] at this
      clear hul hn2 hpar hb
      cases n with
      | true =>
        cases d with
        | true =>
          cases dir with
          | true =>
            obtain ⟨x, hx⟩ : ∃ x : ByteArray, x = ((⟨#[33]⟩ : ByteArray) ++ p) ++ (⟨#[47]⟩ : ByteArray) := ⟨_, rfl⟩
            have hxl : x.data.toList = (if true = true then [33] else []) ++ (p.data.toList ++ if true = true then [47] else []) := by rw [hx]; rw [data_app, data_app]; simp
            have hxs : x.size ≤ 62 := by rw [← len_data, hxl]; simp [len_data]; omega
            have HXS := Aside0.mk hxs
            have HXX := Aside0.mk hx
            obtain ⟨k1, k2, k3⟩ := HLR.out true true
            have HN1 : Aside0 (∀ W : World, Calls Tryd.prog 13 #[.slice (some ⟨W.heap.size, 0, none⟩) 2 2] (W.alloc (.cells #[.string ((⟨#[120, 47]⟩ : ByteArray) ++ p), .string x] 9 (0, 0))) fun e w' => ∃ g, e = .returned (.tuple #[.pointer (some ⟨g, 0, none⟩), .int .i64 0]) ∧ IsR w' g (W.heap.size + 1) [[120, 47] ++ p.data.toList, x.data.toList] [rlOf ([120, 47] ++ p.data.toList), ⟨p.data.toList, true, true, false⟩] ∧ Below W.heap.size W w') := ⟨fun W => by
              have h := new_two (X := (⟨#[120, 47]⟩ : ByteArray) ++ p) (Y := x) (x := [120, 47] ++ p.data.toList) (y := x.data.toList) W (by rw [data_app]) rfl (by simp [len_data]; omega) (by rw [len_data]; omega) (by rw [hxl]; exact k1)
              rw [show [[120, 47] ++ p.data.toList, x.data.toList].map rlOf = [rlOf ([120, 47] ++ p.data.toList), ⟨p.data.toList, true, true, false⟩] by rw [hxl]; show [_, _] = _; rw [k3]] at h
              exact h⟩
            have HN2 : Aside0 (∀ W : World, Calls Tryd.prog 13 #[.slice (some ⟨W.heap.size, 0, none⟩) 2 2] (W.alloc (.cells #[.string ⟨#[42]⟩, .string x] 9 (0, 0))) fun e w' => ∃ g, e = .returned (.tuple #[.pointer (some ⟨g, 0, none⟩), .int .i64 0]) ∧ IsR w' g (W.heap.size + 1) [[42], x.data.toList] [rlOf [42], ⟨p.data.toList, true, true, false⟩] ∧ Below W.heap.size W w') := ⟨fun W => by
              have h := new_two (X := ⟨#[42]⟩) (Y := x) (x := [42]) (y := x.data.toList) W rfl rfl (by decide) (by rw [len_data]; omega) (by rw [hxl]; exact k2)
              rw [show [[42], x.data.toList].map rlOf = [rlOf [42], ⟨p.data.toList, true, true, false⟩] by rw [hxl]; show [_, _] = _; rw [k3]] at h
              exact h⟩
            have HIG : Aside0 (∀ (R : List Rl) (L : List (List UInt8)) (W : World) (g b : Nat), R.length = 2 → IsR W g b L R → Calls Tryd.prog 14 #[.pointer (some ⟨g, 0, none⟩), .string p, .bool true] W fun e w' => e = .returned (.bool (ignL R p.data.toList true)) ∧ Below W.heap.size W w') := ⟨fun R L W g b hR hI => ignored_calls p true W hI (by omega) (by omega)⟩
            clear hxl hxs k1 k2 k3
            go_enter Tryd.func4, Tryd.ntmps4
            go_wp2_with (first | (go_at_call 11; refine (rvalid_any p _ hp).mono ?_; rintro e w1 ⟨rfl, hb1⟩; rw [HVB.out]; have HB1 := Aside0.mk hb1; clear hb1) | (go_at_call 12; refine (HU.out _).mono ?_; rintro e w2 ⟨rfl, hb2⟩; have HB2 := Aside0.mk (below_step HB1.out hb2); clear hb2))
            rw [HXX.out] at HN1 HN2
            refine (HN1.out w2).mono ?_
            rintro e w3 ⟨g1, rfl, hI1, hb3⟩
            have HB3 := Aside0.mk (below_step HB2.out hb3)
            have H1 := Aside0.mk hI1
            clear hb3 hI1
            go_wp2_with fail
            refine (HN2.out w3).mono ?_
            rintro e w4 ⟨g2, rfl, hI2, hb4⟩
            have HB4 := Aside0.mk (below_step HB3.out hb4)
            have H1b := Aside0.mk (H1.out.below hb4)
            have H2 := Aside0.mk hI2
            clear hb4 hI2
            go_wp2_with fail
            refine (HIG.out _ _ w4 g1 _ rfl H1b.out).mono ?_
            rintro e w5 ⟨rfl, hb5⟩
            rw [(HLO.out true true true).1]
            have HB5 := Aside0.mk (below_step HB4.out hb5)
            have H2b := Aside0.mk (H2.out.below hb5)
            clear hb5
            go_wp2_with fail
            refine (HIG.out _ _ w5 g2 _ rfl H2b.out).mono ?_
            rintro e w6 ⟨rfl, hb6⟩
            rw [(HLO.out true true true).2]
            have HB6 := Aside0.mk (below_step HB5.out hb6)
            clear hb6
            go_wp2_with (go_at_call 8; refine (awake12_calls _).mono ?_; rintro e w7 ⟨rfl, hb7⟩; have HB7 := Aside0.mk (below_step HB6.out hb7); clear hb7)
            go_ret
            exact ⟨rfl, HB7.out⟩
          | false =>
            obtain ⟨x, hx⟩ : ∃ x : ByteArray, x = ((⟨#[33]⟩ : ByteArray) ++ p) ++ (⟨#[47]⟩ : ByteArray) := ⟨_, rfl⟩
            have hxl : x.data.toList = (if true = true then [33] else []) ++ (p.data.toList ++ if true = true then [47] else []) := by rw [hx]; rw [data_app, data_app]; simp
            have hxs : x.size ≤ 62 := by rw [← len_data, hxl]; simp [len_data]; omega
            have HXS := Aside0.mk hxs
            have HXX := Aside0.mk hx
            obtain ⟨k1, k2, k3⟩ := HLR.out true true
            have HN1 : Aside0 (∀ W : World, Calls Tryd.prog 13 #[.slice (some ⟨W.heap.size, 0, none⟩) 2 2] (W.alloc (.cells #[.string ((⟨#[120, 47]⟩ : ByteArray) ++ p), .string x] 9 (0, 0))) fun e w' => ∃ g, e = .returned (.tuple #[.pointer (some ⟨g, 0, none⟩), .int .i64 0]) ∧ IsR w' g (W.heap.size + 1) [[120, 47] ++ p.data.toList, x.data.toList] [rlOf ([120, 47] ++ p.data.toList), ⟨p.data.toList, true, true, false⟩] ∧ Below W.heap.size W w') := ⟨fun W => by
              have h := new_two (X := (⟨#[120, 47]⟩ : ByteArray) ++ p) (Y := x) (x := [120, 47] ++ p.data.toList) (y := x.data.toList) W (by rw [data_app]) rfl (by simp [len_data]; omega) (by rw [len_data]; omega) (by rw [hxl]; exact k1)
              rw [show [[120, 47] ++ p.data.toList, x.data.toList].map rlOf = [rlOf ([120, 47] ++ p.data.toList), ⟨p.data.toList, true, true, false⟩] by rw [hxl]; show [_, _] = _; rw [k3]] at h
              exact h⟩
            have HN2 : Aside0 (∀ W : World, Calls Tryd.prog 13 #[.slice (some ⟨W.heap.size, 0, none⟩) 2 2] (W.alloc (.cells #[.string ⟨#[42]⟩, .string x] 9 (0, 0))) fun e w' => ∃ g, e = .returned (.tuple #[.pointer (some ⟨g, 0, none⟩), .int .i64 0]) ∧ IsR w' g (W.heap.size + 1) [[42], x.data.toList] [rlOf [42], ⟨p.data.toList, true, true, false⟩] ∧ Below W.heap.size W w') := ⟨fun W => by
              have h := new_two (X := ⟨#[42]⟩) (Y := x) (x := [42]) (y := x.data.toList) W rfl rfl (by decide) (by rw [len_data]; omega) (by rw [hxl]; exact k2)
              rw [show [[42], x.data.toList].map rlOf = [rlOf [42], ⟨p.data.toList, true, true, false⟩] by rw [hxl]; show [_, _] = _; rw [k3]] at h
              exact h⟩
            have HIG : Aside0 (∀ (R : List Rl) (L : List (List UInt8)) (W : World) (g b : Nat), R.length = 2 → IsR W g b L R → Calls Tryd.prog 14 #[.pointer (some ⟨g, 0, none⟩), .string p, .bool false] W fun e w' => e = .returned (.bool (ignL R p.data.toList false)) ∧ Below W.heap.size W w') := ⟨fun R L W g b hR hI => ignored_calls p false W hI (by omega) (by omega)⟩
            clear hxl hxs k1 k2 k3
            go_enter Tryd.func4, Tryd.ntmps4
            go_wp2_with (first | (go_at_call 11; refine (rvalid_any p _ hp).mono ?_; rintro e w1 ⟨rfl, hb1⟩; rw [HVB.out]; have HB1 := Aside0.mk hb1; clear hb1) | (go_at_call 12; refine (HU.out _).mono ?_; rintro e w2 ⟨rfl, hb2⟩; have HB2 := Aside0.mk (below_step HB1.out hb2); clear hb2))
            rw [HXX.out] at HN1 HN2
            refine (HN1.out w2).mono ?_
            rintro e w3 ⟨g1, rfl, hI1, hb3⟩
            have HB3 := Aside0.mk (below_step HB2.out hb3)
            have H1 := Aside0.mk hI1
            clear hb3 hI1
            go_wp2_with fail
            refine (HN2.out w3).mono ?_
            rintro e w4 ⟨g2, rfl, hI2, hb4⟩
            have HB4 := Aside0.mk (below_step HB3.out hb4)
            have H1b := Aside0.mk (H1.out.below hb4)
            have H2 := Aside0.mk hI2
            clear hb4 hI2
            go_wp2_with fail
            refine (HIG.out _ _ w4 g1 _ rfl H1b.out).mono ?_
            rintro e w5 ⟨rfl, hb5⟩
            rw [(HLO.out true true false).1]
            have HB5 := Aside0.mk (below_step HB4.out hb5)
            have H2b := Aside0.mk (H2.out.below hb5)
            clear hb5
            go_wp2_with fail
            refine (HIG.out _ _ w5 g2 _ rfl H2b.out).mono ?_
            rintro e w6 ⟨rfl, hb6⟩
            rw [(HLO.out true true false).2]
            have HB6 := Aside0.mk (below_step HB5.out hb6)
            clear hb6
            go_wp2_with (go_at_call 8; refine (awake12_calls _).mono ?_; rintro e w7 ⟨rfl, hb7⟩; have HB7 := Aside0.mk (below_step HB6.out hb7); clear hb7)
            go_ret
            exact ⟨rfl, HB7.out⟩
        | false =>
          cases dir with
          | true =>
            obtain ⟨x, hx⟩ : ∃ x : ByteArray, x = (⟨#[33]⟩ : ByteArray) ++ p := ⟨_, rfl⟩
            have hxl : x.data.toList = (if true = true then [33] else []) ++ (p.data.toList ++ if false = true then [47] else []) := by rw [hx]; rw [data_app]; simp
            have hxs : x.size ≤ 62 := by rw [← len_data, hxl]; simp [len_data]; omega
            have HXS := Aside0.mk hxs
            have HXX := Aside0.mk hx
            obtain ⟨k1, k2, k3⟩ := HLR.out true false
            have HN1 : Aside0 (∀ W : World, Calls Tryd.prog 13 #[.slice (some ⟨W.heap.size, 0, none⟩) 2 2] (W.alloc (.cells #[.string ((⟨#[120, 47]⟩ : ByteArray) ++ p), .string x] 9 (0, 0))) fun e w' => ∃ g, e = .returned (.tuple #[.pointer (some ⟨g, 0, none⟩), .int .i64 0]) ∧ IsR w' g (W.heap.size + 1) [[120, 47] ++ p.data.toList, x.data.toList] [rlOf ([120, 47] ++ p.data.toList), ⟨p.data.toList, true, false, false⟩] ∧ Below W.heap.size W w') := ⟨fun W => by
              have h := new_two (X := (⟨#[120, 47]⟩ : ByteArray) ++ p) (Y := x) (x := [120, 47] ++ p.data.toList) (y := x.data.toList) W (by rw [data_app]) rfl (by simp [len_data]; omega) (by rw [len_data]; omega) (by rw [hxl]; exact k1)
              rw [show [[120, 47] ++ p.data.toList, x.data.toList].map rlOf = [rlOf ([120, 47] ++ p.data.toList), ⟨p.data.toList, true, false, false⟩] by rw [hxl]; show [_, _] = _; rw [k3]] at h
              exact h⟩
            have HN2 : Aside0 (∀ W : World, Calls Tryd.prog 13 #[.slice (some ⟨W.heap.size, 0, none⟩) 2 2] (W.alloc (.cells #[.string ⟨#[42]⟩, .string x] 9 (0, 0))) fun e w' => ∃ g, e = .returned (.tuple #[.pointer (some ⟨g, 0, none⟩), .int .i64 0]) ∧ IsR w' g (W.heap.size + 1) [[42], x.data.toList] [rlOf [42], ⟨p.data.toList, true, false, false⟩] ∧ Below W.heap.size W w') := ⟨fun W => by
              have h := new_two (X := ⟨#[42]⟩) (Y := x) (x := [42]) (y := x.data.toList) W rfl rfl (by decide) (by rw [len_data]; omega) (by rw [hxl]; exact k2)
              rw [show [[42], x.data.toList].map rlOf = [rlOf [42], ⟨p.data.toList, true, false, false⟩] by rw [hxl]; show [_, _] = _; rw [k3]] at h
              exact h⟩
            have HIG : Aside0 (∀ (R : List Rl) (L : List (List UInt8)) (W : World) (g b : Nat), R.length = 2 → IsR W g b L R → Calls Tryd.prog 14 #[.pointer (some ⟨g, 0, none⟩), .string p, .bool true] W fun e w' => e = .returned (.bool (ignL R p.data.toList true)) ∧ Below W.heap.size W w') := ⟨fun R L W g b hR hI => ignored_calls p true W hI (by omega) (by omega)⟩
            clear hxl hxs k1 k2 k3
            go_enter Tryd.func4, Tryd.ntmps4
            go_wp2_with (first | (go_at_call 11; refine (rvalid_any p _ hp).mono ?_; rintro e w1 ⟨rfl, hb1⟩; rw [HVB.out]; have HB1 := Aside0.mk hb1; clear hb1) | (go_at_call 12; refine (HU.out _).mono ?_; rintro e w2 ⟨rfl, hb2⟩; have HB2 := Aside0.mk (below_step HB1.out hb2); clear hb2))
            rw [HXX.out] at HN1 HN2
            refine (HN1.out w2).mono ?_
            rintro e w3 ⟨g1, rfl, hI1, hb3⟩
            have HB3 := Aside0.mk (below_step HB2.out hb3)
            have H1 := Aside0.mk hI1
            clear hb3 hI1
            go_wp2_with fail
            refine (HN2.out w3).mono ?_
            rintro e w4 ⟨g2, rfl, hI2, hb4⟩
            have HB4 := Aside0.mk (below_step HB3.out hb4)
            have H1b := Aside0.mk (H1.out.below hb4)
            have H2 := Aside0.mk hI2
            clear hb4 hI2
            go_wp2_with fail
            refine (HIG.out _ _ w4 g1 _ rfl H1b.out).mono ?_
            rintro e w5 ⟨rfl, hb5⟩
            rw [(HLO.out true false true).1]
            have HB5 := Aside0.mk (below_step HB4.out hb5)
            have H2b := Aside0.mk (H2.out.below hb5)
            clear hb5
            go_wp2_with fail
            refine (HIG.out _ _ w5 g2 _ rfl H2b.out).mono ?_
            rintro e w6 ⟨rfl, hb6⟩
            rw [(HLO.out true false true).2]
            have HB6 := Aside0.mk (below_step HB5.out hb6)
            clear hb6
            go_wp2_with (go_at_call 8; refine (awake12_calls _).mono ?_; rintro e w7 ⟨rfl, hb7⟩; have HB7 := Aside0.mk (below_step HB6.out hb7); clear hb7)
            go_ret
            exact ⟨rfl, HB7.out⟩
          | false =>
            obtain ⟨x, hx⟩ : ∃ x : ByteArray, x = (⟨#[33]⟩ : ByteArray) ++ p := ⟨_, rfl⟩
            have hxl : x.data.toList = (if true = true then [33] else []) ++ (p.data.toList ++ if false = true then [47] else []) := by rw [hx]; rw [data_app]; simp
            have hxs : x.size ≤ 62 := by rw [← len_data, hxl]; simp [len_data]; omega
            have HXS := Aside0.mk hxs
            have HXX := Aside0.mk hx
            obtain ⟨k1, k2, k3⟩ := HLR.out true false
            have HN1 : Aside0 (∀ W : World, Calls Tryd.prog 13 #[.slice (some ⟨W.heap.size, 0, none⟩) 2 2] (W.alloc (.cells #[.string ((⟨#[120, 47]⟩ : ByteArray) ++ p), .string x] 9 (0, 0))) fun e w' => ∃ g, e = .returned (.tuple #[.pointer (some ⟨g, 0, none⟩), .int .i64 0]) ∧ IsR w' g (W.heap.size + 1) [[120, 47] ++ p.data.toList, x.data.toList] [rlOf ([120, 47] ++ p.data.toList), ⟨p.data.toList, true, false, false⟩] ∧ Below W.heap.size W w') := ⟨fun W => by
              have h := new_two (X := (⟨#[120, 47]⟩ : ByteArray) ++ p) (Y := x) (x := [120, 47] ++ p.data.toList) (y := x.data.toList) W (by rw [data_app]) rfl (by simp [len_data]; omega) (by rw [len_data]; omega) (by rw [hxl]; exact k1)
              rw [show [[120, 47] ++ p.data.toList, x.data.toList].map rlOf = [rlOf ([120, 47] ++ p.data.toList), ⟨p.data.toList, true, false, false⟩] by rw [hxl]; show [_, _] = _; rw [k3]] at h
              exact h⟩
            have HN2 : Aside0 (∀ W : World, Calls Tryd.prog 13 #[.slice (some ⟨W.heap.size, 0, none⟩) 2 2] (W.alloc (.cells #[.string ⟨#[42]⟩, .string x] 9 (0, 0))) fun e w' => ∃ g, e = .returned (.tuple #[.pointer (some ⟨g, 0, none⟩), .int .i64 0]) ∧ IsR w' g (W.heap.size + 1) [[42], x.data.toList] [rlOf [42], ⟨p.data.toList, true, false, false⟩] ∧ Below W.heap.size W w') := ⟨fun W => by
              have h := new_two (X := ⟨#[42]⟩) (Y := x) (x := [42]) (y := x.data.toList) W rfl rfl (by decide) (by rw [len_data]; omega) (by rw [hxl]; exact k2)
              rw [show [[42], x.data.toList].map rlOf = [rlOf [42], ⟨p.data.toList, true, false, false⟩] by rw [hxl]; show [_, _] = _; rw [k3]] at h
              exact h⟩
            have HIG : Aside0 (∀ (R : List Rl) (L : List (List UInt8)) (W : World) (g b : Nat), R.length = 2 → IsR W g b L R → Calls Tryd.prog 14 #[.pointer (some ⟨g, 0, none⟩), .string p, .bool false] W fun e w' => e = .returned (.bool (ignL R p.data.toList false)) ∧ Below W.heap.size W w') := ⟨fun R L W g b hR hI => ignored_calls p false W hI (by omega) (by omega)⟩
            clear hxl hxs k1 k2 k3
            go_enter Tryd.func4, Tryd.ntmps4
            go_wp2_with (first | (go_at_call 11; refine (rvalid_any p _ hp).mono ?_; rintro e w1 ⟨rfl, hb1⟩; rw [HVB.out]; have HB1 := Aside0.mk hb1; clear hb1) | (go_at_call 12; refine (HU.out _).mono ?_; rintro e w2 ⟨rfl, hb2⟩; have HB2 := Aside0.mk (below_step HB1.out hb2); clear hb2))
            rw [HXX.out] at HN1 HN2
            refine (HN1.out w2).mono ?_
            rintro e w3 ⟨g1, rfl, hI1, hb3⟩
            have HB3 := Aside0.mk (below_step HB2.out hb3)
            have H1 := Aside0.mk hI1
            clear hb3 hI1
            go_wp2_with fail
            refine (HN2.out w3).mono ?_
            rintro e w4 ⟨g2, rfl, hI2, hb4⟩
            have HB4 := Aside0.mk (below_step HB3.out hb4)
            have H1b := Aside0.mk (H1.out.below hb4)
            have H2 := Aside0.mk hI2
            clear hb4 hI2
            go_wp2_with fail
            refine (HIG.out _ _ w4 g1 _ rfl H1b.out).mono ?_
            rintro e w5 ⟨rfl, hb5⟩
            rw [(HLO.out true false false).1]
            have HB5 := Aside0.mk (below_step HB4.out hb5)
            have H2b := Aside0.mk (H2.out.below hb5)
            clear hb5
            go_wp2_with fail
            refine (HIG.out _ _ w5 g2 _ rfl H2b.out).mono ?_
            rintro e w6 ⟨rfl, hb6⟩
            rw [(HLO.out true false false).2]
            have HB6 := Aside0.mk (below_step HB5.out hb6)
            clear hb6
            go_wp2_with (go_at_call 8; refine (awake12_calls _).mono ?_; rintro e w7 ⟨rfl, hb7⟩; have HB7 := Aside0.mk (below_step HB6.out hb7); clear hb7)
            go_ret
            exact ⟨rfl, HB7.out⟩
      | false =>
        cases d with
        | true =>
          cases dir with
          | true =>
            obtain ⟨x, hx⟩ : ∃ x : ByteArray, x = p ++ (⟨#[47]⟩ : ByteArray) := ⟨_, rfl⟩
            have hxl : x.data.toList = (if false = true then [33] else []) ++ (p.data.toList ++ if true = true then [47] else []) := by rw [hx]; rw [data_app]; simp
            have hxs : x.size ≤ 62 := by rw [← len_data, hxl]; simp [len_data]; omega
            have HXS := Aside0.mk hxs
            have HXX := Aside0.mk hx
            obtain ⟨k1, k2, k3⟩ := HLR.out false true
            have HN1 : Aside0 (∀ W : World, Calls Tryd.prog 13 #[.slice (some ⟨W.heap.size, 0, none⟩) 2 2] (W.alloc (.cells #[.string ((⟨#[120, 47]⟩ : ByteArray) ++ p), .string x] 9 (0, 0))) fun e w' => ∃ g, e = .returned (.tuple #[.pointer (some ⟨g, 0, none⟩), .int .i64 0]) ∧ IsR w' g (W.heap.size + 1) [[120, 47] ++ p.data.toList, x.data.toList] [rlOf ([120, 47] ++ p.data.toList), ⟨p.data.toList, false, true, false⟩] ∧ Below W.heap.size W w') := ⟨fun W => by
              have h := new_two (X := (⟨#[120, 47]⟩ : ByteArray) ++ p) (Y := x) (x := [120, 47] ++ p.data.toList) (y := x.data.toList) W (by rw [data_app]) rfl (by simp [len_data]; omega) (by rw [len_data]; omega) (by rw [hxl]; exact k1)
              rw [show [[120, 47] ++ p.data.toList, x.data.toList].map rlOf = [rlOf ([120, 47] ++ p.data.toList), ⟨p.data.toList, false, true, false⟩] by rw [hxl]; show [_, _] = _; rw [k3]] at h
              exact h⟩
            have HN2 : Aside0 (∀ W : World, Calls Tryd.prog 13 #[.slice (some ⟨W.heap.size, 0, none⟩) 2 2] (W.alloc (.cells #[.string ⟨#[42]⟩, .string x] 9 (0, 0))) fun e w' => ∃ g, e = .returned (.tuple #[.pointer (some ⟨g, 0, none⟩), .int .i64 0]) ∧ IsR w' g (W.heap.size + 1) [[42], x.data.toList] [rlOf [42], ⟨p.data.toList, false, true, false⟩] ∧ Below W.heap.size W w') := ⟨fun W => by
              have h := new_two (X := ⟨#[42]⟩) (Y := x) (x := [42]) (y := x.data.toList) W rfl rfl (by decide) (by rw [len_data]; omega) (by rw [hxl]; exact k2)
              rw [show [[42], x.data.toList].map rlOf = [rlOf [42], ⟨p.data.toList, false, true, false⟩] by rw [hxl]; show [_, _] = _; rw [k3]] at h
              exact h⟩
            have HIG : Aside0 (∀ (R : List Rl) (L : List (List UInt8)) (W : World) (g b : Nat), R.length = 2 → IsR W g b L R → Calls Tryd.prog 14 #[.pointer (some ⟨g, 0, none⟩), .string p, .bool true] W fun e w' => e = .returned (.bool (ignL R p.data.toList true)) ∧ Below W.heap.size W w') := ⟨fun R L W g b hR hI => ignored_calls p true W hI (by omega) (by omega)⟩
            clear hxl hxs k1 k2 k3
            go_enter Tryd.func4, Tryd.ntmps4
            go_wp2_with (first | (go_at_call 11; refine (rvalid_any p _ hp).mono ?_; rintro e w1 ⟨rfl, hb1⟩; rw [HVB.out]; have HB1 := Aside0.mk hb1; clear hb1) | (go_at_call 12; refine (HU.out _).mono ?_; rintro e w2 ⟨rfl, hb2⟩; have HB2 := Aside0.mk (below_step HB1.out hb2); clear hb2))
            rw [HXX.out] at HN1 HN2
            refine (HN1.out w2).mono ?_
            rintro e w3 ⟨g1, rfl, hI1, hb3⟩
            have HB3 := Aside0.mk (below_step HB2.out hb3)
            have H1 := Aside0.mk hI1
            clear hb3 hI1
            go_wp2_with fail
            refine (HN2.out w3).mono ?_
            rintro e w4 ⟨g2, rfl, hI2, hb4⟩
            have HB4 := Aside0.mk (below_step HB3.out hb4)
            have H1b := Aside0.mk (H1.out.below hb4)
            have H2 := Aside0.mk hI2
            clear hb4 hI2
            go_wp2_with fail
            refine (HIG.out _ _ w4 g1 _ rfl H1b.out).mono ?_
            rintro e w5 ⟨rfl, hb5⟩
            rw [(HLO.out false true true).1]
            have HB5 := Aside0.mk (below_step HB4.out hb5)
            have H2b := Aside0.mk (H2.out.below hb5)
            clear hb5
            go_wp2_with fail
            refine (HIG.out _ _ w5 g2 _ rfl H2b.out).mono ?_
            rintro e w6 ⟨rfl, hb6⟩
            rw [(HLO.out false true true).2]
            have HB6 := Aside0.mk (below_step HB5.out hb6)
            clear hb6
            go_wp2_with (go_at_call 8; refine (awake12_calls _).mono ?_; rintro e w7 ⟨rfl, hb7⟩; have HB7 := Aside0.mk (below_step HB6.out hb7); clear hb7)
            go_ret
            exact ⟨rfl, HB7.out⟩
          | false =>
            obtain ⟨x, hx⟩ : ∃ x : ByteArray, x = p ++ (⟨#[47]⟩ : ByteArray) := ⟨_, rfl⟩
            have hxl : x.data.toList = (if false = true then [33] else []) ++ (p.data.toList ++ if true = true then [47] else []) := by rw [hx]; rw [data_app]; simp
            have hxs : x.size ≤ 62 := by rw [← len_data, hxl]; simp [len_data]; omega
            have HXS := Aside0.mk hxs
            have HXX := Aside0.mk hx
            obtain ⟨k1, k2, k3⟩ := HLR.out false true
            have HN1 : Aside0 (∀ W : World, Calls Tryd.prog 13 #[.slice (some ⟨W.heap.size, 0, none⟩) 2 2] (W.alloc (.cells #[.string ((⟨#[120, 47]⟩ : ByteArray) ++ p), .string x] 9 (0, 0))) fun e w' => ∃ g, e = .returned (.tuple #[.pointer (some ⟨g, 0, none⟩), .int .i64 0]) ∧ IsR w' g (W.heap.size + 1) [[120, 47] ++ p.data.toList, x.data.toList] [rlOf ([120, 47] ++ p.data.toList), ⟨p.data.toList, false, true, false⟩] ∧ Below W.heap.size W w') := ⟨fun W => by
              have h := new_two (X := (⟨#[120, 47]⟩ : ByteArray) ++ p) (Y := x) (x := [120, 47] ++ p.data.toList) (y := x.data.toList) W (by rw [data_app]) rfl (by simp [len_data]; omega) (by rw [len_data]; omega) (by rw [hxl]; exact k1)
              rw [show [[120, 47] ++ p.data.toList, x.data.toList].map rlOf = [rlOf ([120, 47] ++ p.data.toList), ⟨p.data.toList, false, true, false⟩] by rw [hxl]; show [_, _] = _; rw [k3]] at h
              exact h⟩
            have HN2 : Aside0 (∀ W : World, Calls Tryd.prog 13 #[.slice (some ⟨W.heap.size, 0, none⟩) 2 2] (W.alloc (.cells #[.string ⟨#[42]⟩, .string x] 9 (0, 0))) fun e w' => ∃ g, e = .returned (.tuple #[.pointer (some ⟨g, 0, none⟩), .int .i64 0]) ∧ IsR w' g (W.heap.size + 1) [[42], x.data.toList] [rlOf [42], ⟨p.data.toList, false, true, false⟩] ∧ Below W.heap.size W w') := ⟨fun W => by
              have h := new_two (X := ⟨#[42]⟩) (Y := x) (x := [42]) (y := x.data.toList) W rfl rfl (by decide) (by rw [len_data]; omega) (by rw [hxl]; exact k2)
              rw [show [[42], x.data.toList].map rlOf = [rlOf [42], ⟨p.data.toList, false, true, false⟩] by rw [hxl]; show [_, _] = _; rw [k3]] at h
              exact h⟩
            have HIG : Aside0 (∀ (R : List Rl) (L : List (List UInt8)) (W : World) (g b : Nat), R.length = 2 → IsR W g b L R → Calls Tryd.prog 14 #[.pointer (some ⟨g, 0, none⟩), .string p, .bool false] W fun e w' => e = .returned (.bool (ignL R p.data.toList false)) ∧ Below W.heap.size W w') := ⟨fun R L W g b hR hI => ignored_calls p false W hI (by omega) (by omega)⟩
            clear hxl hxs k1 k2 k3
            go_enter Tryd.func4, Tryd.ntmps4
            go_wp2_with (first | (go_at_call 11; refine (rvalid_any p _ hp).mono ?_; rintro e w1 ⟨rfl, hb1⟩; rw [HVB.out]; have HB1 := Aside0.mk hb1; clear hb1) | (go_at_call 12; refine (HU.out _).mono ?_; rintro e w2 ⟨rfl, hb2⟩; have HB2 := Aside0.mk (below_step HB1.out hb2); clear hb2))
            rw [HXX.out] at HN1 HN2
            refine (HN1.out w2).mono ?_
            rintro e w3 ⟨g1, rfl, hI1, hb3⟩
            have HB3 := Aside0.mk (below_step HB2.out hb3)
            have H1 := Aside0.mk hI1
            clear hb3 hI1
            go_wp2_with fail
            refine (HN2.out w3).mono ?_
            rintro e w4 ⟨g2, rfl, hI2, hb4⟩
            have HB4 := Aside0.mk (below_step HB3.out hb4)
            have H1b := Aside0.mk (H1.out.below hb4)
            have H2 := Aside0.mk hI2
            clear hb4 hI2
            go_wp2_with fail
            refine (HIG.out _ _ w4 g1 _ rfl H1b.out).mono ?_
            rintro e w5 ⟨rfl, hb5⟩
            rw [(HLO.out false true false).1]
            have HB5 := Aside0.mk (below_step HB4.out hb5)
            have H2b := Aside0.mk (H2.out.below hb5)
            clear hb5
            go_wp2_with fail
            refine (HIG.out _ _ w5 g2 _ rfl H2b.out).mono ?_
            rintro e w6 ⟨rfl, hb6⟩
            rw [(HLO.out false true false).2]
            have HB6 := Aside0.mk (below_step HB5.out hb6)
            clear hb6
            go_wp2_with (go_at_call 8; refine (awake12_calls _).mono ?_; rintro e w7 ⟨rfl, hb7⟩; have HB7 := Aside0.mk (below_step HB6.out hb7); clear hb7)
            go_ret
            exact ⟨rfl, HB7.out⟩
        | false =>
          cases dir with
          | true =>
            obtain ⟨x, hx⟩ : ∃ x : ByteArray, x = p := ⟨_, rfl⟩
            have hxl : x.data.toList = (if false = true then [33] else []) ++ (p.data.toList ++ if false = true then [47] else []) := by rw [hx]; simp
            have hxs : x.size ≤ 62 := by rw [← len_data, hxl]; simp [len_data]; omega
            have HXS := Aside0.mk hxs
            have HXX := Aside0.mk hx
            obtain ⟨k1, k2, k3⟩ := HLR.out false false
            have HN1 : Aside0 (∀ W : World, Calls Tryd.prog 13 #[.slice (some ⟨W.heap.size, 0, none⟩) 2 2] (W.alloc (.cells #[.string ((⟨#[120, 47]⟩ : ByteArray) ++ p), .string x] 9 (0, 0))) fun e w' => ∃ g, e = .returned (.tuple #[.pointer (some ⟨g, 0, none⟩), .int .i64 0]) ∧ IsR w' g (W.heap.size + 1) [[120, 47] ++ p.data.toList, x.data.toList] [rlOf ([120, 47] ++ p.data.toList), ⟨p.data.toList, false, false, false⟩] ∧ Below W.heap.size W w') := ⟨fun W => by
              have h := new_two (X := (⟨#[120, 47]⟩ : ByteArray) ++ p) (Y := x) (x := [120, 47] ++ p.data.toList) (y := x.data.toList) W (by rw [data_app]) rfl (by simp [len_data]; omega) (by rw [len_data]; omega) (by rw [hxl]; exact k1)
              rw [show [[120, 47] ++ p.data.toList, x.data.toList].map rlOf = [rlOf ([120, 47] ++ p.data.toList), ⟨p.data.toList, false, false, false⟩] by rw [hxl]; show [_, _] = _; rw [k3]] at h
              exact h⟩
            have HN2 : Aside0 (∀ W : World, Calls Tryd.prog 13 #[.slice (some ⟨W.heap.size, 0, none⟩) 2 2] (W.alloc (.cells #[.string ⟨#[42]⟩, .string x] 9 (0, 0))) fun e w' => ∃ g, e = .returned (.tuple #[.pointer (some ⟨g, 0, none⟩), .int .i64 0]) ∧ IsR w' g (W.heap.size + 1) [[42], x.data.toList] [rlOf [42], ⟨p.data.toList, false, false, false⟩] ∧ Below W.heap.size W w') := ⟨fun W => by
              have h := new_two (X := ⟨#[42]⟩) (Y := x) (x := [42]) (y := x.data.toList) W rfl rfl (by decide) (by rw [len_data]; omega) (by rw [hxl]; exact k2)
              rw [show [[42], x.data.toList].map rlOf = [rlOf [42], ⟨p.data.toList, false, false, false⟩] by rw [hxl]; show [_, _] = _; rw [k3]] at h
              exact h⟩
            have HIG : Aside0 (∀ (R : List Rl) (L : List (List UInt8)) (W : World) (g b : Nat), R.length = 2 → IsR W g b L R → Calls Tryd.prog 14 #[.pointer (some ⟨g, 0, none⟩), .string p, .bool true] W fun e w' => e = .returned (.bool (ignL R p.data.toList true)) ∧ Below W.heap.size W w') := ⟨fun R L W g b hR hI => ignored_calls p true W hI (by omega) (by omega)⟩
            clear hxl hxs k1 k2 k3
            go_enter Tryd.func4, Tryd.ntmps4
            go_wp2_with (first | (go_at_call 11; refine (rvalid_any p _ hp).mono ?_; rintro e w1 ⟨rfl, hb1⟩; rw [HVB.out]; have HB1 := Aside0.mk hb1; clear hb1) | (go_at_call 12; refine (HU.out _).mono ?_; rintro e w2 ⟨rfl, hb2⟩; have HB2 := Aside0.mk (below_step HB1.out hb2); clear hb2))
            rw [HXX.out] at HN1 HN2
            refine (HN1.out w2).mono ?_
            rintro e w3 ⟨g1, rfl, hI1, hb3⟩
            have HB3 := Aside0.mk (below_step HB2.out hb3)
            have H1 := Aside0.mk hI1
            clear hb3 hI1
            go_wp2_with fail
            refine (HN2.out w3).mono ?_
            rintro e w4 ⟨g2, rfl, hI2, hb4⟩
            have HB4 := Aside0.mk (below_step HB3.out hb4)
            have H1b := Aside0.mk (H1.out.below hb4)
            have H2 := Aside0.mk hI2
            clear hb4 hI2
            go_wp2_with fail
            refine (HIG.out _ _ w4 g1 _ rfl H1b.out).mono ?_
            rintro e w5 ⟨rfl, hb5⟩
            rw [(HLO.out false false true).1]
            have HB5 := Aside0.mk (below_step HB4.out hb5)
            have H2b := Aside0.mk (H2.out.below hb5)
            clear hb5
            go_wp2_with fail
            refine (HIG.out _ _ w5 g2 _ rfl H2b.out).mono ?_
            rintro e w6 ⟨rfl, hb6⟩
            rw [(HLO.out false false true).2]
            have HB6 := Aside0.mk (below_step HB5.out hb6)
            clear hb6
            go_wp2_with (go_at_call 8; refine (awake12_calls _).mono ?_; rintro e w7 ⟨rfl, hb7⟩; have HB7 := Aside0.mk (below_step HB6.out hb7); clear hb7)
            go_ret
            exact ⟨rfl, HB7.out⟩
          | false =>
            obtain ⟨x, hx⟩ : ∃ x : ByteArray, x = p := ⟨_, rfl⟩
            have hxl : x.data.toList = (if false = true then [33] else []) ++ (p.data.toList ++ if false = true then [47] else []) := by rw [hx]; simp
            have hxs : x.size ≤ 62 := by rw [← len_data, hxl]; simp [len_data]; omega
            have HXS := Aside0.mk hxs
            have HXX := Aside0.mk hx
            obtain ⟨k1, k2, k3⟩ := HLR.out false false
            have HN1 : Aside0 (∀ W : World, Calls Tryd.prog 13 #[.slice (some ⟨W.heap.size, 0, none⟩) 2 2] (W.alloc (.cells #[.string ((⟨#[120, 47]⟩ : ByteArray) ++ p), .string x] 9 (0, 0))) fun e w' => ∃ g, e = .returned (.tuple #[.pointer (some ⟨g, 0, none⟩), .int .i64 0]) ∧ IsR w' g (W.heap.size + 1) [[120, 47] ++ p.data.toList, x.data.toList] [rlOf ([120, 47] ++ p.data.toList), ⟨p.data.toList, false, false, false⟩] ∧ Below W.heap.size W w') := ⟨fun W => by
              have h := new_two (X := (⟨#[120, 47]⟩ : ByteArray) ++ p) (Y := x) (x := [120, 47] ++ p.data.toList) (y := x.data.toList) W (by rw [data_app]) rfl (by simp [len_data]; omega) (by rw [len_data]; omega) (by rw [hxl]; exact k1)
              rw [show [[120, 47] ++ p.data.toList, x.data.toList].map rlOf = [rlOf ([120, 47] ++ p.data.toList), ⟨p.data.toList, false, false, false⟩] by rw [hxl]; show [_, _] = _; rw [k3]] at h
              exact h⟩
            have HN2 : Aside0 (∀ W : World, Calls Tryd.prog 13 #[.slice (some ⟨W.heap.size, 0, none⟩) 2 2] (W.alloc (.cells #[.string ⟨#[42]⟩, .string x] 9 (0, 0))) fun e w' => ∃ g, e = .returned (.tuple #[.pointer (some ⟨g, 0, none⟩), .int .i64 0]) ∧ IsR w' g (W.heap.size + 1) [[42], x.data.toList] [rlOf [42], ⟨p.data.toList, false, false, false⟩] ∧ Below W.heap.size W w') := ⟨fun W => by
              have h := new_two (X := ⟨#[42]⟩) (Y := x) (x := [42]) (y := x.data.toList) W rfl rfl (by decide) (by rw [len_data]; omega) (by rw [hxl]; exact k2)
              rw [show [[42], x.data.toList].map rlOf = [rlOf [42], ⟨p.data.toList, false, false, false⟩] by rw [hxl]; show [_, _] = _; rw [k3]] at h
              exact h⟩
            have HIG : Aside0 (∀ (R : List Rl) (L : List (List UInt8)) (W : World) (g b : Nat), R.length = 2 → IsR W g b L R → Calls Tryd.prog 14 #[.pointer (some ⟨g, 0, none⟩), .string p, .bool false] W fun e w' => e = .returned (.bool (ignL R p.data.toList false)) ∧ Below W.heap.size W w') := ⟨fun R L W g b hR hI => ignored_calls p false W hI (by omega) (by omega)⟩
            clear hxl hxs k1 k2 k3
            go_enter Tryd.func4, Tryd.ntmps4
            go_wp2_with (first | (go_at_call 11; refine (rvalid_any p _ hp).mono ?_; rintro e w1 ⟨rfl, hb1⟩; rw [HVB.out]; have HB1 := Aside0.mk hb1; clear hb1) | (go_at_call 12; refine (HU.out _).mono ?_; rintro e w2 ⟨rfl, hb2⟩; have HB2 := Aside0.mk (below_step HB1.out hb2); clear hb2))
            rw [HXX.out] at HN1 HN2
            refine (HN1.out w2).mono ?_
            rintro e w3 ⟨g1, rfl, hI1, hb3⟩
            have HB3 := Aside0.mk (below_step HB2.out hb3)
            have H1 := Aside0.mk hI1
            clear hb3 hI1
            go_wp2_with fail
            refine (HN2.out w3).mono ?_
            rintro e w4 ⟨g2, rfl, hI2, hb4⟩
            have HB4 := Aside0.mk (below_step HB3.out hb4)
            have H1b := Aside0.mk (H1.out.below hb4)
            have H2 := Aside0.mk hI2
            clear hb4 hI2
            go_wp2_with fail
            refine (HIG.out _ _ w4 g1 _ rfl H1b.out).mono ?_
            rintro e w5 ⟨rfl, hb5⟩
            rw [(HLO.out false false false).1]
            have HB5 := Aside0.mk (below_step HB4.out hb5)
            have H2b := Aside0.mk (H2.out.below hb5)
            clear hb5
            go_wp2_with fail
            refine (HIG.out _ _ w5 g2 _ rfl H2b.out).mono ?_
            rintro e w6 ⟨rfl, hb6⟩
            rw [(HLO.out false false false).2]
            have HB6 := Aside0.mk (below_step HB5.out hb6)
            clear hb6
            go_wp2_with (go_at_call 8; refine (awake12_calls _).mono ?_; rintro e w7 ⟨rfl, hb7⟩; have HB7 := Aside0.mk (below_step HB6.out hb7); clear hb7)
            go_ret
            exact ⟨rfl, HB7.out⟩
    · have hn2 : u.toList ≠ [] := by rw [toList_eq, hul]; exact hpar
      have d1 : u.toList.isEmpty = false := by rw [List.isEmpty_eq_false_iff]; exact hn2
      clear hul hn2 hpar hb
      go_enter Tryd.func4, Tryd.ntmps4
      go_wp2_with (first | (go_at_call 11; refine (rvalid_any p _ hp).mono ?_; rintro e w1 ⟨rfl, hb1⟩; rw [HVB.out]; have HB1 := Aside0.mk hb1; clear hb1) | (go_at_call 12; refine (HU.out _).mono ?_; rintro e w2 ⟨rfl, hb2⟩; have HB2 := Aside0.mk (below_step HB1.out hb2); clear hb2) | (go_at_call 8; refine (awake12_calls _).mono ?_; rintro e w3 ⟨rfl, hb3⟩; have HB3 := Aside0.mk (below_step HB2.out hb3); clear hb3))
      go_ret
      exact ⟨rfl, HB3.out⟩
end Go.Proofs.YtkalfkgnjmkjgaaDoor
