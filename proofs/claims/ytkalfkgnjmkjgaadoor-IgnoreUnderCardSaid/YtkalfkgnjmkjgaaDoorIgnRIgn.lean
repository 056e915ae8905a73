/-
  The reference tells whether a path is ignored. No condition but lengths.
-/
import Derived.Test.YtkalfkgnjmkjgaaDoorIgnRefs
namespace Go.Proofs.YtkalfkgnjmkjgaaDoor
open Go.RowKit Go.Joins
set_option linter.unusedVariables false
set_option linter.unusedSimpArgs false

theorem rmatch_any (p s : ByteArray) (w : World) : Calls Tryd.prog 10 #[.string p, .string s] w fun e w' => e = .returned (.bool (matchL p.data.toList s.data.toList)) ∧ Below w.heap.size w w' := by
  by_cases h : 200 < p.size ∨ 200 < s.size
  · exact rmatch_big p s w h
  · exact rmatch_calls p s w (by omega) (by omega)
def ownN (R : List Rl) (p : List UInt8) (dir : Bool) (k : Nat) : Bool := (R.take k).foldl (fun yes r => if hitR p dir r = true then !r.not else yes) false
theorem ownN_succ {R : List Rl} {p : List UInt8} {dir : Bool} {k : Nat} (h : k < R.length) : ownN R p dir (k + 1) = if hitR p dir (rk R k) = true then !(rk R k).not else ownN R p dir k := by
  unfold ownN
  rw [List.take_add_one, List.getElem?_eq_getElem h, rk_get R h, Option.toList_some, List.foldl_append]
  rfl
theorem ownN_all (R : List Rl) (p : List UInt8) (dir : Bool) : ownN R p dir R.length = ownL R p dir := by unfold ownN ownL; rw [List.take_length]

set_option maxRecDepth 4000 in
set_option maxHeartbeats 8000000 in
theorem rignored_calls {e b0 : Nat} {v : Value} {R : List Rl} (hR : R.length ≤ 1000000000) : ∀ (n : Nat) (p : ByteArray) (dir : Bool) (w : World), p.size ≤ n → n ≤ 1000000000 → SlC rrC e w b0 v R →
    Calls Tryd.prog 18 #[v, .string p, .bool dir] w fun e w' => e = .returned (.bool (ignL R p.data.toList dir)) ∧ Below w.heap.size w w' := by
  intro n
  induction n with
  | zero =>
    intro p dir w hp hn hv
    obtain ⟨A, c, rfl, _⟩ := hv
    have h0 : p.data.toList = [] := List.eq_nil_of_length_eq_zero (by rw [len_data]; omega)
    have HV : Aside0 (validB p.data.toList = false) := ⟨by rw [h0]; rfl⟩
    have HE : Aside0 (ignL R p.data.toList dir = false) := ⟨by unfold ignL; rw [h0]; rfl⟩
    rw [HE.out]
    clear h0
    go_enter Tryd.func18, Tryd.ntmps18
    go_wp2_with (go_at_call 11; refine (rvalid_calls p _ (by omega)).mono ?_; rintro e w1 ⟨rfl, hb1⟩; rw [HV.out]; have HB1 := Aside0.mk hb1; clear hb1)
    go_ret
    exact ⟨rfl, HB1.out⟩
  | succ n ih =>
    intro p dir w hp hn hv
    have IH := Aside0.mk ih
    clear ih
    have HV := Aside0.mk hv
    obtain ⟨A, c, rfl, hc, hm, _⟩ := hv
    obtain ⟨b, hb⟩ : ∃ b, validB p.data.toList = b := ⟨_, rfl⟩
    have HVB := Aside0.mk hb
    have hp9 : p.size ≤ 1000000000 := by omega
    cases b with
    | false =>
      have HE : Aside0 (ignL R p.data.toList dir = false) := ⟨by unfold ignL; rw [hb]; rfl⟩
      rw [HE.out]
      clear hb
      go_enter Tryd.func18, Tryd.ntmps18
      go_wp2_with (go_at_call 11; refine (rvalid_calls p _ hp9).mono ?_; rintro e w1 ⟨rfl, hb1⟩; rw [HVB.out]; have HB1 := Aside0.mk hb1; clear hb1)
      go_ret
      exact ⟨rfl, HB1.out⟩
    | true =>
      have hlt := par_lt hb
      have HIG : Aside0 (ignL R p.data.toList dir = (ownL R p.data.toList dir || igN R (parentL p.data.toList).length (parentL p.data.toList) true)) := ⟨by unfold ignL; rw [hb, igN_step R _ hb, Bool.true_and]⟩
      obtain ⟨u, hu⟩ : ∃ u, u = str (parentL p.data.toList) := ⟨_, rfl⟩
      have hul : u.data.toList = parentL p.data.toList := by rw [hu, str_data]
      have husz : u.size ≤ n := by rw [← len_data, hul]; rw [len_data] at hlt; omega
      have HU : Aside0 (∀ W, Calls Tryd.prog 12 #[.string p] W fun e w' => e = .returned (.string u) ∧ Below W.heap.size W w') := ⟨fun W => by rw [hu]; exact rparent_calls p W hp9⟩
      obtain ⟨o1, ho1⟩ : ∃ o1, igN R (parentL p.data.toList).length (parentL p.data.toList) true = o1 := ⟨_, rfl⟩
      have HRC : Aside0 (u.data.toList ≠ [] → ∀ W, SlC rrC e W b0 (.slice A R.length c) R → Calls Tryd.prog 18 #[.slice A R.length c, .string u, .bool true] W fun e w' => e = .returned (.bool o1) ∧ Below W.heap.size W w') := ⟨fun hne W hW => by
        refine (IH.out u true W husz (by omega) hW).mono ?_
        rintro e w' ⟨rfl, hb'⟩
        rw [hul] at hne
        refine ⟨?_, hb'⟩
        unfold ignL
        rw [hul, par_valid hb hne, Bool.true_and, ho1]⟩
      have HNL : Aside0 (u.data.toList = [] → o1 = false) := ⟨fun h => by rw [← ho1, ← hul, h]; rfl⟩
      rw [ho1] at HIG
      clear hlt hb hu hul ho1 IH
      by_cases hne : u.data.toList = []
      · obtain rfl : o1 = false := HNL.out hne
        have hn2 : u.toList = [] := by rw [toList_eq]; exact hne
        have d1 : u.toList.isEmpty = true := by rw [hn2]; rfl
        clear hne hn2 HNL HRC
        go_enter Tryd.func18, Tryd.ntmps18
        go_wp2_with (first | (go_at_call 11; refine (rvalid_calls p _ hp9).mono ?_; rintro e w1 ⟨rfl, hb1⟩; rw [HVB.out]; have HB1 := Aside0.mk hb1; clear hb1) | (go_at_call 12; refine (HU.out _).mono ?_; rintro e w2 ⟨rfl, hb2⟩; have HBL := Aside0.mk (below_step HB1.out hb2); clear hb2))
        go_loopw [8, 9] (fun y i wr => ∃ k : Nat, k ≤ R.length ∧ i = .int .i64 k ∧ y = .bool (ownN R p.data.toList dir k) ∧ Aside0 (Below w.heap.size w wr)) (fun y i wr => R.length - (intOf i).toNat)
        case atStart => exact ⟨0, Nat.zero_le _, rfl, rfl, HBL⟩
        case round =>
          obtain ⟨k, hk, rfl, rfl, HBR⟩ := hrel
          by_cases hlt : k < R.length
          · have HNX := Aside0.mk (ownN_succ (p := p.data.toList) (dir := dir) hlt)
            obtain ⟨y, hy⟩ : ∃ y, ownN R p.data.toList dir k = y := ⟨_, rfl⟩
            rw [hy] at HNX ⊢
            obtain ⟨ad, d1, he1, c0, c1, c2, c3⟩ := rr_at HV.out k hlt
            cases he1
            have c0 := cell_keep HBR.out c0
            have c1 := cell_keep HBR.out c1
            have c2 := cell_keep HBR.out c2
            have c3 := cell_keep HBR.out c3
            obtain ⟨x, hx⟩ : ∃ x, x = rk R k := ⟨_, rfl⟩
            rw [← hx] at c0 c1 c2 c3 HNX
            have z1 : (0 : Int) ≤ (k : Int) := by omega
            have z2 : (k : Int) < R.length := by omega
            obtain ⟨pat, nt, ds, wh⟩ := x
            dsimp only at c0 c1 c2 c3 HNX
            clear hy hx
            have HBX : Aside0 ((wr.alloc (.cells #[.bool nt, .bool ds, .bool wh, .string (str pat)] 64 (0, 0))).heap[wr.heap.size]? = some (.cells #[.bool nt, .bool ds, .bool wh, .string (str pat)] 64 (0, 0))) := ⟨heap_new rfl⟩
            have HB2 : Aside0 (Below (wr.alloc (.cells #[.bool nt, .bool ds, .bool wh, .string (str pat)] 64 (0, 0))).heap.size (wr.alloc (.cells #[.bool nt, .bool ds, .bool wh, .string (str pat)] 64 (0, 0))) (wr.alloc (.cells #[.bool nt, .bool ds, .bool wh, .string (str pat)] 64 (0, 0)))) := ⟨Below.refl _ _⟩
            have HBE : Aside0 (∀ w', Below (wr.alloc (.cells #[.bool nt, .bool ds, .bool wh, .string (str pat)] 64 (0, 0))).heap.size (wr.alloc (.cells #[.bool nt, .bool ds, .bool wh, .string (str pat)] 64 (0, 0))) w' → Below w.heap.size w w') := ⟨fun w' h => below_step HBR.out (below_step ((Below.refl _ wr).alloc (Nat.le_refl _) _) h)⟩
            have hdd : (ds = true ∧ dir = false) ∨ (ds = true ∧ dir = true) ∨ ds = false := by cases ds <;> cases dir <;> simp
            rcases hdd with ⟨rfl, rfl⟩ | hdd
            · cases wh with
              | true =>
                go_wp2_with fail
                go_roundw
                case rel => exact ⟨k + 1, by omega, by go_num, by rw [HNX.out]; rfl, ⟨HBE.out _ (Below.refl _ _)⟩⟩
                case measure => simp [intOf]; omega
              | false =>
                go_wp2_with (go_at_call 22; refine (rname_calls p _ hp9).mono ?_; rintro e w2 ⟨rfl, hb2⟩; have HB3 := Aside0.mk (below_step HB2.out hb2); clear hb2; have cx0 := (blk (below_heap HB3.out HBX.out)).1 0; have cx1 := (blk (below_heap HB3.out HBX.out)).1 1; have cx3 := (blk (below_heap HB3.out HBX.out)).1 3; simp only [List.getElem?_toArray, List.getElem?_cons_zero, List.getElem?_cons_succ] at cx0 cx1 cx3)
                go_roundw
                case rel => exact ⟨k + 1, by omega, by go_num, by rw [HNX.out]; rfl, ⟨HBE.out _ HB3.out⟩⟩
                case measure => simp [intOf]; omega
            · have hh : hitR p.data.toList dir ⟨pat, nt, ds, wh⟩ = matchL pat (if wh = true then p.data.toList else nameL p.data.toList) := by
                unfold hitR
                rcases hdd with ⟨rfl, rfl⟩ | rfl <;> rfl
              rw [hh] at HNX
              clear hh
              obtain ⟨o, ho⟩ : ∃ o, matchL pat (if wh = true then p.data.toList else nameL p.data.toList) = o := ⟨_, rfl⟩
              rw [ho] at HNX
              cases wh with
              | true =>
                have EM : Aside0 (matchL (str pat).data.toList p.data.toList = o) := ⟨by rw [str_data]; exact ho⟩
                have HBN := HB2
                clear ho
                rcases hdd with ⟨rfl, rfl⟩ | rfl <;> cases o with
                | true =>
                  go_wp2_with (go_at_call 10; refine (rmatch_any _ _ _).mono ?_; rintro e w3 ⟨rfl, hb3⟩; rw [EM.out]; have HB4 := Aside0.mk (below_step HBN.out hb3); clear hb3; have cy0 := (blk (below_heap HB4.out HBX.out)).1 0; simp only [List.getElem?_toArray, List.getElem?_cons_zero] at cy0)
                  go_roundw
                  case rel => exact ⟨k + 1, by omega, by go_num, by rw [HNX.out]; rfl, ⟨HBE.out _ HB4.out⟩⟩
                  case measure => simp [intOf]; omega
                | false =>
                  go_wp2_with (go_at_call 10; refine (rmatch_any _ _ _).mono ?_; rintro e w3 ⟨rfl, hb3⟩; rw [EM.out]; have HB4 := Aside0.mk (below_step HBN.out hb3); clear hb3; have cy0 := (blk (below_heap HB4.out HBX.out)).1 0; simp only [List.getElem?_toArray, List.getElem?_cons_zero] at cy0)
                  go_roundw
                  case rel => exact ⟨k + 1, by omega, by go_num, by rw [HNX.out]; rfl, ⟨HBE.out _ HB4.out⟩⟩
                  case measure => simp [intOf]; omega
              | false =>
                have EM : Aside0 (matchL (str pat).data.toList (str (nameL p.data.toList)).data.toList = o) := ⟨by rw [str_data, str_data]; exact ho⟩
                clear ho
                rcases hdd with ⟨rfl, rfl⟩ | rfl <;> cases o with
                | true =>
                  go_wp2_with (first | (go_at_call 22; refine (rname_calls p _ hp9).mono ?_; rintro e w2 ⟨rfl, hb2⟩; have HB3 := Aside0.mk (below_step HB2.out hb2); clear hb2; have cx0 := (blk (below_heap HB3.out HBX.out)).1 0; have cx1 := (blk (below_heap HB3.out HBX.out)).1 1; have cx3 := (blk (below_heap HB3.out HBX.out)).1 3; simp only [List.getElem?_toArray, List.getElem?_cons_zero, List.getElem?_cons_succ] at cx0 cx1 cx3; have HBN := HB3) | (go_at_call 10; refine (rmatch_any _ _ _).mono ?_; rintro e w3 ⟨rfl, hb3⟩; rw [EM.out]; have HB4 := Aside0.mk (below_step HBN.out hb3); clear hb3; have cy0 := (blk (below_heap HB4.out HBX.out)).1 0; simp only [List.getElem?_toArray, List.getElem?_cons_zero] at cy0))
                  go_roundw
                  case rel => exact ⟨k + 1, by omega, by go_num, by rw [HNX.out]; rfl, ⟨HBE.out _ HB4.out⟩⟩
                  case measure => simp [intOf]; omega
                | false =>
                  go_wp2_with (first | (go_at_call 22; refine (rname_calls p _ hp9).mono ?_; rintro e w2 ⟨rfl, hb2⟩; have HB3 := Aside0.mk (below_step HB2.out hb2); clear hb2; have cx0 := (blk (below_heap HB3.out HBX.out)).1 0; have cx1 := (blk (below_heap HB3.out HBX.out)).1 1; have cx3 := (blk (below_heap HB3.out HBX.out)).1 3; simp only [List.getElem?_toArray, List.getElem?_cons_zero, List.getElem?_cons_succ] at cx0 cx1 cx3; have HBN := HB3) | (go_at_call 10; refine (rmatch_any _ _ _).mono ?_; rintro e w3 ⟨rfl, hb3⟩; rw [EM.out]; have HB4 := Aside0.mk (below_step HBN.out hb3); clear hb3; have cy0 := (blk (below_heap HB4.out HBX.out)).1 0; simp only [List.getElem?_toArray, List.getElem?_cons_zero] at cy0))
                  go_roundw
                  case rel => exact ⟨k + 1, by omega, by go_num, by rw [HNX.out]; rfl, ⟨HBE.out _ HB4.out⟩⟩
                  case measure => simp [intOf]; omega
          · obtain rfl : k = R.length := by omega
            have HE : Aside0 (ownN R p.data.toList dir R.length = ignL R p.data.toList dir) := ⟨by rw [HIG.out, ownN_all, Bool.or_false]⟩
            go_wp2_with fail
            go_ret
            exact ⟨by rw [← HE.out]; rfl, HBR.out⟩
      · have hn2 : u.toList ≠ [] := by rw [toList_eq]; exact hne
        have d1 : u.toList.isEmpty = false := by rw [List.isEmpty_eq_false_iff]; exact hn2
        have HREC := Aside0.mk (HRC.out hne)
        clear hne hn2 HNL HRC
        cases o1 with
        | true =>
          go_enter Tryd.func18, Tryd.ntmps18
          go_wp2_with (first | (go_at_call 11; refine (rvalid_calls p _ hp9).mono ?_; rintro e w1 ⟨rfl, hb1⟩; rw [HVB.out]; have HB1 := Aside0.mk hb1; clear hb1) | (go_at_call 12; refine (HU.out _).mono ?_; rintro e w2 ⟨rfl, hb2⟩; have HB2 := Aside0.mk (below_step HB1.out hb2); clear hb2) | (go_at_call 18; refine (HREC.out _ (HV.out.below HB2.out)).mono ?_; rintro e w3 ⟨rfl, hb3⟩; have HB3 := Aside0.mk (below_step HB2.out hb3); clear hb3))
          go_ret
          exact ⟨by rw [HIG.out, Bool.or_true]; rfl, HB3.out⟩
        | false =>
          go_enter Tryd.func18, Tryd.ntmps18
          go_wp2_with (first | (go_at_call 11; refine (rvalid_calls p _ hp9).mono ?_; rintro e w1 ⟨rfl, hb1⟩; rw [HVB.out]; have HB1 := Aside0.mk hb1; clear hb1) | (go_at_call 12; refine (HU.out _).mono ?_; rintro e w2 ⟨rfl, hb2⟩; have HB2 := Aside0.mk (below_step HB1.out hb2); clear hb2) | (go_at_call 18; refine (HREC.out _ (HV.out.below HB2.out)).mono ?_; rintro e w3 ⟨rfl, hb3⟩; have HBL := Aside0.mk (below_step HB2.out hb3); clear hb3))
          go_loopw [8, 9] (fun y i wr => ∃ k : Nat, k ≤ R.length ∧ i = .int .i64 k ∧ y = .bool (ownN R p.data.toList dir k) ∧ Aside0 (Below w.heap.size w wr)) (fun y i wr => R.length - (intOf i).toNat)
          case atStart => exact ⟨0, Nat.zero_le _, rfl, rfl, HBL⟩
          case round =>
            obtain ⟨k, hk, rfl, rfl, HBR⟩ := hrel
            by_cases hlt : k < R.length
            · have HNX := Aside0.mk (ownN_succ (p := p.data.toList) (dir := dir) hlt)
              obtain ⟨y, hy⟩ : ∃ y, ownN R p.data.toList dir k = y := ⟨_, rfl⟩
              rw [hy] at HNX ⊢
              obtain ⟨ad, d1, he1, c0, c1, c2, c3⟩ := rr_at HV.out k hlt
              cases he1
              have c0 := cell_keep HBR.out c0
              have c1 := cell_keep HBR.out c1
              have c2 := cell_keep HBR.out c2
              have c3 := cell_keep HBR.out c3
              obtain ⟨x, hx⟩ : ∃ x, x = rk R k := ⟨_, rfl⟩
              rw [← hx] at c0 c1 c2 c3 HNX
              have z1 : (0 : Int) ≤ (k : Int) := by omega
              have z2 : (k : Int) < R.length := by omega
              obtain ⟨pat, nt, ds, wh⟩ := x
              dsimp only at c0 c1 c2 c3 HNX
              clear hy hx
              have HBX : Aside0 ((wr.alloc (.cells #[.bool nt, .bool ds, .bool wh, .string (str pat)] 64 (0, 0))).heap[wr.heap.size]? = some (.cells #[.bool nt, .bool ds, .bool wh, .string (str pat)] 64 (0, 0))) := ⟨heap_new rfl⟩
              have HB2 : Aside0 (Below (wr.alloc (.cells #[.bool nt, .bool ds, .bool wh, .string (str pat)] 64 (0, 0))).heap.size (wr.alloc (.cells #[.bool nt, .bool ds, .bool wh, .string (str pat)] 64 (0, 0))) (wr.alloc (.cells #[.bool nt, .bool ds, .bool wh, .string (str pat)] 64 (0, 0)))) := ⟨Below.refl _ _⟩
              have HBE : Aside0 (∀ w', Below (wr.alloc (.cells #[.bool nt, .bool ds, .bool wh, .string (str pat)] 64 (0, 0))).heap.size (wr.alloc (.cells #[.bool nt, .bool ds, .bool wh, .string (str pat)] 64 (0, 0))) w' → Below w.heap.size w w') := ⟨fun w' h => below_step HBR.out (below_step ((Below.refl _ wr).alloc (Nat.le_refl _) _) h)⟩
              have hdd : (ds = true ∧ dir = false) ∨ (ds = true ∧ dir = true) ∨ ds = false := by cases ds <;> cases dir <;> simp
              rcases hdd with ⟨rfl, rfl⟩ | hdd
              · cases wh with
                | true =>
                  go_wp2_with fail
                  go_roundw
                  case rel => exact ⟨k + 1, by omega, by go_num, by rw [HNX.out]; rfl, ⟨HBE.out _ (Below.refl _ _)⟩⟩
                  case measure => simp [intOf]; omega
                | false =>
                  go_wp2_with (go_at_call 22; refine (rname_calls p _ hp9).mono ?_; rintro e w2 ⟨rfl, hb2⟩; have HB3 := Aside0.mk (below_step HB2.out hb2); clear hb2; have cx0 := (blk (below_heap HB3.out HBX.out)).1 0; have cx1 := (blk (below_heap HB3.out HBX.out)).1 1; have cx3 := (blk (below_heap HB3.out HBX.out)).1 3; simp only [List.getElem?_toArray, List.getElem?_cons_zero, List.getElem?_cons_succ] at cx0 cx1 cx3)
                  go_roundw
                  case rel => exact ⟨k + 1, by omega, by go_num, by rw [HNX.out]; rfl, ⟨HBE.out _ HB3.out⟩⟩
                  case measure => simp [intOf]; omega
              · have hh : hitR p.data.toList dir ⟨pat, nt, ds, wh⟩ = matchL pat (if wh = true then p.data.toList else nameL p.data.toList) := by
                  unfold hitR
                  rcases hdd with ⟨rfl, rfl⟩ | rfl <;> rfl
                rw [hh] at HNX
                clear hh
                obtain ⟨o, ho⟩ : ∃ o, matchL pat (if wh = true then p.data.toList else nameL p.data.toList) = o := ⟨_, rfl⟩
                rw [ho] at HNX
                cases wh with
                | true =>
                  have EM : Aside0 (matchL (str pat).data.toList p.data.toList = o) := ⟨by rw [str_data]; exact ho⟩
                  have HBN := HB2
                  clear ho
                  rcases hdd with ⟨rfl, rfl⟩ | rfl <;> cases o with
                  | true =>
                    go_wp2_with (go_at_call 10; refine (rmatch_any _ _ _).mono ?_; rintro e w3 ⟨rfl, hb3⟩; rw [EM.out]; have HB4 := Aside0.mk (below_step HBN.out hb3); clear hb3; have cy0 := (blk (below_heap HB4.out HBX.out)).1 0; simp only [List.getElem?_toArray, List.getElem?_cons_zero] at cy0)
                    go_roundw
                    case rel => exact ⟨k + 1, by omega, by go_num, by rw [HNX.out]; rfl, ⟨HBE.out _ HB4.out⟩⟩
                    case measure => simp [intOf]; omega
                  | false =>
                    go_wp2_with (go_at_call 10; refine (rmatch_any _ _ _).mono ?_; rintro e w3 ⟨rfl, hb3⟩; rw [EM.out]; have HB4 := Aside0.mk (below_step HBN.out hb3); clear hb3; have cy0 := (blk (below_heap HB4.out HBX.out)).1 0; simp only [List.getElem?_toArray, List.getElem?_cons_zero] at cy0)
                    go_roundw
                    case rel => exact ⟨k + 1, by omega, by go_num, by rw [HNX.out]; rfl, ⟨HBE.out _ HB4.out⟩⟩
                    case measure => simp [intOf]; omega
                | false =>
                  have EM : Aside0 (matchL (str pat).data.toList (str (nameL p.data.toList)).data.toList = o) := ⟨by rw [str_data, str_data]; exact ho⟩
                  clear ho
                  rcases hdd with ⟨rfl, rfl⟩ | rfl <;> cases o with
                  | true =>
                    go_wp2_with (first | (go_at_call 22; refine (rname_calls p _ hp9).mono ?_; rintro e w2 ⟨rfl, hb2⟩; have HB3 := Aside0.mk (below_step HB2.out hb2); clear hb2; have cx0 := (blk (below_heap HB3.out HBX.out)).1 0; have cx1 := (blk (below_heap HB3.out HBX.out)).1 1; have cx3 := (blk (below_heap HB3.out HBX.out)).1 3; simp only [List.getElem?_toArray, List.getElem?_cons_zero, List.getElem?_cons_succ] at cx0 cx1 cx3; have HBN := HB3) | (go_at_call 10; refine (rmatch_any _ _ _).mono ?_; rintro e w3 ⟨rfl, hb3⟩; rw [EM.out]; have HB4 := Aside0.mk (below_step HBN.out hb3); clear hb3; have cy0 := (blk (below_heap HB4.out HBX.out)).1 0; simp only [List.getElem?_toArray, List.getElem?_cons_zero] at cy0))
                    go_roundw
                    case rel => exact ⟨k + 1, by omega, by go_num, by rw [HNX.out]; rfl, ⟨HBE.out _ HB4.out⟩⟩
                    case measure => simp [intOf]; omega
                  | false =>
                    go_wp2_with (first | (go_at_call 22; refine (rname_calls p _ hp9).mono ?_; rintro e w2 ⟨rfl, hb2⟩; have HB3 := Aside0.mk (below_step HB2.out hb2); clear hb2; have cx0 := (blk (below_heap HB3.out HBX.out)).1 0; have cx1 := (blk (below_heap HB3.out HBX.out)).1 1; have cx3 := (blk (below_heap HB3.out HBX.out)).1 3; simp only [List.getElem?_toArray, List.getElem?_cons_zero, List.getElem?_cons_succ] at cx0 cx1 cx3; have HBN := HB3) | (go_at_call 10; refine (rmatch_any _ _ _).mono ?_; rintro e w3 ⟨rfl, hb3⟩; rw [EM.out]; have HB4 := Aside0.mk (below_step HBN.out hb3); clear hb3; have cy0 := (blk (below_heap HB4.out HBX.out)).1 0; simp only [List.getElem?_toArray, List.getElem?_cons_zero] at cy0))
                    go_roundw
                    case rel => exact ⟨k + 1, by omega, by go_num, by rw [HNX.out]; rfl, ⟨HBE.out _ HB4.out⟩⟩
                    case measure => simp [intOf]; omega
            · obtain rfl : k = R.length := by omega
              have HE : Aside0 (ownN R p.data.toList dir R.length = ignL R p.data.toList dir) := ⟨by rw [HIG.out, ownN_all, Bool.or_false]⟩
              go_wp2_with fail
              go_ret
              exact ⟨by rw [← HE.out]; rfl, HBR.out⟩
end Go.Proofs.YtkalfkgnjmkjgaaDoor
