/-
  slices.DeleteFunc of frames, in a row of the net's own. No condition but that the row is.
-/
import Derived.Test.YtmpmngfimeojhaaNetDue
import Derived.Test.YtmpmngfimeojhaaClear
namespace Go.Proofs.Ytmpmngfimeojhaa
open Go.RowKit Go.Joins
set_option linter.unusedVariables false
set_option linter.unusedSimpArgs false

theorem idxI_first {α : Type} (p : α → Bool) (xs : List α) (i : Nat) (h : idxI p xs = i) : ∃ hi : i < xs.length, p (xs[i]'hi) = true ∧ (xs.take (i + 1)).filter (fun x => !p x) = xs.take i := by
  unfold idxI at h
  split at h
  · rename_i hany
    obtain ⟨x, hx, hp⟩ := List.any_eq_true.1 hany
    have hlt := List.findIdx_lt_length_of_exists ⟨x, hx, hp⟩
    have hi : i = xs.findIdx p := by omega
    subst hi
    refine ⟨hlt, List.findIdx_getElem (w := hlt), ?_⟩
    rw [List.take_succ_eq_append_getElem hlt, List.filter_append]
    have h1 : (xs.take (xs.findIdx p)).filter (fun x => !p x) = xs.take (xs.findIdx p) := by
      rw [List.filter_eq_self]
      intro a ha
      obtain ⟨j, hj, rfl⟩ := List.getElem_of_mem ha
      rw [List.length_take] at hj
      rw [List.getElem_take]
      have := List.not_of_lt_findIdx (p := p) (xs := xs) (i := j) (by omega)
      simpa using this
    rw [h1]
    simp [List.findIdx_getElem (w := hlt)]
  · omega
theorem idxI_none {α : Type} (p : α → Bool) (xs : List α) (h : idxI p xs = -1) : xs.filter (fun x => !p x) = xs := by
  unfold idxI at h
  split at h
  · omega
  · rename_i hany
    rw [List.filter_eq_self]
    intro a ha
    cases hp : p a with
    | false => rfl
    | true => exact absurd (List.any_eq_true.2 ⟨a, ha, hp⟩) hany

/-- A frame of an owned row, cell by cell. -/
theorem own_frame {w : World} {base g cap : Nat} {xs : List Fr} {n : Nat} (h : w.ownsRow base 42 4 (.slice (some ⟨g, 0, none⟩) n cap) n (xs.flatMap frC)) (i : Nat) (hi : i < xs.length) :
    w.cell? ⟨g, i * 4, none⟩ = some (.int .i64 (xs[i]'hi).id) ∧ w.cell? ⟨g, i * 4 + 1, none⟩ = some (.int .i64 (xs[i]'hi).whom) ∧ w.cell? ⟨g, i * 4 + 2, none⟩ = some (.int .i64 (xs[i]'hi).due) ∧ w.cell? ⟨g, i * 4 + 3, none⟩ = some (xs[i]'hi).u ∧ ∀ j, w.frozen? ⟨g, j, none⟩ = false := by
  have ha : ∀ k, (⟨g, 0, none⟩ : Addr).add k = ⟨g, k, none⟩ := fun k => by unfold Addr.add; split <;> simp_all
  have hc : ∀ j u, (frC (xs[i]'hi))[j]? = some u → w.cell? ⟨g, i * 4 + j, none⟩ = some u := fun j u hj => by
    have hj4 : j < 4 := (List.getElem?_eq_some_iff.1 hj).1
    have := World.ownsRow.cells h (g := g) rfl (i * 4 + j) u (by rw [flat_get frC_len xs i j hi hj4]; exact hj)
    rwa [ha] at this
  refine ⟨hc 0 _ rfl, hc 1 _ rfl, hc 2 _ rfl, hc 3 _ rfl, ?_⟩
  rcases h.2 with ⟨h', _⟩ | ⟨g', cap', cur, h', _, hh, _⟩
  · cases h'
  · cases h'; exact fun j => (blk hh).2 j
def frT (e : Nat) : Prop := e = 42
set_option maxHeartbeats 2000000 in
theorem deleteFunc_calls {base : Nat} {v : Value} {fs : List Fr} (p : Fr → Bool) (k : Nat) (lb : Array Value) (w : World) (hO : w.ownsRow base 42 4 v fs.length (fs.flatMap frC)) (hb : base ≤ w.heap.size) (hu : ∀ f ∈ fs, ∃ A n c, f.u = .slice A n c) (eg : ∀ args w, (callFunc k args).run Try.prog w = .ok (.enter k args) w)
    (hp : ∀ W f, Keeps frT base w W → Calls Try.prog k (#[.agg #[.int .i64 f.id, .int .i64 f.whom, .int .i64 f.due, f.u]] ++ lb) W fun e w' => e = .returned (.bool (p f)) ∧ Below W.heap.size W w') :
    Calls Try.prog 28 #[v, .func (.func k) #[] lb] w fun e w' => (∃ v', e = .returned v' ∧ w'.ownsRow base 42 4 v' (fs.filter fun f => !p f).length ((fs.filter fun f => !p f).flatMap frC)) ∧ Keeps frT base w w' := by
  have HO := Aside0.mk hO
  have HP := Aside0.mk hp
  have hI := index_calls p k lb w (SlC.of_own hO w.heap.size) eg (fun W f hW => hp W f (.of_below hW))
  rcases idxI_cases p fs with ⟨h1, _⟩ | ⟨i0, hi0, h1, _⟩
  · have HF := Aside0.mk (idxI_none p fs h1)
    rw [h1] at hI
    obtain ⟨A, c, rfl, hc, hm, _⟩ := SlC.of_own hO 0
    clear hO hp
    go_enter Try.func28, Try.ntmps28
    go_wp2_with fail
    refine hI.mono ?_
    rintro e w1 ⟨rfl, hb1⟩
    go_wp2_with fail
    go_ret
    exact ⟨⟨_, rfl, by rw [HF.out]; exact own_below HO.out hb1⟩, .of_below hb1⟩
  · obtain ⟨_, hp0, hf0⟩ := idxI_first p fs i0 h1
    rw [h1] at hI
    have HF := Aside0.mk hf0
    rcases hO.2 with ⟨_, h0⟩ | ⟨g, cap, cur, rfl, hg, _, hnc, hcm, _⟩
    · omega
    have hmx : fs.length ≤ 9223372036854775807 := by simp only [maxLen] at hcm; omega
    clear hO hp hf0 hp0 h1
    have HB0 : Aside0 (∀ (w : World) o, Below w.heap.size w (w.alloc o)) := ⟨fun w o => (Below.refl _ _).alloc (Nat.le_refl _) _⟩
    go_enter Try.func28, Try.ntmps28
    go_wp2_with fail
    refine hI.mono ?_
    rintro e w1 ⟨rfl, hb1⟩
    have hne : ((i0 : Int) == -1) = false := by simp
    go_wp2_with fail
    go_loopw [5, 6] (fun i j wr => ∃ (a b : Nat), a < b ∧ b ≤ fs.length ∧ i = .int .i64 a ∧ j = .int .i64 b ∧ Aside0 (∃ xs : List Fr, xs.length = fs.length ∧ wr.ownsRow base 42 4 (.slice (some ⟨g, 0, none⟩) fs.length cap) fs.length (xs.flatMap frC) ∧ xs.take a = (fs.take b).filter (fun f => !p f) ∧ xs.drop b = fs.drop b ∧ Keeps frT base w wr)) (fun i j wr => fs.length - (intOf j).toNat)
    case atStart => exact ⟨i0, i0 + 1, by omega, by omega, rfl, rfl, ⟨fs, rfl, own_below HO.out hb1, HF.out.symm, rfl, .of_below hb1⟩⟩
    case round =>
      obtain ⟨a, b, hab, hbn, rfl, rfl, hs⟩ := hrel
      by_cases hlt : b < fs.length
      · obtain ⟨xs, hxl, hXO, hxt, hxd, hK⟩ := hs.out
        have hxb : xs[b]'(by omega) = fs[b]'hlt := by
          have h1 := congrArg (fun l => l[0]?) hxd
          simp only [List.getElem?_drop, Nat.add_zero] at h1
          rw [List.getElem?_eq_getElem (by omega), List.getElem?_eq_getElem hlt] at h1
          exact Option.some.inj h1
        obtain ⟨d0, d1, d2, d3, d4⟩ := own_frame hXO b (by omega)
        obtain ⟨Af, nf, cf, huf⟩ := hu _ (List.getElem_mem hlt)
        have HTK : Aside0 (fs.take (b + 1) = fs.take b ++ [fs[b]'hlt] ∧ fs.drop b = (fs[b]'hlt) :: fs.drop (b + 1)) := ⟨List.take_succ_eq_append_getElem hlt, List.drop_eq_getElem_cons hlt⟩
        rw [hxb] at d0 d1 d2 d3
        obtain ⟨f, hf⟩ : ∃ f, f = fs[b]'hlt := ⟨_, rfl⟩
        rw [← hf] at d0 d1 d2 d3 HTK huf
        obtain ⟨fid, fwhom, fdue, fb, fu⟩ := f
        simp only at huf d0 d1 d2 d3
        subst huf
        have HG := Aside0.mk (show g < wr.heap.size from own_blk_lt hXO g rfl)
        have HX := Aside0.mk (show xs.length = fs.length ∧ wr.ownsRow base 42 4 (.slice (some ⟨g, 0, none⟩) fs.length cap) fs.length (xs.flatMap frC) ∧ xs.take a = (fs.take b).filter (fun f => !p f) ∧ xs.drop b = fs.drop b ∧ Keeps frT base w wr from ⟨hxl, hXO, hxt, hxd, hK⟩)
        have hcall := HP.out (wr.alloc (.cells #[.int .i64 fid, .int .i64 fwhom, .int .i64 fdue, .slice Af nf cf] 42)) ⟨fid, fwhom, fdue, fb, .slice Af nf cf⟩ (hK.alloc _)
        have HEQ := Aside0.mk (show (wr.alloc (.cells #[.int .i64 fid, .int .i64 fwhom, .int .i64 fdue, .slice Af nf cf] 42)).heap[wr.heap.size]? = some (.cells #[.int .i64 fid, .int .i64 fwhom, .int .i64 fdue, .slice Af nf cf] 42 (0, 0)) from heap_new rfl)
        clear hf hxb hXO hxt hxd hK
        cases hq : p ⟨fid, fwhom, fdue, fb, .slice Af nf cf⟩ with
        | true =>
          rw [hq] at hcall
          go_wp2_with (go_at_fn k; refine hcall.mono ?_; rintro e w2 ⟨rfl, hb2⟩; have HB2 := Aside0.mk (below_step (HB0.out _ _) hb2); clear hb2)
          go_roundw
          case rel =>
            refine ⟨a, b + 1, by omega, by omega, rfl, by go_num, ⟨xs, HX.out.1, own_below HX.out.2.1 HB2.out, ?_, ?_, HX.out.2.2.2.2.then_below HB2.out⟩⟩
            · rw [HX.out.2.2.1, HTK.out.1, List.filter_append]; simp [hq]
            · have h1 := HX.out.2.2.2.1
              rw [HTK.out.2] at h1
              rw [← List.drop_drop, h1]; rfl
          case measure => simp [intOf]; omega
        | false =>
          rw [hq] at hcall
          go_wp2_with (go_at_fn k; refine hcall.mono ?_; rintro e w2 ⟨rfl, hb2⟩; have HB2 := Aside0.mk (below_step (HB0.out _ _) hb2)
                       have e0 := (blk (below_heap hb2 HEQ.out)).1 0; have e1 := (blk (below_heap hb2 HEQ.out)).1 1; have e2 := (blk (below_heap hb2 HEQ.out)).1 2; have e3 := (blk (below_heap hb2 HEQ.out)).1 3; simp at e0 e1 e2 e3
                       obtain ⟨t0, t1, t2, t3, t4⟩ := own_frame (own_below HX.out.2.1 HB2.out) a (by have := HX.out.1; omega)
                       clear hb2)
          go_roundw
          case rel =>
            have hal : a < xs.length := by have := HX.out.1; omega
            have hO4 : w2.ownsRow base 42 4 (.slice (some ⟨g, 0, none⟩) xs.length cap) xs.length (xs.flatMap frC) := by rw [HX.out.1]; exact own_below HX.out.2.1 HB2.out
            obtain ⟨hs1, hs2⟩ := own_set4 frC_len (y := (⟨fid, fwhom, fdue, fb, .slice Af nf cf⟩ : Fr)) rfl hO4 a hal
            rw [HX.out.1] at hs1
            refine ⟨a + 1, b + 1, by omega, by omega, by go_num, by go_num, ⟨xs.set a ⟨fid, fwhom, fdue, fb, .slice Af nf cf⟩, by rw [List.length_set]; exact HX.out.1, hs1, ?_, ?_, (HX.out.2.2.2.2.then_below HB2.out).trans (Keeps.grown hs2 fun k hk => ?_)⟩⟩
            · rw [HTK.out.1, List.filter_append, ← HX.out.2.2.1]
              rw [List.take_succ_eq_append_getElem (by simpa using hal), List.take_set_of_le (Nat.le_refl _)]
              simp [hq]
            · have h1 := HX.out.2.2.2.1
              rw [HTK.out.2] at h1
              rw [List.drop_set_of_lt (by omega), ← List.drop_drop, h1]; rfl
            · obtain ⟨h1, cur, fr, e', h2, rfl⟩ := own_row hO4 k hk
              exact ⟨h1, cur, _, fr, h2, rfl⟩
          case measure => simp [intOf]; omega
      · have hbn' : b = fs.length := by omega
        obtain ⟨xs, hxl, hXO, hxt, hxd, hK⟩ := hs.out
        have HX := Aside0.mk (show xs.length = fs.length ∧ wr.ownsRow base 42 4 (.slice (some ⟨g, 0, none⟩) fs.length cap) fs.length (xs.flatMap frC) ∧ xs.take a = fs.filter (fun f => !p f) ∧ Keeps frT base w wr from ⟨hxl, hXO, by rw [hxt, hbn', List.take_length], hK⟩)
        clear hxl hXO hxt hxd hK
        have hca : ¬ cap = a := by omega
        have hal : a < fs.length := by omega
        have hcell : ∀ j, j < (fs.length - a) * 4 → (wr.cell? ⟨g, a * 4 + j, none⟩).isSome = true := fun j hj => by
          have h1 := World.ownsRow.cells HX.out.2.1 (g := g) rfl (a * 4 + j)
          have hlen : (xs.flatMap frC).length = fs.length * 4 := by rw [flat_len frC_len, HX.out.1]
          have h2 := h1 _ (List.getElem?_eq_getElem (by omega))
          have ha : (⟨g, 0, none⟩ : Addr).add (a * 4 + j) = ⟨g, a * 4 + j, none⟩ := by unfold Addr.add; split <;> simp_all
          rw [ha] at h2
          rw [h2]; rfl
        have hfz : ∀ j, wr.frozen? ⟨g, j, none⟩ = false := (own_frame HX.out.2.1 a (by have := HX.out.1; omega)).2.2.2.2
        have HCZ := Aside0.mk hcell
        clear hcell
        go_wp2_with
          ((with_reducible refine wpList_clear_row (e := 42) (z := .agg #[.int .i64 0, .int .i64 0, .int .i64 0, .slice none 0 0]) (k := 4) ?hgd (.tmp 38) 33 ?ho Try.underlying33 (zero_of_info info_fr) ?hz ?hk0 ?h1 g (a * 4) (fs.length - a) (cap - a) ?hx ?hn ?hc ?hf ?h)
           (case ho => rfl)
           (case hgd => rfl)
           (case hz => rfl)
           (case hk0 => decide)
           (case h1 => simp [Value.cells, Value.oneCell'])
           (case hx => rfl)
           (case hn => omega)
           (case hc => exact HCZ.out)
           (case hf => exact fun j _ => hfz _))
        go_ret
        have hlen : (fs.filter (fun f => !p f)).length = a := by
          rw [← HX.out.2.2.1, List.length_take, HX.out.1]; omega
        refine ⟨⟨_, rfl, ?_⟩, HX.out.2.2.2.trans (Keeps.grown (setCells_grown _ _ _) fun k hk => ?_)⟩
        · have h1 := own_cleared (Builtin.zeroCells (Value.agg #[.int .i64 0, .int .i64 0, .int .i64 0, .slice none 0 0]).cells (fs.length - a)).toList HX.out.2.1 (i := a) (by omega)
          rw [← flat_take frC_len, HX.out.2.2.1] at h1
          rw [hlen]
          exact h1
        · obtain ⟨h1, cur, fr, e', h2, rfl⟩ := own_row HX.out.2.1 k hk
          exact ⟨h1, cur, _, fr, h2, rfl⟩
end Go.Proofs.Ytmpmngfimeojhaa
