/-
  The frames that wait and of which something holds: new frames, with new bytes. No condition but that the net can be read, and that it is not more than memory.
-/
import Derived.Test.YtmpmngfimeojhaaNetSend
import Derived.WalkMore
namespace Go.Proofs.Ytmpmngfimeojhaa
open Go.RowKit Go.Joins
set_option linter.unusedVariables false
set_option linter.unusedSimpArgs false

/-- What counts of a frame. -/
def Fr.key (f : Fr) : Int × Int × Int × List UInt8 := (f.id, f.whom, f.due, f.b)
/-- New frames that a call made. -/
def OwnF (w : World) (base : Nat) (v : Value) (fs : List Fr) : Prop := w.ownsRow base 42 4 v fs.length (fs.flatMap frC) ∧ ∀ f ∈ fs, Sl bv 5 w 0 f.u f.b
theorem OwnF.keeps {T : Nat → Prop} {w w' : World} {base base' : Nat} {v : Value} {fs : List Fr} (h : OwnF w base v fs) (hk : Keeps T base' w w') (h1 : ¬ T 42) (h2 : ¬ T 5) (hb : base ≤ base') : OwnF w' base v fs :=
  ⟨own_keeps h.1 hk h1, fun f hf => (h.2 f hf).keeps hk h2 (Nat.zero_le _)⟩
theorem OwnF.below {w w' : World} {base : Nat} {v : Value} {fs : List Fr} (h : OwnF w base v fs) (hk : Below w.heap.size w w') : OwnF w' base v fs :=
  h.keeps (T := fun _ => False) (.of_below hk) (fun h => h) (fun h => h) (Nat.le_refl _)
theorem OwnF.nil (w : World) (base : Nat) : OwnF w base (.slice none 0 0) [] := ⟨World.ownsRow_nil _ _ _ _, fun f hf => by cases hf⟩
theorem OwnF.shape {w : World} {base : Nat} {v : Value} {fs : List Fr} (h : OwnF w base v fs) : ∃ A c, v = .slice A fs.length c ∧ fs.length ≤ c ∧ c ≤ maxLen := by
  obtain ⟨A, c, h1, h2, h3, _⟩ := SlC.of_own h.1 0
  exact ⟨A, c, h1, h2, h3⟩

/-- A box is written. -/
theorem some_mid {B K : Nat} {w3 : World} {v : Value} {fs' : List Fr} {cur : Array Value} {u : Value} {b : List UInt8} (hO : OwnF w3 B v fs') (hbx : w3.heap[K]? = some (.cells cur 42 (0, 0))) (hK : B ≤ K) (hne : v.ownBlock ≠ some K) (hu : Sl bv 5 w3 0 u b) :
    OwnF (w3.setCell ⟨K, 3, none⟩ u) B v fs' ∧ Sl bv 5 (w3.setCell ⟨K, 3, none⟩ u) 0 u b ∧ Below B w3 (w3.setCell ⟨K, 3, none⟩ u) := by
  have k1 : Keeps (fun e => e = 42) B w3 (w3.setCell ⟨K, 3, none⟩ u) := Keeps.setCell (T := fun e => e = 42) (a := ⟨K, 3, none⟩) hK hbx rfl _
  exact ⟨⟨ownsRow_setCell_other hO.1 hne _, fun f hf => (hO.2 f hf).keeps k1 (by decide) (Nat.zero_le _)⟩, hu.keeps k1 (by decide) (Nat.zero_le _), k1.below (Nat.le_refl _) (by have := blk_lt hbx; omega)⟩
/-- A frame is put behind. -/
theorem some_push {B : Nat} {w4 w5 : World} {v v5 : Value} {fs' : List Fr} {f : Fr} {o : Obj} (hO : OwnF w4 B v fs') (hu : Sl bv 5 w4 0 f.u f.b) (hB : B ≤ w4.heap.size) (hown : w5.ownsRow B 42 4 v5 (fs'.length + 1) (fs'.flatMap frC ++ frC f)) (hg : (w4.alloc o).grownBy w5 v.ownBlock) :
    OwnF w5 B v5 (fs' ++ [f]) ∧ Below B w4 w5 := by
  have hO' := hO.below ((Below.refl _ _).alloc (Nat.le_refl _) o)
  have k1 : Keeps (fun e => e = 42) B (w4.alloc o) w5 := Keeps.grown hg fun k hk => by
    obtain ⟨h1, cur, fr, e', h2, rfl⟩ := own_row hO'.1 k hk
    exact ⟨h1, cur, _, fr, h2, rfl⟩
  have k2 := ((Keeps.refl (fun e => e = 42) B w4).alloc o).trans k1
  refine ⟨⟨by rw [List.length_append, List.flatMap_append]; simpa using hown, fun x hx => ?_⟩, k2.below (Nat.le_refl _) hB⟩
  rcases List.mem_append.1 hx with hx | hx
  · exact (hO.2 x hx).keeps k2 (by decide) (Nat.zero_le _)
  · rw [List.mem_singleton] at hx
    subst hx
    exact hu.keeps k2 (by decide) (Nat.zero_le _)

set_option maxHeartbeats 2000000 in
theorem some_calls {base g : Nat} {v : Value} {s : NetS} (p : Fr → Bool) (k : Nat) (lb : Array Value) (w : World) (N : NetR w base g v s) (eg : ∀ args w, (callFunc k args).run Try.prog w = .ok (.enter k args) w)
    (hp : ∀ W f, Below w.heap.size w W → Calls Try.prog k (#[.agg #[.int .i64 f.id, .int .i64 f.whom, .int .i64 f.due, f.u]] ++ lb) W fun e w' => e = .returned (.bool (p f)) ∧ Below W.heap.size W w')
    (hn : s.fs.length ≤ 1099511627776) (hbl : ∀ f ∈ s.fs, f.b.length ≤ 140737488355328) :
    Calls Try.prog 31 #[.pointer (some ⟨g, 0, none⟩), .func (.func k) #[] lb] w fun e w' => (∃ v' fs', e = .returned v' ∧ OwnF w' w.heap.size v' fs' ∧ fs'.map Fr.key = (s.fs.filter p).map Fr.key) ∧ Below w.heap.size w w' := by
  have HN := Aside0.mk N
  have HNL := Aside0.mk hn
  have HBL := Aside0.mk hbl
  have HP := Aside0.mk hp
  have HB0 : Aside0 (∀ (w : World) o, Below w.heap.size w (w.alloc o)) := ⟨fun w o => (Below.refl _ _).alloc (Nat.le_refl _) _⟩
  obtain ⟨c0, c1, c2, c3⟩ := N.cells
  obtain ⟨A, c, rfl, hc, hm⟩ := N.shape
  have hmx : s.fs.length ≤ 9223372036854775807 := by simp only [maxLen] at hm; omega
  clear N hbl hp hm
  go_enter Try.func31, Try.ntmps31
  go_wp2_with fail
  go_step3
  go_wp2_with fail
  go_step3
  go_wp2_with fail
  go_loopw [4, 14] (fun o i wr => ∃ n : Nat, n ≤ s.fs.length ∧ i = .int .i64 n ∧ (∃ A m c, o = .slice A m c) ∧ Aside0 ((∃ fs', OwnF wr w.heap.size o fs' ∧ fs'.map Fr.key = ((s.fs.take n).filter p).map Fr.key) ∧ Below w.heap.size w wr)) (fun o i wr => s.fs.length - (intOf i).toNat)
  case atStart => exact ⟨0, Nat.zero_le _, rfl, ⟨_, _, _, rfl⟩, ⟨⟨[], OwnF.nil _ _, rfl⟩, Below.refl _ _⟩⟩
  case round =>
    obtain ⟨n, hn', rfl, ⟨Ao, mo, co, rfl⟩, hs⟩ := hrel
    by_cases hlt : n < s.fs.length
    · obtain ⟨ad, c', he, d0, d1, d2, d3⟩ := frame_at (SlC.of_own (HN.out.below hs.out.2).row 0) n hlt
      cases he
      have HBF := Aside0.mk ((HN.out.below hs.out.2).bytes _ (List.getElem_mem hlt))
      have HLF := Aside0.mk (HBL.out _ (List.getElem_mem hlt))
      have HTK : Aside0 (s.fs.take (n + 1) = s.fs.take n ++ [s.fs[n]'hlt]) := ⟨List.take_succ_eq_append_getElem hlt⟩
      obtain ⟨f, hf⟩ : ∃ f, f = s.fs[n]'hlt := ⟨_, rfl⟩
      rw [← hf] at d0 d1 d2 d3 HBF HLF HTK
      obtain ⟨Af, cf, hu, _⟩ := HBF.out
      obtain ⟨fid, fwhom, fdue, fb, fu⟩ := f
      simp only at d0 d1 d2 d3 hu
      subst hu
      clear hf
      have HX := Aside0.mk (show Below w.heap.size w (wr.alloc (.cells #[.int .i64 fid, .int .i64 fwhom, .int .i64 fdue, .slice Af fb.length cf] 42)) from below_step hs.out.2 (HB0.out _ _))
      have hcall := HP.out (wr.alloc (.cells #[.int .i64 fid, .int .i64 fwhom, .int .i64 fdue, .slice Af fb.length cf] 42)) ⟨fid, fwhom, fdue, fb, .slice Af fb.length cf⟩ HX.out
      have HEQ := Aside0.mk (show (wr.alloc (.cells #[.int .i64 fid, .int .i64 fwhom, .int .i64 fdue, .slice Af fb.length cf] 42)).heap[wr.heap.size]? = some (.cells #[.int .i64 fid, .int .i64 fwhom, .int .i64 fdue, .slice Af fb.length cf] 42 (0, 0)) from heap_new rfl)
      cases hq : p ⟨fid, fwhom, fdue, fb, .slice Af fb.length cf⟩ with
      | false =>
        rw [hq] at hcall
        have HFL : Aside0 ((s.fs.take (n + 1)).filter p = (s.fs.take n).filter p) := ⟨by rw [HTK.out, List.filter_append]; simp [hq]⟩
        go_wp2_with (go_at_fn k; refine hcall.mono ?_; rintro e w2 ⟨rfl, hb2⟩; have HB2 := Aside0.mk (below_step (HB0.out _ _) hb2); clear hb2)
        go_roundw
        case rel =>
          obtain ⟨⟨fs', h1, h2⟩, h3⟩ := hs.out
          exact ⟨n + 1, by omega, by go_num, ⟨_, _, _, rfl⟩, ⟨⟨fs', h1.below HB2.out, by rw [HFL.out]; exact h2⟩, below_step h3 HB2.out⟩⟩
        case measure => simp [intOf]; omega
      | true =>
        rw [hq] at hcall
        have HFL : Aside0 ((s.fs.take (n + 1)).filter p = (s.fs.take n).filter p ++ [⟨fid, fwhom, fdue, fb, .slice Af fb.length cf⟩]) := ⟨by rw [HTK.out, List.filter_append]; simp [hq]⟩
        go_wp2_with (go_at_fn k; refine hcall.mono ?_; rintro e w2 ⟨rfl, hb2⟩; have HB2 := Aside0.mk (below_step (HB0.out _ _) hb2); have e3 := (blk (below_heap hb2 HEQ.out)).1 3; simp at e3; have HE := Aside0.mk (below_heap hb2 HEQ.out); clear hb2)
        refine (clone_calls _ (HBF.out.below HB2.out) HLF.out).mono ?_
        rintro e w3 ⟨u', rfl, hown, hb3⟩
        obtain ⟨⟨fs', hO, hkey⟩, hBw⟩ := hs.out
        obtain ⟨A0, c0', he0, _⟩ := hO.shape
        cases he0
        have hne : (Value.slice Ao fs'.length co).ownBlock ≠ some wr.heap.size := fun he => by have := own_blk_lt hO.1 _ he; omega
        have hfl : fs'.length ≤ 1099511627776 := by
          have h1 := congrArg List.length hkey
          rw [List.length_map, List.length_map] at h1
          have h2 := List.length_filter_le p (s.fs.take n)
          have h3 := HNL.out
          rw [List.length_take] at h2
          omega
        have H3 := Aside0.mk (some_mid ((hO.below HB2.out).below hb3) (below_heap hb3 HE.out) hBw.size hne (Sl.of_own (b := 0) hown))
        have hz := blk (below_heap hb3 HE.out)
        have z0 := hz.1 0
        have z1 := hz.1 1
        have z2 := hz.1 2
        have z3 := hz.1 3
        have zf := hz.2
        simp at z0 z1 z2 z3
        have HBW := Aside0.mk (show w.heap.size ≤ w3.heap.size ∧ Below w.heap.size w w3 ∧ fs'.length ≤ 1099511627776 ∧ fs'.map Fr.key = ((s.fs.take n).filter p).map Fr.key from ⟨Nat.le_trans hBw.size (Nat.le_trans HB2.out.size hb3.size), below_step (below_step hBw HB2.out) hb3, hfl, hkey⟩)
        obtain ⟨A', c', rfl, _⟩ := Sl.of_own (b := 0) hown
        obtain ⟨i0', hi0, hz0, hz1, hz2⟩ := info_parts info_fr
        clear hown hb3 hO hBw hz hfl hkey hne
        go_wp2_with
          (at_builtin
           refine wpList_append_lies (w := (w3.setCell ⟨wr.heap.size, 3, none⟩ (.slice A' fb.length c')).alloc (.cells #[.int .i64 fid, .int .i64 fwhom, .int .i64 fdue, .slice A' fb.length c'] 42)) rfl (.tmp 26) (.tmp 28) 33 rfl w.heap.size 42 i0' _ 4 48 Try.underlying33 hi0 hz0 hz1 hz2 rfl (by omega) (.slice Ao fs'.length co) fs'.length (fs'.flatMap frC) rfl (own_below H3.out.1.1 (HB0.out _ _))
              ⟨w3.heap.size, 0, none⟩ 1 1 [.int .i64 fid, .int .i64 fwhom, .int .i64 fdue, .slice A' fb.length c'] rfl rfl (World.news_of_block (cs := #[.int .i64 fid, .int .i64 fwhom, .int .i64 fdue, .slice A' fb.length c']) (t := 42) (fr := (0, 0)) (heap_new (by simp))) (by simp [Value.oneCell'])
              (by omega) (by have := HBW.out.2.2.1; simp only [maxLen]; omega) (by have := HBW.out.2.2.1; omega) (by have := HBW.out.1; simp; omega) (w3.heap.size + 1) (by simp) ?_
           intro gg cap w5 hown hgrow _ _
           have H5 := Aside0.mk (some_push (f := ⟨fid, fwhom, fdue, fb, .slice A' fb.length c'⟩) H3.out.1 H3.out.2.1 (by have := HBW.out.1; simp; omega) hown hgrow)
           clear hown hgrow)
        go_roundw
        case rel =>
          refine ⟨n + 1, by omega, by go_num, ⟨_, _, _, rfl⟩, ⟨⟨_, H5.out.1, ?_⟩, (HBW.out.2.1.trans H3.out.2.2).trans H5.out.2⟩⟩
          rw [HFL.out, List.map_append, List.map_append, HBW.out.2.2.2]
          rfl
        case measure => simp [intOf]; omega
    · go_wp2_with fail
      rw [Exit.noGoto_ret]
      go_ret
      obtain ⟨⟨fs', h1, h2⟩, h3⟩ := hs.out
      refine ⟨⟨_, fs', rfl, h1, ?_⟩, h3⟩
      rw [h2, List.take_of_length_le (by omega)]
end Go.Proofs.Ytmpmngfimeojhaa
