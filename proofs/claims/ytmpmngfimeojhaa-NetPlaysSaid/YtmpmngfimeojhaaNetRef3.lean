/-
  The reference's Take; two lists of frames. No condition but that the nets can be read, and that they are not more than memory.
-/
import Derived.Test.YtmpmngfimeojhaaNetRef2
import Derived.Test.YtmpmngfimeojhaaListsEq
namespace Go.Proofs.Ytmpmngfimeojhaa
open Go.RowKit Go.Joins
set_option linter.unusedVariables false
set_option linter.unusedSimpArgs false

/-- A list of byte slices of the call's own, from rb on; the bytes are older than bb, or lie in blocks of bytes. -/
def OwnG (w : World) (rb bb : Nat) (v : Value) (L : List (List UInt8)) : Prop :=
  ∃ vs : List Value, vs.length = L.length ∧ w.ownsRow rb 22 1 v vs.length vs ∧ ∀ (i : Nat) (u : Value) (x : List UInt8), vs[i]? = some u → L[i]? = some x → Sl bv 5 w bb u x
theorem OwnG.nil (w : World) (rb bb : Nat) : OwnG w rb bb (.slice none 0 0) [] := ⟨[], rfl, World.ownsRow_nil _ _ _ _, by simp⟩
theorem OwnG.keeps {T : Nat → Prop} {w w' : World} {rb bb base' : Nat} {v : Value} {L : List (List UInt8)} (h : OwnG w rb bb v L) (hk : Keeps T base' w w') (h1 : ¬ T 22) (h2 : ¬ T 5) (hb : bb ≤ base') : OwnG w' rb bb v L := by
  obtain ⟨vs, e, ho, hs⟩ := h
  exact ⟨vs, e, own_keeps ho hk h1, fun i u x hu hx => (hs i u x hu hx).keeps hk h2 hb⟩
theorem OwnG.below {w w' : World} {rb bb : Nat} {v : Value} {L : List (List UInt8)} (h : OwnG w rb bb v L) (hk : Below w.heap.size w w') : OwnG w' rb bb v L :=
  h.keeps (T := fun _ => False) (base' := bb) (.of_below hk) (fun h => h) (fun h => h) (Nat.le_refl _)
theorem OwnG.reads {w : World} {rb bb : Nat} {v : Value} {L : List (List UInt8)} (h : OwnG w rb bb v L) : SlL w bb v L := by
  obtain ⟨vs, h1, h2, h3⟩ := h
  exact ⟨vs, h1, Sl.of_own (enc := id) (by simpa using h2), h3⟩
theorem OwnG.row {w : World} {rb bb : Nat} {v : Value} {L : List (List UInt8)} (h : OwnG w rb bb v L) : ∀ k, v.ownBlock = some k → rb ≤ k ∧ ∃ cur e fr, w.heap[k]? = some (.cells cur e fr) ∧ e = 22 := by
  obtain ⟨vs, e, ho, hb⟩ := h
  intro k hk
  obtain ⟨h1, cur, fr, e', h2, rfl⟩ := own_row ho k hk
  exact ⟨h1, cur, _, fr, h2, rfl⟩
theorem OwnG.shape {w : World} {rb bb : Nat} {v : Value} {L : List (List UInt8)} (h : OwnG w rb bb v L) : ∃ A c, v = .slice A L.length c ∧ L.length ≤ c := by
  obtain ⟨A, c, h1, h2, _⟩ := h.reads.shape
  exact ⟨A, c, h1, h2⟩
theorem append_g {P : Program} {ops : Array Oper} {rest : List Oper} {o : Oper} {a : Act} {Q : Exit → Act → World → Prop} {w : World} {rb bb : Nat} {v : Value} {L : List (List UInt8)} (hP : P = Try.prog) (hgd : o.guard = none) (s x : Operand)
    (ho : o.op = .call { callee := .builtin .append, args := #[s, x], argTypes := #[30, 30] })
    (y : Value) (Y : List UInt8) (g c e0 : Nat) (fr : Nat × Nat) (hs : a.eval s = v) (hx : a.eval x = .slice (some ⟨g, 0, none⟩) 1 c) (hown : OwnG w rb bb v L) (hu : w.heap[g]? = some (.cells #[y] e0 fr)) (hY : Sl bv 5 w bb y Y)
    (hbytes : (L.length + 1) * 24 ≤ 140737488355328) (hbase : rb ≤ w.heap.size) (hbb : bb ≤ rb)
    (h : ∀ v' w', OwnG w' rb bb v' (L ++ [Y]) → w.grownBy w' v.ownBlock → (∃ A n c, v' = .slice A n c) → wpList P ops Q rest (a.put o.dst v') w') : wpList P ops Q (o :: rest) a w := by
  subst hP
  have hrow := hown.row
  obtain ⟨vs, h1, h2, h3⟩ := hown
  have hy1 : y.oneCell' = true := by obtain ⟨A, c, rfl, _⟩ := hY; rfl
  refine append_one hgd s x 30 ho rb 22 _ _ Try.underlying30 info_bytes rfl (by decide) v vs y hy1 g c e0 fr hs hx h2 hu (by rw [h1]; exact hbytes) hbase ?_
  intro v' w' h4 h5 _
  have hk : Keeps (fun e => e = 22) rb w w' := Keeps.grown h5 hrow
  refine h v' w' ⟨vs ++ [y], by simp [h1], h4, fun i u x hu hx => ?_⟩ h5 ?_
  · rcases Nat.lt_or_ge i vs.length with hi | hi
    · rw [List.getElem?_append_left hi] at hu
      rw [List.getElem?_append_left (by omega)] at hx
      exact (h3 i u x hu hx).keeps hk (by decide) hbb
    · rw [List.getElem?_append_right hi] at hu
      rw [List.getElem?_append_right (by omega), ← h1] at hx
      have h0 : i - vs.length = 0 := by
        rcases Nat.eq_zero_or_pos (i - vs.length) with h0 | h0
        · exact h0
        · rw [List.getElem?_eq_none (by simp; omega)] at hu; cases hu
      rw [h0] at hu hx
      cases hu; cases hx
      exact hY.keeps hk (by decide) hbb
  · rcases h4.2 with ⟨rfl, _⟩ | ⟨g, cap, cur, rfl, _⟩
    · exact ⟨none, 0, 0, rfl⟩
    · exact ⟨_, _, _, rfl⟩

set_option maxHeartbeats 2000000 in
theorem rtake_calls {base g : Nat} {v : Value} {s : NetS} (to' now : Int) (w : World) (N : RNet w base g v s) (hn : s.fs.length ≤ 1099511627776) :
    Calls Try.prog 23 #[.pointer (some ⟨g, 0, none⟩), .int .i64 to', .int .i64 now] w fun e w' => (∃ v', e = .returned v' ∧ OwnG w' w.heap.size base v' ((s.fs.filter (dueF to' now)).map Fr.b)) ∧ (∃ vv, RNet w' base g vv ⟨s.last, s.lost, s.fs.filter fun f => !dueF to' now f⟩) ∧ Keeps rnT base w w' := by
  have HB0 : Aside0 (∀ (w : World) o, Below w.heap.size w (w.alloc o)) := ⟨fun w o => (Below.refl _ _).alloc (Nat.le_refl _) _⟩
  have HN := Aside0.mk N
  have HNL := Aside0.mk hn
  obtain ⟨A, c, rfl, hc, hm⟩ := N.shape
  have hmx : s.fs.length ≤ 9223372036854775807 := by simp only [maxLen] at hm; omega
  have HBB := Aside0.mk (show base ≤ w.heap.size from by have h1 := N.ge; have h2 := blk_lt N.box; omega)
  clear N
  go_enter Try.func23, Try.ntmps23
  go_wp2_with fail
  go_loopw [7, 8, 9] (fun o l i wr => ∃ n : Nat, n ≤ s.fs.length ∧ i = .int .i64 n ∧ (∃ A m c, o = .slice A m c) ∧ (∃ A m c, l = .slice A m c) ∧ Aside0 (OwnG wr w.heap.size base o (((s.fs.take n).filter (dueF to' now)).map Fr.b) ∧ wr.ownsRow w.heap.size 67 4 l ((s.fs.take n).filter fun f => !dueF to' now f).length (((s.fs.take n).filter fun f => !dueF to' now f).flatMap frC) ∧ Below w.heap.size w wr)) (fun o l i wr => s.fs.length - (intOf i).toNat)
  case atStart => exact ⟨0, Nat.zero_le _, rfl, ⟨_, _, _, rfl⟩, ⟨_, _, _, rfl⟩, ⟨OwnG.nil _ _ _, World.ownsRow_nil _ _ _ _, Below.refl _ _⟩⟩
  case round =>
    obtain ⟨n, hn', rfl, ⟨Ao, mo, co, rfl⟩, ⟨Al, ml, cl, rfl⟩, hs⟩ := hrel
    obtain ⟨c0, c1, c2, c3⟩ := (HN.out.below hs.out.2.2).cells
    by_cases hlt : n < s.fs.length
    · obtain ⟨ad, c', he, d0, d1, d2, d3⟩ := frame_at (SlC.of_own (HN.out.below hs.out.2.2).row 0) n hlt
      cases he
      have HFS := Aside0.mk (And.intro (filter_snoc (dueF to' now) s.fs n hlt) (filter_snoc (fun f => !dueF to' now f) s.fs n hlt))
      have hbf := (HN.out.below hs.out.2.2).bytes _ (List.getElem_mem hlt)
      obtain ⟨f, hf⟩ : ∃ f, f = s.fs[n]'hlt := ⟨_, rfl⟩
      rw [← hf] at d0 d1 d2 d3 HFS hbf
      obtain ⟨fid, fwhom, fdue, fb, fu⟩ := f
      simp only at d0 d1 d2 d3 hbf
      have HF := Aside0.mk (show Sl bv 5 wr base (⟨fid, fwhom, fdue, fb, fu⟩ : Fr).u (⟨fid, fwhom, fdue, fb, fu⟩ : Fr).b from hbf)
      obtain ⟨Af, cf, rfl, _⟩ := hbf
      clear hf
      have hnI : (n : Int) < (s.fs.length : Int) := by omega
      have hfl : ∀ p : Fr → Bool, ((s.fs.take n).filter p).length ≤ 1099511627776 := fun p => by
        have h1 := List.length_filter_le p (s.fs.take n)
        rw [List.length_take] at h1
        have := HNL.out; omega
      have HFL := Aside0.mk hfl
      clear hfl
      have hsz := Aside0.mk hs.out.2.2.size
      have hall : (fwhom = to' ∧ fdue ≤ now) ∨ (fwhom = to' ∧ ¬ fdue ≤ now) ∨ ¬ fwhom = to' := by omega
      rcases hall with ⟨hw, hd⟩ | hno
      · have hp : dueF to' now ⟨fid, fwhom, fdue, fb, .slice Af fb.length cf⟩ = true := by simp [dueF, hw, hd]
        have HFS2 : Aside0 ((s.fs.take (n + 1)).filter (dueF to' now) = (s.fs.take n).filter (dueF to' now) ++ [⟨fid, fwhom, fdue, fb, .slice Af fb.length cf⟩] ∧ (s.fs.take (n + 1)).filter (fun f => !dueF to' now f) = (s.fs.take n).filter (fun f => !dueF to' now f)) := ⟨by rw [HFS.out.1, hp]; simp, by rw [HFS.out.2, hp]; simp⟩
        clear hp HFS
        go_wp2_with
          (at_builtin
           refine append_g rfl rfl (.tmp 41) (.tmp 50) rfl (.slice Af fb.length cf) fb wr.heap.size 1 22 (0, 0) rfl rfl (hs.out.1.below (HB0.out _ _)) (heap_new rfl) (HF.out.below (HB0.out _ _)) ?_ ?_ HBB.out ?_
           · have := HFL.out (dueF to' now); rw [List.length_map]; omega
           · have := hsz.out; simp; omega
           intro v5 w5 hg5 hgr5 hsh5
           have hk5 : Keeps (fun e => e = 22) w.heap.size wr w5 := (Keeps.of_below (HB0.out wr (.cells #[.slice Af fb.length cf] 22))).trans (Keeps.grown hgr5 (hs.out.1.below (HB0.out _ _)).row)
           obtain ⟨A5, n5, c5, rfl⟩ := hsh5
           have H5 := Aside0.mk (And.intro hg5 (And.intro (own_keeps hs.out.2.1 hk5 (by decide)) ((Keeps.of_below (T := fun e => e = 22) (base := w.heap.size) hs.out.2.2).trans hk5)))
           clear hg5 hgr5 hk5)
        go_roundw
        case rel => exact ⟨n + 1, by omega, by go_num, ⟨_, _, _, rfl⟩, ⟨_, _, _, rfl⟩, ⟨by rw [HFS2.out.1, List.map_append]; exact H5.out.1, by rw [HFS2.out.2]; exact H5.out.2.1, H5.out.2.2.below (Nat.le_refl _) (Nat.le_refl _)⟩⟩
        case measure => simp [intOf]; omega
      · have hp : dueF to' now ⟨fid, fwhom, fdue, fb, .slice Af fb.length cf⟩ = false := by
          rcases hno with ⟨_, h⟩ | h
          · simp [dueF, h]
          · simp [dueF, h]
        have HFS2 : Aside0 ((s.fs.take (n + 1)).filter (dueF to' now) = (s.fs.take n).filter (dueF to' now) ∧ (s.fs.take (n + 1)).filter (fun f => !dueF to' now f) = (s.fs.take n).filter (fun f => !dueF to' now f) ++ [⟨fid, fwhom, fdue, fb, .slice Af fb.length cf⟩]) := ⟨by rw [HFS.out.1, hp]; simp, by rw [HFS.out.2, hp]; simp⟩
        clear hp HFS
        rcases hno with ⟨hw, hd⟩ | hw
        · have hw' := hw.symm
          subst hw'
          go_wp2_with
            (at_builtin
             refine wpList_append_rows frC 4 frC_len (by decide) rfl (.tmp 52) (.tmp 60) 49 rfl w.heap.size 67 67 0 (.agg #[.int .i64 0, .int .i64 0, .int .i64 0, .slice none 0 0]) 48 Try.underlying49 info_rf rfl (by decide) (.slice Al ml cl) ((s.fs.take n).filter fun f => !dueF to' now f) [⟨fid, to', fdue, fb, .slice Af fb.length cf⟩] (.slice (some ⟨wr.heap.size, 0, none⟩) 1 1) rfl rfl (own_below hs.out.2.1 (HB0.out _ _)) (slc_one (heap_new (by first | rfl | (rw [hw]; rfl)))) ?_ ?_ ?_ ?_
             · intro y hy; rw [List.mem_singleton] at hy; subst hy; exact frC_one HF.out
             · have := HFL.out (fun f => !dueF to' now f); simp only [List.length_cons, List.length_nil]; omega
             · have := hsz.out; simp; omega
             intro v5 w5 hown5 hgr5 hsh5
             have hk5 : Keeps (fun e => e = 67) w.heap.size wr w5 := (Keeps.of_below (HB0.out wr _)).trans (Keeps.grown hgr5 (fun k hk => by
               obtain ⟨h1, cur, fr, e', h2, rfl⟩ := own_row (own_below hs.out.2.1 (HB0.out _ _)) k hk
               exact ⟨h1, cur, _, fr, h2, rfl⟩))
             obtain ⟨A5, n5, c5, rfl⟩ := hsh5
             have H5 := Aside0.mk (And.intro (hs.out.1.keeps hk5 (by decide) (by decide) HBB.out) (And.intro hown5 ((Keeps.of_below (T := fun e => e = 67) (base := w.heap.size) hs.out.2.2).trans hk5)))
             clear hown5 hgr5 hk5)
          go_roundw
          case rel => exact ⟨n + 1, by omega, by go_num, ⟨_, _, _, rfl⟩, ⟨_, _, _, rfl⟩, ⟨by rw [HFS2.out.1]; exact H5.out.1, by rw [HFS2.out.2]; exact H5.out.2.1, H5.out.2.2.below (Nat.le_refl _) (Nat.le_refl _)⟩⟩
          case measure => simp [intOf]; omega
        · go_wp2_with
            (at_builtin
             refine wpList_append_rows frC 4 frC_len (by decide) rfl (.tmp 52) (.tmp 60) 49 rfl w.heap.size 67 67 0 (.agg #[.int .i64 0, .int .i64 0, .int .i64 0, .slice none 0 0]) 48 Try.underlying49 info_rf rfl (by decide) (.slice Al ml cl) ((s.fs.take n).filter fun f => !dueF to' now f) [⟨fid, fwhom, fdue, fb, .slice Af fb.length cf⟩] (.slice (some ⟨wr.heap.size, 0, none⟩) 1 1) rfl rfl (own_below hs.out.2.1 (HB0.out _ _)) (slc_one (heap_new (by first | rfl | (rw [hw]; rfl)))) ?_ ?_ ?_ ?_
             · intro y hy; rw [List.mem_singleton] at hy; subst hy; exact frC_one HF.out
             · have := HFL.out (fun f => !dueF to' now f); simp only [List.length_cons, List.length_nil]; omega
             · have := hsz.out; simp; omega
             intro v5 w5 hown5 hgr5 hsh5
             have hk5 : Keeps (fun e => e = 67) w.heap.size wr w5 := (Keeps.of_below (HB0.out wr _)).trans (Keeps.grown hgr5 (fun k hk => by
               obtain ⟨h1, cur, fr, e', h2, rfl⟩ := own_row (own_below hs.out.2.1 (HB0.out _ _)) k hk
               exact ⟨h1, cur, _, fr, h2, rfl⟩))
             obtain ⟨A5, n5, c5, rfl⟩ := hsh5
             have H5 := Aside0.mk (And.intro (hs.out.1.keeps hk5 (by decide) (by decide) HBB.out) (And.intro hown5 ((Keeps.of_below (T := fun e => e = 67) (base := w.heap.size) hs.out.2.2).trans hk5)))
             clear hown5 hgr5 hk5)
          go_roundw
          case rel => exact ⟨n + 1, by omega, by go_num, ⟨_, _, _, rfl⟩, ⟨_, _, _, rfl⟩, ⟨by rw [HFS2.out.1]; exact H5.out.1, by rw [HFS2.out.2]; exact H5.out.2.1, H5.out.2.2.below (Nat.le_refl _) (Nat.le_refl _)⟩⟩
          case measure => simp [intOf]; omega
    · have hnn : n = s.fs.length := by omega
      have h := hs.out
      rw [hnn, List.take_length] at h
      have HS := Aside0.mk h
      clear hs h
      go_wp2_with fail
      go_ret
      obtain ⟨NR, KR⟩ := RNet.setRow (v' := .slice Al ml cl) (fs := s.fs.filter fun f => !dueF to' now f) HN.out.ge (HN.out.below HS.out.2.2).box (own_mono HS.out.2.1 HBB.out) (fun f hf => (HN.out.below HS.out.2.2).bytes f (List.mem_filter.1 hf).1)
      exact ⟨⟨_, rfl, HS.out.1.keeps KR (by unfold rnT; decide) (by unfold rnT; decide) (Nat.le_refl _)⟩, ⟨_, NR⟩, (Keeps.of_below HS.out.2.2).trans KR⟩
end Go.Proofs.Ytmpmngfimeojhaa
