/-
  A net's Take: what is due is handed out, and waits no more. No condition but that the net can be read, and that it is not more than memory.
-/
import Derived.Test.YtmpmngfimeojhaaNetDelF
import Derived.Test.YtmpmngfimeojhaaLists
namespace Go.Proofs.Ytmpmngfimeojhaa
open Go.RowKit Go.Joins
set_option linter.unusedVariables false
set_option linter.unusedSimpArgs false

set_option maxHeartbeats 2000000 in
theorem take_nil (to' now : Int) (w : World) : Calls Try.prog 10 #[.pointer none, .int .i64 to', .int .i64 now] w fun e w' => e = .returned (.slice none 0 0) ∧ Below w.heap.size w w' := by
  have HB0 : Aside0 (∀ (w : World) o, Below w.heap.size w (w.alloc o)) := ⟨fun w o => (Below.refl _ _).alloc (Nat.le_refl _) _⟩
  go_enter Try.func10, Try.ntmps10
  go_wp2_with fail
  refine (due_nil to' now _).mono ?_
  rintro e w1 ⟨rfl, hb1⟩
  have HB1 := Aside0.mk (below_step (below_step (HB0.out _ _) (HB0.out _ _)) hb1)
  clear hb1
  go_wp2_with fail
  go_loopw [6, 14] (fun o i wr => o = .slice none 0 0 ∧ i = .int .i64 0 ∧ wr = w1) (fun o i wr => 0)
  case atStart => exact ⟨rfl, rfl, rfl⟩
  case round =>
    obtain ⟨rfl, rfl, rfl⟩ := hrel
    go_wp2_with fail
    go_ret
    exact ⟨rfl, HB1.out⟩

/-- A list of byte slices of the call's own; the bytes lie in blocks of bytes. -/
def OwnB2 (w : World) (base : Nat) (v : Value) (L : List (List UInt8)) : Prop :=
  ∃ vs : List Value, vs.length = L.length ∧ w.ownsRow base 22 1 v vs.length vs ∧ ∀ (i : Nat) (u : Value) (x : List UInt8), vs[i]? = some u → L[i]? = some x → Sl bv 5 w 0 u x
theorem OwnB2.nil (w : World) (base : Nat) : OwnB2 w base (.slice none 0 0) [] := ⟨[], rfl, World.ownsRow_nil _ _ _ _, by simp⟩
theorem OwnB2.keeps {T : Nat → Prop} {w w' : World} {base base' : Nat} {v : Value} {L : List (List UInt8)} (h : OwnB2 w base v L) (hk : Keeps T base' w w') (h1 : ¬ T 22) (h2 : ¬ T 5) : OwnB2 w' base v L := by
  obtain ⟨vs, e, ho, hb⟩ := h
  exact ⟨vs, e, own_keeps ho hk h1, fun i u x hu hx => (hb i u x hu hx).keeps hk h2 (Nat.zero_le _)⟩
theorem OwnB2.below {w w' : World} {base : Nat} {v : Value} {L : List (List UInt8)} (h : OwnB2 w base v L) (hk : Below w.heap.size w w') : OwnB2 w' base v L :=
  h.keeps (T := fun _ => False) (base' := 0) (.of_below hk) (fun h => h) (fun h => h)
theorem OwnB2.list {w : World} {base : Nat} {v : Value} {L : List (List UInt8)} (h : OwnB2 w base v L) : OwnL w base v L := by
  obtain ⟨vs, e, ho, hb⟩ := h
  exact ⟨vs, e, ho, fun i u x hu hx => (hb i u x hu hx).mono (Nat.zero_le _)⟩
theorem OwnB2.row {w : World} {base : Nat} {v : Value} {L : List (List UInt8)} (h : OwnB2 w base v L) : ∀ k, v.ownBlock = some k → base ≤ k ∧ ∃ cur e fr, w.heap[k]? = some (.cells cur e fr) ∧ e = 22 := by
  obtain ⟨vs, e, ho, hb⟩ := h
  intro k hk
  obtain ⟨h1, cur, fr, e', h2, rfl⟩ := own_row ho k hk
  exact ⟨h1, cur, _, fr, h2, rfl⟩
theorem append_b2 {P : Program} {ops : Array Oper} {rest : List Oper} {o : Oper} {a : Act} {Q : Exit → Act → World → Prop} {w : World} {base : Nat} {v : Value} {L : List (List UInt8)} (hP : P = Try.prog) (hgd : o.guard = none) (s x : Operand)
    (ho : o.op = .call { callee := .builtin .append, args := #[s, x], argTypes := #[30, 30] })
    (y : Value) (Y : List UInt8) (g c e0 : Nat) (fr : Nat × Nat) (hs : a.eval s = v) (hx : a.eval x = .slice (some ⟨g, 0, none⟩) 1 c) (hown : OwnB2 w base v L) (hu : w.heap[g]? = some (.cells #[y] e0 fr)) (hY : Sl bv 5 w 0 y Y)
    (hbytes : (L.length + 1) * 24 ≤ 140737488355328) (hbase : base ≤ w.heap.size)
    (h : ∀ v' w', OwnB2 w' base v' (L ++ [Y]) → w.grownBy w' v.ownBlock → (∃ A n c, v' = .slice A n c) → wpList P ops Q rest (a.put o.dst v') w') : wpList P ops Q (o :: rest) a w := by
  subst hP
  have hrow := hown.row
  obtain ⟨vs, h1, h2, h3⟩ := hown
  have hy1 : y.oneCell' = true := by obtain ⟨A, c, rfl, _⟩ := hY; rfl
  refine append_one hgd s x 30 ho base 22 _ _ Try.underlying30 info_bytes rfl (by decide) v vs y hy1 g c e0 fr hs hx h2 hu (by rw [h1]; exact hbytes) hbase ?_
  intro v' w' h4 h5 _
  have hk : Keeps (fun e => e = 22) base w w' := Keeps.grown h5 hrow
  refine h v' w' ⟨vs ++ [y], by simp [h1], h4, fun i u x hu hx => ?_⟩ h5 ?_
  · rcases Nat.lt_or_ge i vs.length with hi | hi
    · rw [List.getElem?_append_left hi] at hu
      rw [List.getElem?_append_left (by omega)] at hx
      exact (h3 i u x hu hx).keeps hk (by decide) (Nat.zero_le _)
    · rw [List.getElem?_append_right hi] at hu
      rw [List.getElem?_append_right (by omega), ← h1] at hx
      have h0 : i - vs.length = 0 := by
        rcases Nat.eq_zero_or_pos (i - vs.length) with h0 | h0
        · exact h0
        · rw [List.getElem?_eq_none (by simp; omega)] at hu; cases hu
      rw [h0] at hu hx
      cases hu; cases hx
      exact hY.keeps hk (by decide) (Nat.zero_le _)
  · rcases h4.2 with ⟨rfl, _⟩ | ⟨g, cap, cur, rfl, _⟩
    · exact ⟨none, 0, 0, rfl⟩
    · exact ⟨_, _, _, rfl⟩

set_option maxHeartbeats 2000000 in
theorem take_calls2 {base g : Nat} {v : Value} {s : NetS} (to' now : Int) (w : World) (N : NetR w base g v s) (hn : s.fs.length ≤ 1099511627776) (hbl : ∀ f ∈ s.fs, f.b.length ≤ 140737488355328) :
    Calls Try.prog 10 #[.pointer (some ⟨g, 0, none⟩), .int .i64 to', .int .i64 now] w fun e w' => (∃ v', e = .returned v' ∧ OwnB2 w' w.heap.size v' ((s.fs.filter (dueF to' now)).map Fr.b)) ∧ (∃ vv, NetR w' base g vv ⟨s.last, s.lost, s.fs.filter fun f => !dueF to' now f⟩) ∧ Keeps netT base w w' := by
  have HB0 : Aside0 (∀ (w : World) o, Below w.heap.size w (w.alloc o)) := ⟨fun w o => (Below.refl _ _).alloc (Nat.le_refl _) _⟩
  have HN := Aside0.mk N
  have HNL := Aside0.mk hn
  have hB := below_step (HB0.out w (.cells #[.int .i64 to'] 3)) (HB0.out _ (.cells #[.int .i64 now] 3))
  have hh := due_calls to' now ((w.alloc (.cells #[.int .i64 to'] 3)).alloc (.cells #[.int .i64 now] 3)) (N.below hB) hn hbl
  have HBX := Aside0.mk hB
  clear N hn hbl hB
  go_enter Try.func10, Try.ntmps10
  go_wp2_with fail
  refine hh.mono ?_
  rintro e w1 ⟨⟨v1, ds, rfl, hO, hkey⟩, hb1⟩
  obtain ⟨A1, c1, rfl, hc1, hm1⟩ := hO.shape
  have hdl : ds.length ≤ s.fs.length := by
    have h1 := congrArg List.length hkey
    rw [List.length_map, List.length_map] at h1
    have h2 := List.length_filter_le (dueF to' now) s.fs
    omega
  have hdm : ds.length ≤ 9223372036854775807 := by simp only [maxLen] at hm1; omega
  have H1 := Aside0.mk (show OwnF w1 _ (.slice A1 ds.length c1) ds ∧ Below w.heap.size w w1 ∧ ds.map Fr.b = (s.fs.filter (dueF to' now)).map Fr.b ∧ w1.heap[w.heap.size]? = some (.cells #[.int .i64 to'] 3 (0, 0)) ∧ w1.heap[w.heap.size + 1]? = some (.cells #[.int .i64 now] 3 (0, 0)) from
    ⟨hO, below_step HBX.out hb1, by have := congrArg (List.map fun k : Int × Int × Int × List UInt8 => k.2.2.2) hkey; simpa [Fr.key, Function.comp_def] using this, below_heap hb1 (heap_old (heap_new rfl)), below_heap hb1 (heap_new (by simp))⟩)
  have HDL := Aside0.mk hdl
  clear hO hb1 hkey hm1 hdl hh
  go_wp2_with fail
  go_loopw [6, 14] (fun o i wr => ∃ n : Nat, n ≤ ds.length ∧ i = .int .i64 n ∧ (∃ A m c, o = .slice A m c) ∧ Aside0 (OwnB2 wr w.heap.size o ((ds.take n).map Fr.b) ∧ Keeps (fun e => e = 22) w.heap.size w1 wr)) (fun o i wr => ds.length - (intOf i).toNat)
  case atStart => exact ⟨0, Nat.zero_le _, rfl, ⟨_, _, _, rfl⟩, ⟨OwnB2.nil _ _, Keeps.refl _ _ _⟩⟩
  case round =>
    obtain ⟨n, hn', rfl, ⟨Ao, mo, co, rfl⟩, hs⟩ := hrel
    by_cases hlt : n < ds.length
    · have hOr : OwnF wr 0 (.slice A1 ds.length c1) ds := (H1.out.1.base (Nat.zero_le _)).keeps hs.out.2 (by decide) (by decide) (Nat.zero_le _)
      obtain ⟨ad, c', he, d0, d1, d2, d3⟩ := frame_at (SlC.of_own hOr.1 0) n hlt
      cases he
      have HBF := Aside0.mk (hOr.2 _ (List.getElem_mem hlt))
      have HTK : Aside0 ((ds.take (n + 1)).map Fr.b = (ds.take n).map Fr.b ++ [(ds[n]'hlt).b]) := ⟨by rw [List.take_succ_eq_append_getElem hlt, List.map_append]; rfl⟩
      obtain ⟨f, hf⟩ : ∃ f, f = ds[n]'hlt := ⟨_, rfl⟩
      rw [← hf] at d0 d1 d2 d3 HBF HTK
      obtain ⟨fid, fwhom, fdue, fb, fu⟩ := f
      simp only at d0 d1 d2 d3 HBF HTK
      obtain ⟨Af, cf, rfl, _⟩ := HBF.out
      clear hf hOr
      have HW := Aside0.mk (show w.heap.size ≤ wr.heap.size from Nat.le_trans H1.out.2.1.size hs.out.2.size)
      have HLN := Aside0.mk (show ((ds.take n).map Fr.b).length ≤ 1099511627776 by have := HDL.out; have := HNL.out; rw [List.length_map, List.length_take]; omega)
      go_wp2_with
        (at_builtin
         go_must (refine append_b2 rfl rfl (.tmp 18) (.tmp 21) rfl _ _ (wr.heap.size + 1) 1 22 (0, 0) rfl rfl ((hs.out.1.below (HB0.out _ _)).below (HB0.out _ _)) (heap_new (by simp)) ((HBF.out.below (HB0.out _ _)).below (HB0.out _ _)) (by have := HLN.out; omega) (by have := HW.out; simp; omega) ?_)
         intro v2 w2 hl2 hg2 hsh)
      have HK2 := Aside0.mk (((hs.out.2.alloc _).alloc _).trans (Keeps.grown hg2 ((hs.out.1.below (HB0.out _ _)).below (HB0.out _ _)).row))
      obtain ⟨A2, m2, c2, rfl⟩ := hsh
      have HL2 := Aside0.mk hl2
      clear hl2 hg2
      go_roundw
      case rel => exact ⟨n + 1, by omega, by go_num, ⟨_, _, _, rfl⟩, ⟨by rw [HTK.out]; exact HL2.out, HK2.out⟩⟩
      case measure => simp [intOf]; omega
    · have hnd : n = ds.length := by omega
      have HBW := Aside0.mk (show base ≤ w.heap.size ∧ base ≤ wr.heap.size from by
        have h1 := HN.out.ge
        have h2 := blk_lt HN.out.box
        have h3 := H1.out.2.1.size
        have h4 := hs.out.2.size
        omega)
      have HNR := Aside0.mk ((HN.out.below H1.out.2.1).keeps hs.out.2 (by decide) (by decide) (by decide) HBW.out.1)
      obtain ⟨z0, z1, z2, z3⟩ := HNR.out.cells
      have b1 := Aside0.mk (heap_keeps H1.out.2.2.2.1 hs.out.2 (.inr (by decide)))
      have b2 := Aside0.mk (heap_keeps H1.out.2.2.2.2 hs.out.2 (.inr (by decide)))
      have HU := Aside0.mk (show ∀ f ∈ s.fs, ∃ A n c, f.u = .slice A n c from fun f hf => by
        obtain ⟨A, c, h, _⟩ := HNR.out.bytes f hf
        exact ⟨_, _, _, h⟩)
      go_wp2_with fail
      refine (deleteFunc_calls (dueF to' now) 29 #[.pointer (some ⟨w.heap.size, 0, none⟩), .pointer (some ⟨w.heap.size + 1, 0, none⟩)] _ HNR.out.row HBW.out.2 HU.out take1_enters
        (fun W f hW => take1_calls f to' now w.heap.size (w.heap.size + 1) W ((blk (heap_keeps b1.out hW (.inr (by unfold frT; decide)))).1 0) ((blk (heap_keeps b2.out hW (.inr (by unfold frT; decide)))).1 0))).mono ?_
      rintro e w3 ⟨⟨v3, rfl, ho3⟩, hk3⟩
      have hbox3 := heap_keeps HNR.out.box hk3 (.inr (by unfold frT; decide))
      have HD3 := Aside0.mk (show w3.ownsRow base 42 4 v3 _ _ ∧ Keeps frT base wr w3 ∧ w3.heap[g]? = _ from ⟨ho3, hk3, hbox3⟩)
      obtain ⟨A3, c3, rfl, _⟩ := SlC.of_own ho3 0
      obtain ⟨y1, y2⟩ := blk hbox3
      have y3 := y1 2
      simp at y3
      clear ho3 hk3 hbox3
      go_wp2_with fail
      go_ret
      obtain ⟨NR, KR⟩ := NetR.setRow (last := s.last) (lost := s.lost) (fs := s.fs.filter fun f => !dueF to' now f) HN.out.ge HD3.out.2.2 HD3.out.1 (fun f hf => (HNR.out.bytes f (List.mem_filter.1 hf).1).keeps HD3.out.2.1 (by unfold frT; decide) (Nat.le_refl _))
      have kk : Keeps netT base wr _ := (HD3.out.2.1.wider (fun e he => .inr he) (Nat.le_refl _)).trans KR
      refine ⟨⟨_, rfl, ?_⟩, ⟨_, NR⟩, ?_⟩
      · have h1 := (hs.out.1.keeps kk (by unfold netT; decide) netT_u8)
        rw [hnd, List.take_length, H1.out.2.2.1] at h1
        exact h1
      · have k1 : Keeps netT base w wr := ⟨hs.out.2.os.trans H1.out.2.1.os, hs.out.2.tape.trans H1.out.2.1.tape, hs.out.2.output.trans H1.out.2.1.output, Nat.le_trans H1.out.2.1.size hs.out.2.size, fun k hk _ => by
          rw [hs.out.2.block k (Nat.lt_of_lt_of_le hk H1.out.2.1.size) (.inl hk), H1.out.2.1.block k hk]⟩
        exact k1.trans kk
theorem take_calls {base g : Nat} {v : Value} {s : NetS} (to' now : Int) (w : World) (N : NetR w base g v s) (hn : s.fs.length ≤ 1099511627776) (hbl : ∀ f ∈ s.fs, f.b.length ≤ 140737488355328) :
    Calls Try.prog 10 #[.pointer (some ⟨g, 0, none⟩), .int .i64 to', .int .i64 now] w fun e w' => (∃ v', e = .returned v' ∧ OwnL w' w.heap.size v' ((s.fs.filter (dueF to' now)).map Fr.b)) ∧ (∃ vv, NetR w' base g vv ⟨s.last, s.lost, s.fs.filter fun f => !dueF to' now f⟩) ∧ Keeps netT base w w' :=
  (take_calls2 to' now w N hn hbl).mono fun e w' ⟨⟨v', h1, h2⟩, h3⟩ => ⟨⟨v', h1, h2.list⟩, h3⟩
end Go.Proofs.Ytmpmngfimeojhaa
