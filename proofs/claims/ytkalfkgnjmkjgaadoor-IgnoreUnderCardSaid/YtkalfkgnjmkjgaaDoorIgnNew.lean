/-
  Rules are made of lines. No condition but lengths.
-/
import Derived.Test.YtkalfkgnjmkjgaaDoorIgnParse
import Derived.Test.YtkalfkgnjmkjgaaDoorIgnClone
import Derived.Test.YtkalfkgnjmkjgaaDoorIgnTok
import Derived.Test.YtkalfkgnjmkjgaaDoorFlowP
namespace Go.Proofs.YtkalfkgnjmkjgaaDoor
open Go.RowKit Go.Joins
set_option linter.unusedVariables false
set_option linter.unusedSimpArgs false

def rlC (x : Rl) : List Value := [.string (str x.pat), .bool x.not, .bool x.dirs, .bool x.whole]
theorem rlC_len (x : Rl) : (rlC x).length = 4 := rfl
def rlV (x : Rl) : Value := .agg #[.string (str x.pat), .bool x.not, .bool x.dirs, .bool x.whole]
theorem rlC_one (t : Rl) : ∀ c ∈ rlC t, c.oneCell' = true := by
  intro c hc
  simp only [rlC, List.mem_cons, List.not_mem_nil, or_false] at hc
  rcases hc with rfl | rfl | rfl | rfl <;> rfl
theorem info_rl : (Tryd.prog.info? 59).map (fun i => (i.zero, i.size, i.bytes)) = some (some (.agg #[.string ⟨#[]⟩, .bool false, .bool false, .bool false]), 4, 24) := by kernel_rfl
theorem slc_rl {w : World} {b g : Nat} {t : Rl} (h : w.heap[g]? = some (.cells #[.string (str t.pat), .bool t.not, .bool t.dirs, .bool t.whole] 59 (0, 0))) : SlC rlC 59 w b (.slice (some ⟨g, 0, none⟩) 1 1) [t] :=
  SlC.of_own (cells := rlC) (xs := [t]) (k := 4) (base := 0) ⟨by simp [rlC_len], .inr ⟨g, 1, _, rfl, Nat.zero_le _, h, Nat.le_refl _, by simp [maxLen], by simp, by simp [rlC]⟩⟩ b
/-- The rule that a line says. -/
def rlOf (S : List UInt8) : Rl := ⟨parT S, parN S, parD S, parW S⟩
/-- All lines are rules. -/
def allOk (L : List (List UInt8)) : Bool := L.all okR

/-- Rules that were made. -/
def IsR (w : World) (g base : Nat) (L : List (List UInt8)) (R : List Rl) : Prop :=
  ∃ vl vr, base ≤ g ∧ w.heap[g]? = some (.cells #[vl, vr] 57 (0, 0)) ∧ w.ownsRow base 9 1 vl L.length (L.map tv) ∧ w.ownsRow base 59 4 vr R.length (R.flatMap rlC) ∧ (∃ A n c, vr = .slice A n c) ∧ (∃ A n c, vl = .slice A n c)
theorem IsR.below {w w1 : World} {g base : Nat} {L : List (List UInt8)} {R : List Rl} (h : IsR w g base L R) (hb : Below w.heap.size w w1) : IsR w1 g base L R := by
  obtain ⟨vl, vr, h1, h2, h3, h4, h5⟩ := h
  exact ⟨vl, vr, h1, below_heap hb h2, own_below h3 hb, own_below h4 hb, h5⟩
theorem own_sh {w : World} {base e size n : Nat} {v : Value} {cs : List Value} (h : w.ownsRow base e size v n cs) : ∃ A n c, v = .slice A n c := by
  rcases h.2 with ⟨rfl, _⟩ | ⟨g, cap, cur, rfl, _⟩ <;> exact ⟨_, _, _, rfl⟩

/-- Behind a line. -/
def NwS (w wr : World) (g : Nat) (L : List (List UInt8)) (k : Nat) : Prop :=
  IsR wr g w.heap.size L ((L.take k).map rlOf) ∧ (∀ S ∈ L.take k, okR S = true) ∧ Below w.heap.size w wr

theorem new_post {w W w' : World} {g k : Nat} {L : List (List UInt8)} {vl vr v2 : Value} {S : List UInt8} (hk : L[k]? = some S) (hok : okR S = true) (hg : w.heap.size ≤ g)
    (hbx : W.heap[g]? = some (.cells #[vl, vr] 57 (0, 0))) (hl : W.ownsRow w.heap.size 9 1 vl L.length (L.map tv)) (hr : W.ownsRow w.heap.size 59 4 vr ((L.take k).map rlOf).length (((L.take k).map rlOf).flatMap rlC))
    (ha : ∀ S ∈ L.take k, okR S = true) (hB : Below w.heap.size w W) (hgr : W.grownBy w' vr.ownBlock) (ho : w'.ownsRow w.heap.size 59 4 v2 ((L.take k).map rlOf ++ [rlOf S]).length (((L.take k).map rlOf ++ [rlOf S]).flatMap rlC)) :
    w'.heap[g]? = some (.cells #[vl, vr] 57 (0, 0)) ∧ NwS w (w'.setCell ⟨g, 1, none⟩ v2) g L (k + 1) := by
  have hK : Keeps (fun e => e = 59) w.heap.size W w' := Keeps.grown hgr fun j hj => by
    obtain ⟨h1, cur, fr, e', h2, rfl⟩ := own_row hr j hj
    exact ⟨h1, cur, _, fr, h2, rfl⟩
  have hbx' := heap_keeps hbx hK (.inr (by decide))
  have hK2 : Keeps (fun e => e = 57) w.heap.size w' (w'.setCell ⟨g, 1, none⟩ v2) := Keeps.setCell (T := fun e => e = 57) (a := ⟨g, 1, none⟩) hg hbx' rfl _
  have ht : L.take (k + 1) = L.take k ++ [S] := by rw [List.take_add_one, hk]; rfl
  refine ⟨hbx', ⟨vl, v2, hg, by rw [block_setCell hbx']; rfl, own_keeps (own_keeps hl hK (by decide)) hK2 (by decide), ?_, own_sh ho, own_sh hl⟩, ?_, ?_⟩
  · rw [ht, List.map_append, List.map_singleton]
    exact own_keeps ho hK2 (by decide)
  · intro T hT
    rw [ht, List.mem_append] at hT
    rcases hT with hT | hT
    · exact ha T hT
    · rw [List.mem_singleton.1 hT]; exact hok
  · have h1 := hB.grown hgr hB.size (own_base hr)
    exact ⟨hK2.os.trans h1.os, hK2.tape.trans h1.tape, hK2.output.trans h1.output, Nat.le_trans h1.size hK2.size, fun i hi => (hK2.block i (Nat.lt_of_lt_of_le hi h1.size) (.inl hi)).trans (h1.block i hi)⟩

section
set_option maxRecDepth 100000
/-- What each slot of the region holds. -/
def NwR (g K : Nat) (vl vr : Value) (r : Rl) : Nat → Value → World → Prop
  | 0, v, w => v = .pointer (some ⟨g, 0, none⟩)
  | 1, v, w => v = .pointer (some ⟨g, 0, none⟩)
  | 2, v, w => v = .pointer (some ⟨g, 0, none⟩)
  | 3, v, w => v = .pointer (some ⟨g, 1, none⟩)
  | 4, v, w => v = vr
  | 5, v, w => v = .agg #[.string (str r.pat), .bool r.not, .bool r.dirs, .bool r.whole]
  | 6, v, w => SlC rlC 59 w 0 v [r]
  | 7, v, w => True
  | 8, v, w => v = .pointer (some ⟨g, 0, none⟩)
  | 9, v, w => v = .pointer (some ⟨g, 1, none⟩)
  | _, _, _ => True
theorem NwR_st (g K : Nat) (vl vr : Value) (r : Rl) : ∀ i v w w', NwR g K vl vr r i v w → Below w.heap.size w w' → NwR g K vl vr r i v w'
  | 0, v, w, w', h, hb => h
  | 1, v, w, w', h, hb => h
  | 2, v, w, w', h, hb => h
  | 3, v, w, w', h, hb => h
  | 4, v, w, w', h, hb => h
  | 5, v, w, w', h, hb => h
  | 6, v, w, w', h, hb => SlC.below h hb
  | 7, v, w, w', h, hb => trivial
  | 8, v, w, w', h, hb => h
  | 9, v, w, w', h, hb => h
  | _ + 10, _, _, _, _, _ => trivial
def NwR_p (g K : Nat) (vl vr : Value) (r : Rl) : Nat → Value → Prop
  | 0, v => v = .pointer (some ⟨g, 0, none⟩)
  | 8, v => v = .pointer (some ⟨g, 0, none⟩)
  | 9, v => v = .pointer (some ⟨g, 1, none⟩)
  | _, _ => True
theorem NwR_pure (g K : Nat) (vl vr : Value) (r : Rl) : ∀ i v w, NwR g K vl vr r i v w → NwR_p g K vl vr r i v
  | 0, v, w, h => h
  | 1, v, w, h => trivial
  | 2, v, w, h => trivial
  | 3, v, w, h => trivial
  | 4, v, w, h => trivial
  | 5, v, w, h => trivial
  | 6, v, w, h => trivial
  | 7, v, w, h => trivial
  | 8, v, w, h => h
  | 9, v, w, h => h
  | _ + 10, _, _, _ => trivial
end
/-- What New answers. -/
def NewA (w : World) (L : List (List UInt8)) (e : Ending) (w' : World) : Prop :=
  (if 50 < L.length then e = .returned (.tuple #[.pointer none, .int .i64 3]) else if allOk L = true then ∃ g, e = .returned (.tuple #[.pointer (some ⟨g, 0, none⟩), .int .i64 0]) ∧ IsR w' g w.heap.size L (L.map rlOf) else e = .returned (.tuple #[.pointer none, .int .i64 1])) ∧ Below w.heap.size w w'
def NewB (w : World) (L : List (List UInt8)) (e : Ending) (w' : World) : Prop :=
  (if allOk L = true then ∃ g, e = .returned (.tuple #[.pointer (some ⟨g, 0, none⟩), .int .i64 0]) ∧ IsR w' g w.heap.size L (L.map rlOf) else e = .returned (.tuple #[.pointer none, .int .i64 1])) ∧ Below w.heap.size w w'
theorem str_of_list {p : ByteArray} {x : List UInt8} (h : p.data.toList = x) : p = str x := by subst h; rfl
theorem take_getD {α : Type} {L : List α} {k : Nat} {x : α} (h : k < L.length) : L[k]? = some (L.getD k x) := by
  rw [List.getD_eq_getElem?_getD, List.getElem?_eq_getElem h]; rfl

set_option maxRecDepth 4000 in
set_option maxHeartbeats 4000000 in
theorem new_calls {b0 : Nat} {v : Value} {L : List (List UInt8)} (w : World) (hv : SlS w b0 v L) (hl : L.length ≤ 1000000000) (hl2 : ∀ S ∈ L, S.length ≤ 1000000000) :
    Calls Tryd.prog 13 #[v] w (NewA w L) := by
  have HV := Aside0.mk hv
  have HL2 := Aside0.mk hl2
  obtain ⟨A, c, rfl, hc, hm, _⟩ := hv
  by_cases h50 : 50 < L.length
  · have HP : Aside0 (∀ e w', e = .returned (.tuple #[.pointer none, .int .i64 3]) ∧ Below w.heap.size w w' → NewA w L e w') := ⟨fun e w' h => ⟨by rw [if_pos h50]; exact h.1, h.2⟩⟩
    refine Calls.mono ?_ HP.out
    clear HP
    go_enter Tryd.func13, Tryd.ntmps13
    go_wp2_with fail
    go_ret2
    exact ⟨rfl, Below.refl _ _⟩
  · have HP : Aside0 (∀ e w', NewB w L e w' → NewA w L e w') := ⟨fun e w' h => ⟨by rw [if_neg h50]; exact h.1, h.2⟩⟩
    refine Calls.mono ?_ HP.out
    clear HP
    have h51 : L.length ≤ 50 := by omega
    go_enter Tryd.func13, Tryd.ntmps13
    go_wp2_with fail
    refine (sclone_calls w HV.out hl).mono ?_
    rintro e w1 ⟨vl, rfl, hown, hb1⟩
    obtain ⟨A1, n1, c1, rfl⟩ := own_sh hown
    have HN1 : Aside0 (∀ n2 : Nat × Nat, NwS w (w1.alloc (.cells #[.slice A1 n1 c1, .slice none 0 0] 57 n2)) w1.heap.size L 0 ∨ n2 ≠ (0, 0)) := ⟨fun n2 => by
      rcases Classical.em (n2 = (0, 0)) with h | h
      · subst h
        have hb2 := (hb1.alloc hb1.size (.cells #[.slice A1 n1 c1, .slice none 0 0] 57 (0, 0)))
        exact .inl ⟨⟨_, _, hb1.size, heap_new rfl, own_below hown ((Below.refl _ _).alloc (Nat.le_refl _) _), World.ownsRow_nil _ _ _ _, ⟨_, _, _, rfl⟩, ⟨_, _, _, rfl⟩⟩, by simp, hb2⟩
      · exact .inr h⟩
    clear hown hb1
    obtain ⟨g, hg⟩ : ∃ g, g = w1.heap.size := ⟨_, rfl⟩
    go_wp2_with fail
    rw [← hg] at HN1 ⊢
    clear hg
    go_loopw [18] (fun i wr => ∃ k : Nat, k ≤ L.length ∧ i = .int .i64 k ∧ Aside0 (NwS w wr g L k)) (fun i wr => L.length - (intOf i).toNat)
    case atStart => exact ⟨0, Nat.zero_le _, rfl, ⟨(HN1.out (0, 0)).resolve_right (fun h => h rfl)⟩⟩
    case round =>
      obtain ⟨k, hk, rfl, hs⟩ := hrel
      by_cases hlt : k < L.length
      · have hB := hs.out.2.2
        obtain ⟨ad1, d1, he1, hcell1⟩ := HV.out.at k hlt
        cases he1
        have hcell1 := cell_keep hB hcell1
        have HS1 := Aside0.mk (take_getD (x := []) hlt)
        obtain ⟨S, hS⟩ : ∃ S, S = L.getD k [] := ⟨_, rfl⟩
        rw [← hS] at hcell1 HS1
        clear hS
        have hSl : S.length ≤ 1000000000 := HL2.out S (List.mem_of_getElem? HS1.out)
        obtain ⟨s, hs1⟩ : ∃ s, s = str S := ⟨_, rfl⟩
        rw [← hs1] at hcell1
        have hsS : s.data.toList = S := by rw [hs1, str_data]
        have hsz : s.size ≤ 1000000000 := by rw [← len_data, hsS]; exact hSl
        have HSS := Aside0.mk hsS
        clear hs1 hsS
        have z1 : (0 : Int) ≤ (k : Int) := by omega
        have z2 : (k : Int) < L.length := by omega
        obtain ⟨vl, vr, hgg, hbx, hvl, hvr, ⟨A2, n2, c2, rfl⟩, ⟨A3, n3, c3, rfl⟩⟩ := hs.out.1
        have HBX := Aside0.mk hbx
        have HVL := Aside0.mk hvl
        have HVR := Aside0.mk hvr
        have HAO := Aside0.mk hs.out.2.1
        have HB := Aside0.mk hB
        have HGG := Aside0.mk hgg
        have hgl := blk_lt hbx
        clear hvl hvr hB hs hbx hgg
        go_wp2_with fail
        refine (parse_calls s wr hsz).mono ?_
        rintro e w2 ⟨p, nn, dd, hh, rfl, hpp, hb2⟩
        have hwr := hb2.size
        rw [HSS.out] at hpp ⊢
        have HPP := Aside0.mk hpp
        have HB2 := Aside0.mk hb2
        clear hpp hb2
        rcases hok : okR S with _ | _
        · have HE : Aside0 (allOk L = false) := ⟨by
            rw [allOk, List.all_eq_false]
            exact ⟨S, List.mem_of_getElem? HS1.out, by rw [hok]; decide⟩⟩
          have HB3 : Aside0 (∀ o, Below w.heap.size w (w2.alloc o)) := ⟨fun o => (below_step HB.out HB2.out).alloc (below_step HB.out HB2.out).size o⟩
          clear hok
          go_wp2_with fail
          go_ret2
          exact ⟨by rw [if_neg (by rw [HE.out]; decide)]; rfl, HB3.out _⟩
        · have HOK := Aside0.mk hok
          obtain ⟨p1, p2, p3, p4⟩ := HPP.out hok
          obtain ⟨r, hr⟩ : ∃ r, r = rlOf S := ⟨_, rfl⟩
          obtain rfl : p = str r.pat := by rw [hr]; exact str_of_list p1
          obtain rfl : nn = r.not := by rw [hr]; exact p2
          obtain rfl : dd = r.dirs := by rw [hr]; exact p3
          obtain rfl : hh = r.whole := by rw [hr]; exact p4
          have HR := Aside0.mk hr
          clear hok p1 p2 p3 p4 HPP hr
          go_upto_region 10 with fail
          obtain ⟨wx, hwx⟩ : ∃ wx, wx = w2.alloc (.cells #[.string (str r.pat), .bool r.not, .bool r.dirs, .bool r.whole] 59 (0, 0)) := ⟨_, rfl⟩
          have hbx := below_step HB2.out ((Below.refl _ w2).alloc (Nat.le_refl _) (.cells #[.string (str r.pat), .bool r.not, .bool r.dirs, .bool r.whole] 59 (0, 0)))
          rw [← hwx] at hbx
          have HBG := Aside0.mk (below_heap hbx HBX.out)
          have HBK : Aside0 (wx.heap[w2.heap.size]? = some (.cells #[.string (str r.pat), .bool r.not, .bool r.dirs, .bool r.whole] 59 (0, 0))) := ⟨by rw [hwx]; exact heap_new rfl⟩
          rw [← hwx]
          obtain ⟨R, hR⟩ : ∃ R, R = (L.take k).map rlOf := ⟨_, rfl⟩
          have HOR : Aside0 (wx.ownsRow w.heap.size 59 4 (.slice A2 n2 c2) R.length (R.flatMap rlC)) := ⟨by rw [hR]; exact own_below HVR.out hbx⟩
          have HRL : Aside0 (R.length ≤ 50) := ⟨by rw [hR, List.length_map, List.length_take]; omega⟩
          have HBW := Aside0.mk (below_step HB.out hbx)
          have HW0 := Aside0.mk HBW.out.size
          have HPOST : Aside0 (∀ v2 w', wx.grownBy w' (Value.slice A2 n2 c2).ownBlock → w'.ownsRow w.heap.size 59 4 v2 (R ++ [r]).length ((R ++ [r]).flatMap rlC) → w'.heap[g]? = some (.cells #[.slice A3 n3 c3, .slice A2 n2 c2] 57 (0, 0)) ∧ NwS w (w'.setCell ⟨g, 1, none⟩ v2) g L (k + 1)) := ⟨fun v2 w' hg ho => by
            rw [hR, HR.out] at ho
            exact new_post HS1.out HOK.out HGG.out HBG.out (own_below HVL.out hbx) (by rw [← hR]; exact HOR.out) HAO.out HBW.out hg ho⟩
          obtain ⟨K, hK⟩ : ∃ K, K = w2.heap.size := ⟨_, rfl⟩
          rw [← hK] at HBK ⊢
          obtain ⟨vr, hvr⟩ : ∃ vr, vr = Value.slice A2 n2 c2 := ⟨_, rfl⟩
          obtain ⟨vl, hvl⟩ : ∃ vl, vl = Value.slice A3 n3 c3 := ⟨_, rfl⟩
          rw [← hvr] at HBG HOR HPOST
          rw [← hvl] at HBG HPOST
          clear hbx hwx hR hK hvr hvl hgl hwr
          refine wp_region_flowPB (fun a b => Below a.heap.size a b) (fun a b => a.grownBy b vr.ownBlock) 10 7 (NwR g K vl vr r) (NwR_p g K vl vr r) (fun v w' => w'.ownsRow w.heap.size 59 4 v (R ++ [r]).length ((R ++ [r]).flatMap rlC) ∧ ∃ A n c, v = .slice A n c) [29, 30, 31, 32, 33, 34, 35, 36, 37, 38] (by kernel_rfl) (by kernel_rfl) (by kernel_rfl) (by decide) ((Below.refl _ _).drew) (fun _ _ _ h k => below_step h k) (NwR_st _ _ _ _ _) (NwR_pure _ _ _ _ _) (fun v w w' h hb => ⟨own_below h.1 hb, h.2⟩) (fun _ _ h hb => grown_then h (grown_ofb hb)) ?_ ?_ ?_ (.inr (by kernel_rfl)) ?_
          · intro i o hi hne ho aa w' F
            have hlow := F.low
            match i, ho with
            | 0, ho =>
              obtain rfl := Option.some.inj ho
              refine flow_plain rfl rfl ?_
              have f4 : aa.tmps.getD 4 undef = .pointer (some ⟨g, 0, none⟩) := F.out 4 (by kernel_rfl) _ rfl
              exact op_move (.tmp 4) rfl ⟨_, rfl, Below.refl _ _, f4⟩
            | 1, ho =>
              obtain rfl := Option.some.inj ho
              refine flow_plain rfl rfl ?_
              have f4 : aa.tmps.getD 4 undef = .pointer (some ⟨g, 0, none⟩) := F.out 4 (by kernel_rfl) _ rfl
              exact op_move (.tmp 4) rfl ⟨_, rfl, Below.refl _ _, f4⟩
            | 2, ho =>
              obtain rfl := Option.some.inj ho
              refine flow_plain rfl rfl ?_
              have f30 : (aa.tmps.getD 30 undef) = .pointer (some ⟨g, 0, none⟩) := F.of 1 (by kernel_rfl)
              refine op_pure (.pointer (some ⟨g, 0, none⟩)) ?_ ⟨_, rfl, Below.refl _ _, rfl⟩
              simp [execOp, Act.eval, go_sem, f30]
            | 3, ho =>
              obtain rfl := Option.some.inj ho
              refine flow_plain rfl rfl ?_
              have f31 : (aa.tmps.getD 31 undef) = .pointer (some ⟨g, 0, none⟩) := F.of 2 (by kernel_rfl)
              refine op_pure (.pointer (some ⟨g, 1, none⟩)) ?_ ⟨_, rfl, Below.refl _ _, rfl⟩
              simp [execOp, Act.eval, go_sem, f31]
            | 4, ho =>
              obtain rfl := Option.some.inj ho
              refine flow_plain rfl rfl ?_
              have f32 : (aa.tmps.getD 32 undef) = .pointer (some ⟨g, 1, none⟩) := F.of 3 (by kernel_rfl)
              have hc := (blk (below_heap hlow HBG.out)).1
              refine op_pure (vr) ?_ ⟨_, rfl, Below.refl _ _, rfl⟩
              simp [execOp, Act.eval, go_sem, f32, hc]
            | 5, ho =>
              obtain rfl := Option.some.inj ho
              refine flow_plain rfl rfl ?_
              have f7 : aa.tmps.getD 7 undef = .pointer (some ⟨K, 0, none⟩) := F.out 7 (by kernel_rfl) _ rfl
              have hc := (blk (below_heap hlow HBK.out)).1
              refine op_pure (.agg #[.string (str r.pat), .bool r.not, .bool r.dirs, .bool r.whole]) ?_ ⟨_, rfl, Below.refl _ _, rfl⟩
              simp [execOp, Act.eval, go_sem, f7, hc]
            | 6, ho =>
              obtain rfl := Option.some.inj ho
              refine flow_plain rfl rfl ?_
              have f34 : (aa.tmps.getD 34 undef) = .agg #[.string (str r.pat), .bool r.not, .bool r.dirs, .bool r.whole] := F.of 5 (by kernel_rfl)
              refine op_val (.slice (some ⟨w'.heap.size, 0, none⟩) 1 1) (w'.alloc (.cells #[.string (str r.pat), .bool r.not, .bool r.dirs, .bool r.whole] 59 (0, 0))) ?_ ⟨_, rfl, (Below.refl _ _).alloc (Nat.le_refl _) _, slc_rl (heap_new rfl)⟩
              rw [Array.getD_eq_getD_getElem?] at f34
              simp [execOp, Act.eval, go_sem, f34]
            | 7, ho => exact absurd rfl hne
            | 8, ho =>
              obtain rfl := Option.some.inj ho
              refine flow_plain rfl rfl ?_
              have f29 : (aa.tmps.getD 29 undef) = .pointer (some ⟨g, 0, none⟩) := F.of 0 (by kernel_rfl)
              refine op_pure (.pointer (some ⟨g, 0, none⟩)) ?_ ⟨_, rfl, Below.refl _ _, rfl⟩
              simp [execOp, Act.eval, go_sem, f29]
            | 9, ho =>
              obtain rfl := Option.some.inj ho
              refine flow_plain rfl rfl ?_
              have f37 : (aa.tmps.getD 37 undef) = .pointer (some ⟨g, 0, none⟩) := F.of 8 (by kernel_rfl)
              refine op_pure (.pointer (some ⟨g, 1, none⟩)) ?_ ⟨_, rfl, Below.refl _ _, rfl⟩
              simp [execOp, Act.eval, go_sem, f37]
            | j + 10, ho => omega
          · intro o ho aa w' F
            have hlow := F.low
            obtain rfl := Option.some.inj ho
            refine flow_plain rfl rfl ?_
            have f33 : aa.tmps.getD 33 undef = vr := F.of 4 (by kernel_rfl)
            have f35 : SlC rlC 59 w' 0 (aa.tmps.getD 35 undef) [r] := F.of 6 (by kernel_rfl)
            refine wp_append_rows rlC 4 rlC_len (by decide) (.tmp 33) (.tmp 35) 55 rfl w.heap.size 59 59 0 (.agg #[.string ⟨#[]⟩, .bool false, .bool false, .bool false]) 24 Tryd.underlying55 info_rl rfl (by decide) vr R [r] _ f33 rfl (own_below HOR.out hlow) f35 (fun y hy => rlC_one y) (by have := HRL.out; simp; omega) (by have := HW0.out; have := hlow.size; omega) ?_
            intro v' w2 ho2 hg2 hs2
            exact ⟨_, rfl, grown_then (grown_ofb hlow) hg2, ho2, hs2⟩
          · intro i o hi hne hrc ho aa w' F
            match i, ho with
            | 0, ho =>
              obtain rfl := Option.some.inj ho
              refine flow_plain rfl rfl ?_
              have f4 : aa.tmps.getD 4 undef = .pointer (some ⟨g, 0, none⟩) := F.out 4 (by kernel_rfl) _ rfl
              exact op_move (.tmp 4) rfl ⟨_, rfl, Below.refl _ _, f4⟩
            | 1, ho => exact Bool.noConfusion (hrc.symm.trans (show _ = true by kernel_rfl))
            | 2, ho => exact Bool.noConfusion (hrc.symm.trans (show _ = true by kernel_rfl))
            | 3, ho => exact Bool.noConfusion (hrc.symm.trans (show _ = true by kernel_rfl))
            | 4, ho => exact Bool.noConfusion (hrc.symm.trans (show _ = true by kernel_rfl))
            | 5, ho => exact Bool.noConfusion (hrc.symm.trans (show _ = true by kernel_rfl))
            | 6, ho => exact Bool.noConfusion (hrc.symm.trans (show _ = true by kernel_rfl))
            | 7, ho => exact absurd rfl hne
            | 8, ho =>
              obtain rfl := Option.some.inj ho
              refine flow_plain rfl rfl ?_
              have f29 : (aa.tmps.getD 29 undef) = .pointer (some ⟨g, 0, none⟩) := F.dep 0 (by kernel_rfl) (by decide)
              refine op_pure (.pointer (some ⟨g, 0, none⟩)) ?_ ⟨_, rfl, Below.refl _ _, rfl⟩
              simp [execOp, Act.eval, go_sem, f29]
            | 9, ho =>
              obtain rfl := Option.some.inj ho
              refine flow_plain rfl rfl ?_
              have f37 : (aa.tmps.getD 37 undef) = .pointer (some ⟨g, 0, none⟩) := F.dep 8 (by kernel_rfl) (by decide)
              refine op_pure (.pointer (some ⟨g, 1, none⟩)) ?_ ⟨_, rfl, Below.refl _ _, rfl⟩
              simp [execOp, Act.eval, go_sem, f37]
            | j + 10, ho => omega
          · intro vs w' hgr hvs hrs
            refine ⟨fun hx => absurd hx (by decide), fun hx => ?_⟩
            clear hx
            have h9 : vs 9 = .pointer (some ⟨g, 1, none⟩) := hvs 9 (by decide) (by decide)
            obtain ⟨hrow, A2, n2, c2, h7⟩ := hrs
            rw [h7] at hrow
            refine flow_plain rfl rfl ?_
            simp only [putL, Act.put, List.setIfInBounds_toArray, List.set_cons_zero, List.set_cons_succ, Nat.reduceAdd]
            rw [h7, h9]
            obtain ⟨hbx, hpost⟩ := HPOST.out (.slice A2 n2 c2) w' hgr hrow
            obtain ⟨e0, e1⟩ := blk hbx
            refine op_skip (w'.setCell ⟨g, 1, none⟩ (.slice A2 n2 c2)) (by simp [execOp, Act.eval, go_sem, e0, e1]) ?_
            have H3 := Aside0.mk hpost
            clear hpost hvs h7 h9 hrow hgr hbx e0 e1
            go_wp2_with fail
            go_roundw
            case rel => exact ⟨k + 1, by omega, by go_num, H3⟩
            case measure => simp [intOf]; omega
      · have : k = L.length := by omega
        subst this
        have HE : Aside0 (allOk L = true) := ⟨by
          rw [allOk, List.all_eq_true]
          intro S hS
          exact hs.out.2.1 S (by rw [List.take_length]; exact hS)⟩
        have HR : Aside0 (IsR wr g w.heap.size L (L.map rlOf)) := ⟨by have h := hs.out.1; rw [List.take_length] at h; exact h⟩
        have HB := Aside0.mk hs.out.2.2
        go_wp2_with fail
        go_ret2
        exact ⟨by rw [if_pos HE.out]; exact ⟨g, rfl, HR.out⟩, HB.out⟩
end Go.Proofs.YtkalfkgnjmkjgaaDoor
