/-
  The keys of a map of paths, sorted by path.Compare. No condition but that the keys are paths.
-/
import Derived.Test.YtoigmepkhiknbaaDoorSchShelf
import Derived.Test.YtoigmepkhiknbaaDoorPathDraw
import Derived.Lib.QuietBelow
import Derived.Sort.OwnSorted
namespace Go.Proofs.YtoigmepkhiknbaaDoor
open Go.RowKit Go.Shelf Go.Lib Go.Sort Go.Maps
set_option linter.unusedVariables false
set_option linter.unusedSimpArgs false

/-- A path. -/
abbrev PT : Type := { x : List UInt8 // validB x = true }
instance : Inhabited PT := ⟨⟨[97], by decide⟩⟩
def pv (x : PT) : Value := tv x.1
def pcmp (x y : PT) : Int := cmpL x.1 y.1
theorem pcmp_lt (x y : PT) : ltOf pcmp x y = lessB x.1 y.1 := cmpL_less x.1 y.1
theorem pcmp_swo : SWO (ltOf pcmp) where
  irrefl x := by rw [pcmp_lt]; exact lessB_strict.irr _
  trans x y z h1 h2 := by rw [pcmp_lt] at *; exact lessB_strict.trans _ _ _ h1 h2
  ntrans x y z h1 h2 := by
    rw [pcmp_lt] at *
    cases h3 : lessB x.1 z.1 with
    | false => rfl
    | true =>
      cases h4 : lessB y.1 x.1 with
      | true => rw [lessB_strict.trans _ _ _ h4 h3] at h2; cases h2
      | false =>
        have h5 := lessB_strict.tri _ _ h1 h4
        rw [← h5] at h2
        rw [h2] at h3; cases h3
theorem pcmp_tot (x y : PT) (h1 : ltOf pcmp x y = false) (h2 : ltOf pcmp y x = false) : x = y := by
  rw [pcmp_lt] at *
  exact Subtype.ext (lessB_strict.tri _ _ h1 h2)
theorem grow_of_belowD {W w' : World} (h : BelowD W.heap.size W w') : ∃ q os', w' = grow (W.drewN q) os' := by
  obtain ⟨p, hp⟩ := regrown_of_below h.b
  have hd : w'.drawn = p.d := by rw [hp]; rfl
  refine ⟨p.d - W.drawn, p.os, ?_⟩
  have h2 := h.d
  rw [hp]
  have h3 : redrawn W p.d = W.drewN (p.d - W.drawn) := by
    unfold redrawn World.drewN
    congr 1
    omega
  rw [h3]
theorem cmp_lays (blk off size : Nat) (w : World) : CmpLays1 Tryd.prog 32 #[] pv pcmp blk off size w := by
  intro m os dk hs x y
  have hx := valid_len x.2
  have hy := valid_len y.2
  have h := compare_callsD (str x.1) (str y.1) (sortWorld pv w blk off m dk os) (by rw [← len_data, str_data]; omega) (by rw [← len_data, str_data]; omega)
  rw [str_data, str_data] at h
  refine h.mono ?_
  rintro e w' ⟨rfl, hb⟩
  exact ⟨rfl, grow_of_belowD hb⟩
theorem put_pv (d : Array PT) (cur : Array Value) : putCells pv 0 d cur = putCells encStr 0 (d.map (·.1)) cur := by
  unfold putCells
  refine congrArg (fun f => Array.mapIdx f cur) ?_
  funext k x
  rw [Array.size_map]
  by_cases h : 0 ≤ k ∧ k < 0 + d.size
  · rw [if_pos h, if_pos h, getElem!_pos d (k - 0) (by omega), getElem!_pos (d.map (·.1)) (k - 0) (by rw [Array.size_map]; omega), Array.getElem_map]
    rfl
  · rw [if_neg h, if_neg h]
theorem put_pv' (w : World) (g n : Nat) (d : Array PT) (os : Array Obj) : sortWorld pv w g 0 n d os = grow (putRow encStr (Sort.ahead w n) g 0 (d.map (·.1))) os := by
  unfold sortWorld putRow
  refine congrArg (fun f => grow (mapBlock (Sort.ahead w n) g f) os) ?_
  funext c
  exact put_pv d c
/-- The paths of a list, each with the fact that it is one. -/
def asPT (L : List (List UInt8)) (h : ∀ x ∈ L, validB x = true) : List PT := L.pmap (fun x h => ⟨x, h⟩) h
theorem asPT_map (L : List (List UInt8)) (h : ∀ x ∈ L, validB x = true) : (asPT L h).map (·.1) = L := by
  unfold asPT
  rw [List.map_pmap]
  exact List.pmap_eq_map _ |>.trans (List.map_id' _)
theorem sort_unique {K L : List (List UInt8)} (hK : ∀ x ∈ K, validB x = true) (hp : K.Perm L) (hs : L.Pairwise (fun x y => lessB x y = true)) :
    ((asPT K hK).mergeSort fun x y => !(ltOf pcmp) y x).map (·.1) = L := by
  refine List.Perm.eq_of_pairwise (le := fun x y => (!lessB y x) = true) ?_ ?_ ?_ ?_
  · intro a b _ _ h1 h2
    rw [Bool.not_eq_true'] at h1 h2
    exact lessB_strict.tri _ _ h2 h1
  · have h1 := List.pairwise_mergeSort (le := fun x y : PT => !(ltOf pcmp) y x) (fun a b c h1 h2 => by
      rw [Bool.not_eq_true'] at h1 h2 ⊢
      exact pcmp_swo.ntrans _ _ _ h2 h1) (fun a b => by
      cases h1 : ltOf pcmp b a with
      | false => rfl
      | true =>
        rw [pcmp_lt] at h1 ⊢
        rw [lessB_strict.asym _ _ h1]; rfl) (asPT K hK)
    rw [List.pairwise_map]
    refine h1.imp ?_
    intro a b h
    rw [pcmp_lt] at h
    exact h
  · refine hs.imp ?_
    intro a b h
    rw [lessB_strict.asym _ _ h]; rfl
  · refine ((List.mergeSort_perm _ _).map _).trans ?_
    rw [asPT_map]
    exact hp

/-- slices.SortFunc by path.Compare: a row of the call's own that holds paths. -/
theorem sortf_calls {base blk cap : Nat} {K L : List (List UInt8)} (w : World) (hown : w.ownsRow base 9 1 (.slice (some ⟨blk, 0, none⟩) K.length cap) K.length (K.map encStr)) (hK : ∀ x ∈ K, validB x = true) (hp : K.Perm L) (hs : L.Pairwise (fun x y => lessB x y = true)) (hl : K.length ≤ 1000000000) :
    Calls Tryd.prog 39 #[.slice (some ⟨blk, 0, none⟩) K.length cap, .func (.func 32) #[] #[]] w fun e w' => e = .returned (.tuple #[]) ∧ w'.ownsRow base 9 1 (.slice (some ⟨blk, 0, none⟩) K.length cap) K.length (L.map encStr) ∧ w.grownBy w' (some blk) := by
  rcases hown.2 with ⟨h0, _⟩ | ⟨g, cap', cur, hv, hbase, hb, h1, h2, h3, h4⟩
  · cases h0
  cases hv
  have hsz : (asPT K hK).toArray.size = K.length := by rw [List.size_toArray]; unfold asPT; rw [List.length_pmap]
  have hHs := holds_of_block hb (by simpa using h4)
  have hH : Holds pv w blk 0 (asPT K hK).toArray := by
    intro j hj
    have hj' : j < K.length := by rw [hsz] at hj; exact hj
    obtain ⟨c1, c2⟩ := hHs j (by simpa using hj')
    refine ⟨?_, c2⟩
    rw [c1, getElem!_pos _ j (by simpa using hj'), getElem!_pos _ j hj]
    have h5 : K[j] = ((asPT K hK).toArray[j]).1 := by
      simp only [asPT, List.getElem_toArray, List.getElem_pmap]
    show some (encStr (K.toArray[j])) = some (encStr _)
    rw [← h5]; simp
  have hblk : blk < w.heap.size := (Array.getElem?_eq_some_iff.1 hb).1
  have h := Any.slices_SortFunc_total Tryd.sort39 pv (fun _ => rfl) pcmp pcmp_swo 32 #[] blk 0 cap (asPT K hK).toArray w (enters_of Tryd.func32 (by kernel_rfl) rfl) (cmp_lays blk 0 _ w) hH hblk (by rw [hsz]; omega) pcmp_tot
  rw [hsz] at h
  refine h.mono ?_
  rintro e w' ⟨rfl, n, os, rfl⟩
  have he : ((asPT K hK).toArray.toList.mergeSort fun x y => !(ltOf pcmp) y x).toArray.map (·.1) = L.toArray := by
    rw [List.toList_toArray, ← sort_unique hK hp hs, List.map_toArray]
  rw [put_pv', he]
  exact ⟨rfl, ownsRow_sorted hp.length_eq.symm hbase hb h1 h2 h3, grownBy_sorted _⟩

set_option maxRecDepth 4000 in
set_option maxHeartbeats 2000000 in
/-- slices.SortedFunc of a map's keys by path.Compare. -/
theorem sortedf_calls {H : Type} {b nn : Nat} {D : DataW H} {R : Value → Option (DataW H × List MemPlace)} {L : List (List UInt8)} (w : World) (hown : w.ownsMap Tryd.prog 9 R b nn D) (hp : (strKeys D).Perm L) (hs : L.Pairwise (fun x y => lessB x y = true)) (hv : ∀ x ∈ L, validB x = true) (hl : L.length ≤ 1000000) :
    Calls Tryd.prog 30 #[.func (.func 40) #[] #[.pointer (some ⟨w.heap.size, 0, none⟩)], .func (.func 32) #[] #[]] (w.alloc (.cells #[.map (some b)] 57 (0, 0))) fun e w' => ∃ v, e = .returned v ∧ w'.ownsRow w.heap.size 9 1 v L.length (L.map tv) ∧ (∃ A n c, v = .slice A n c) ∧ Below w.heap.size w w' := by
  have hbl := hown.lt
  have hsD : Maps.size D ≤ 1000000 := by
    have h1 : Maps.size D = (strKeys D).length := by cases D <;> simp [Maps.size, strKeys]
    rw [h1, hp.length_eq]; exact hl
  have hseq : SeqGives Fence.wide (5 - 1 - 1) Tryd.prog 40 #[.pointer (some ⟨w.heap.size, 0, none⟩)] encStr (fun ss => ss.Perm (strKeys D)) (Maps.size D) (w.alloc (.cells #[.map (some b)] 57 (0, 0))) :=
    AnyZ.keys_gives (ρ := Tryd.keys31_ren) { Tryd.keys31 with } Fence.wide _ trivial rfl (by omega) w.heap.size b nn D _ (by simp) (by simp) (by
      obtain ⟨es, clock, hb, Ft, hs, hD⟩ := hown
      exact ⟨es, clock, (Below.heap_alloc _ _ b hbl).trans hb, Ft, hs, hD⟩)
  have hcol := callsIn_wide.1 (AnyZ.collect_in Tryd.collect38 Fence.wide 5 trivial trivial rfl (by omega) 40 #[.pointer (some ⟨w.heap.size, 0, none⟩)] trivial (enters_of Tryd.func40 (by kernel_rfl) rfl) (fun ss => ss.Perm (strKeys D)) (Maps.size D) (by simp only [maxLen]; omega) (by omega) _ hseq)
  have HC := Aside0.mk hcol
  have HB0 := Aside0.mk ((Below.refl w.heap.size w).alloc (Nat.le_refl _) (.cells #[.map (some b)] 57 (0, 0)))
  have HP := Aside0.mk hp
  have HS := Aside0.mk hs
  have HV := Aside0.mk hv
  clear hcol hseq hown hp hs hv
  go_enter Tryd.func30, Tryd.ntmps30
  go_wp2_with fail
  refine HC.out.mono ?_
  rintro e w1 ⟨v, ss, rfl, hperm, hrow, hnil, hb1⟩
  have hsz1 : (w.alloc (.cells #[.map (some b)] 57 (0, 0))).heap.size = w.heap.size + 1 := World.size_alloc _ _
  have hrow2 := own_mono (base' := w.heap.size) hrow (by rw [hsz1]; omega)
  have HB1 := Aside0.mk (below_step HB0.out hb1)
  have hpl := hperm.trans HP.out
  rcases hrow2.2 with ⟨rfl, hz⟩ | ⟨gb, cap, cur, rfl, hbase, hgb, r1, r2, r3, r4⟩
  · have hss : ss = [] := List.eq_nil_of_length_eq_zero hz
    subst hss
    have hL : L = [] := hpl.symm.eq_nil
    have HL := Aside0.mk hL
    clear hrow hrow2 hnil hb1 hpl hL hperm
    go_wp2_with fail
    refine (AnyF.slices_SortFunc_none (P := Tryd.prog) (ρ := Tryd.sort39_ren) { Tryd.sort39 with } none 0 _ w1).mono ?_
    rintro e w' ⟨rfl, rfl⟩
    go_wp2_with fail
    go_ret
    exact ⟨_, rfl, by rw [HL.out]; exact World.ownsRow_nil _ _ _ _, ⟨_, _, _, rfl⟩, HB1.out⟩
  · have HO := Aside0.mk hrow2
    have HPL := Aside0.mk hpl
    have HBA := Aside0.mk hbase
    clear hrow hrow2 hnil hb1 hpl hgb r1 r2 r3 r4 hbase hperm
    go_wp2_with fail
    refine (sortf_calls w1 HO.out (fun x hx => HV.out x (HPL.out.mem_iff.1 hx)) HPL.out HS.out (by rw [HPL.out.length_eq]; omega)).mono ?_
    rintro e w2 ⟨rfl, hown2, hg2⟩
    have H2 := Aside0.mk hown2
    have HB2 := Aside0.mk (HB1.out.grown hg2 HB1.out.size (fun j hj => by cases hj; exact HBA.out))
    clear hown2 hg2
    go_wp2_with fail
    go_ret
    refine ⟨_, rfl, ?_, ⟨_, _, _, rfl⟩, HB2.out⟩
    have h := H2.out
    rw [HPL.out.length_eq] at h ⊢
    exact h
end Go.Proofs.YtoigmepkhiknbaaDoor
