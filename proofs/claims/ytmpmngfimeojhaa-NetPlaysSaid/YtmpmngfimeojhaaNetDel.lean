/-
  slices.Delete of one frame, in a row of the net's own; Lose. No condition but that the net can be read.
-/
import Derived.Test.YtmpmngfimeojhaaNetTake
namespace Go.Proofs.Ytmpmngfimeojhaa
open Go.RowKit Go.Joins
set_option linter.unusedVariables false
set_option linter.unusedSimpArgs false

/-- What is behind an element is moved one to the left. -/
theorem own_moved {w : World} {base e g cap : Nat} {fs : List Fr} (h : w.ownsRow base e 4 (.slice (some ⟨g, 0, none⟩) fs.length cap) fs.length (fs.flatMap frC)) (i : Nat) (hi : i < fs.length) :
    (w.setCells g (i * 4) ((fs.drop (i + 1)).flatMap frC)).ownsRow base e 4 (.slice (some ⟨g, 0, none⟩) fs.length cap) fs.length ((fs.take i ++ fs.drop (i + 1) ++ fs.drop (fs.length - 1)).flatMap frC) := by
  obtain ⟨hl, h2⟩ := h
  have hml : ((fs.drop (i + 1)).flatMap frC).length = (fs.length - (i + 1)) * 4 := by rw [flat_len frC_len, List.length_drop]
  have hlen : ((fs.take i ++ fs.drop (i + 1) ++ fs.drop (fs.length - 1)).flatMap frC).length = fs.length * 4 := by
    rw [flat_len frC_len]
    simp only [List.length_append, List.length_take, List.length_drop]
    omega
  refine ⟨hlen, ?_⟩
  rcases h2 with ⟨h', _⟩ | ⟨g', cap', cur, h', hb, hg, hnc, hcm, hcs, htake⟩
  · cases h'
  · cases h'
    obtain ⟨cur', h1, h2, h3⟩ := setCells_at ((fs.drop (i + 1)).flatMap frC) (i * 4) w cur hg (by rw [hml]; omega)
    refine .inr ⟨g, cap, cur', rfl, hb, h1, hnc, hcm, by rw [h2, hcs], ?_⟩
    rw [h3, hml, List.take_append, List.take_of_length_le (by simp only [List.length_append, List.length_take, hml, Array.length_toList]; omega)]
    rw [List.flatMap_append, List.flatMap_append]
    congr 1
    · congr 1
      rw [flat_take frC_len, ← htake, List.take_take, Nat.min_eq_left (by omega)]
    · rw [flat_drop frC_len (xs := fs) (fs.length - 1), ← htake]
      simp only [List.length_append, List.length_take, hml, Array.length_toList]
      rw [List.drop_take, show i * 4 + (fs.length - (i + 1)) * 4 = (fs.length - 1) * 4 by omega, show min (i * 4) cur.size + (fs.length - (i + 1)) * 4 = (fs.length - 1) * 4 by omega]

set_option maxHeartbeats 2000000 in
theorem delete_calls {base g cap : Nat} {fs : List Fr} (i : Nat) (w : World) (hO : w.ownsRow base 42 4 (.slice (some ⟨g, 0, none⟩) fs.length cap) fs.length (fs.flatMap frC)) (hu : ∀ f ∈ fs, ∃ A n c, f.u = .slice A n c) (hi : i < fs.length) :
    Calls Try.prog 30 #[.slice (some ⟨g, 0, none⟩) fs.length cap, .int .i64 i, .int .i64 ((i : Int) + 1)] w fun e w' => (∃ v', e = .returned v' ∧ w'.ownsRow base 42 4 v' (fs.eraseIdx i).length ((fs.eraseIdx i).flatMap frC)) ∧ Keeps frT base w w' := by
  have HO := Aside0.mk hO
  have hca : fs.length ≤ cap ∧ cap ≤ maxLen := by
    rcases hO.2 with ⟨h', _⟩ | ⟨g', cap', cur, h', _, _, h1, h2, _⟩
    · cases h'
    · cases h'; exact ⟨h1, h2⟩
  obtain ⟨hca1, hca2⟩ := hca
  have hmx : cap ≤ 9223372036854775807 := by simp only [maxLen] at hca2; omega
  have hne : ((i : Int) == (i : Int) + 1) = false := by simp; omega
  clear hO
  go_enter Try.func30, Try.ntmps30
  go_wp2_with fail
  obtain ⟨i0', hi0, hz0, hz1, hz2⟩ := info_parts info_fr
  have hml : ((fs.drop (i + 1)).flatMap frC).length = (fs.length - (i + 1)) * 4 := by rw [flat_len frC_len, List.length_drop]
  have hbig := flat_len frC_len fs
  have hall : ∀ j u, (fs.flatMap frC)[j]? = some u → w.cell? ⟨g, j, none⟩ = some u := fun j u hj => by
    have := World.ownsRow.cells HO.out (g := g) rfl j u hj
    rwa [show (⟨g, 0, none⟩ : Addr).add j = ⟨g, j, none⟩ from by unfold Addr.add; split <;> simp_all] at this
  have hfz := (own_frame HO.out i hi).2.2.2.2
  obtain ⟨A, hA, hnews⟩ : ∃ A, (if cap = i + 1 then some (⟨g, 0, none⟩ : Addr) else some ⟨g, (i + 1) * 4, none⟩) = some A ∧ Aside0 (∀ j u, ((fs.drop (i + 1)).flatMap frC)[j]? = some u → w.drew.cell? (A.add j) = some u) := by
    split
    · refine ⟨_, rfl, ⟨fun j u hj => ?_⟩⟩
      rw [List.drop_of_length_le (by omega)] at hj
      simp at hj
    · refine ⟨_, rfl, ⟨fun j u hj => ?_⟩⟩
      rw [flat_drop frC_len, List.getElem?_drop] at hj
      rw [show (⟨g, (i + 1) * 4, none⟩ : Addr).add j = ⟨g, (i + 1) * 4 + j, none⟩ from by unfold Addr.add; split <;> simp_all]
      exact hall _ _ hj
  have h1c : Aside0 (∀ u ∈ (fs.drop (i + 1)).flatMap frC, u.oneCell' = true) := ⟨fun u hu' => by
    obtain ⟨f, hf, hfu⟩ := List.mem_flatMap.1 hu'
    obtain ⟨B, n, c, hfu'⟩ := hu f (List.mem_of_mem_drop hf)
    simp only [frC, List.mem_cons, List.not_mem_nil, or_false] at hfu
    rcases hfu with rfl | rfl | rfl | rfl <;> first | rfl | (rw [hfu']; rfl)⟩
  have hsp : Aside0 (∀ j, j < ((fs.drop (i + 1)).flatMap frC).length → (w.drew.cell? ⟨g, 0 + i * 4 + j, none⟩).isSome = true ∧ w.drew.frozen? ⟨g, 0 + i * 4 + j, none⟩ = false) := ⟨fun j hj => by
    rw [hml] at hj
    refine ⟨?_, hfz _⟩
    rw [Nat.zero_add]
    have := hall (i * 4 + j) _ (List.getElem?_eq_getElem (by omega))
    show (w.cell? _).isSome = true
    rw [this]; rfl⟩
  have HML := Aside0.mk hml
  have hic : i ≤ cap := by omega
  have hic1 : i + 1 ≤ cap := by omega
  have hic2 : i + 1 ≤ fs.length := by omega
  have hic3 : ((i : Int) + 1).toNat = i + 1 := by omega
  have hic4 : (0 : Int) ≤ (i : Int) + 1 := by omega
  have hic5 : (i : Int) + 1 ≤ fs.length := by omega
  clear hml hbig hall hu
  go_region_law (refine step_append_room rfl (.tmp 22) (.tmp 25) 33 rfl 42 i0' 4 Try.underlying33 hi0 hz1 g 0 i cap (by simp [Act.eval, Act.put]) A (fs.length - (i + 1)) (cap - (i + 1)) ((fs.drop (i + 1)).flatMap frC) (by simp [Act.eval, Act.put]) HML.out hnews.out h1c.out (by omega) hsp.out ?_)
  obtain ⟨m, hm⟩ : ∃ m, fs.length = m + 1 := ⟨fs.length - 1, by omega⟩
  have HOd : w.drew.ownsRow base 42 4 (.slice (some ⟨g, 0, none⟩) fs.length cap) fs.length (fs.flatMap frC) := own_below HO.out ((Below.refl _ _).drew)
  have hM := own_moved HOd i hi
  have HG := setCells_grown (g := g) ((fs.drop (i + 1)).flatMap frC) (i * 4) w.drew
  rw [show i + (fs.length - (i + 1)) = m by omega]
  obtain ⟨wx, hwx⟩ : ∃ wx, wx = w.drew.setCells g (i * 4) ((fs.drop (i + 1)).flatMap frC) := ⟨_, rfl⟩
  rw [← hwx] at hM HG ⊢
  have hcell : ∀ j, j < 1 * 4 → (wx.cell? ⟨g, m * 4 + j, none⟩).isSome = true := fun j hj => by
    have h1 := World.ownsRow.cells hM (g := g) rfl (m * 4 + j)
    have hlen := hM.1
    have h2 := h1 _ (List.getElem?_eq_getElem (by rw [hlen]; omega))
    have ha : (⟨g, 0, none⟩ : Addr).add (m * 4 + j) = ⟨g, m * 4 + j, none⟩ := by unfold Addr.add; split <;> simp_all
    rw [ha] at h2
    rw [h2]; rfl
  have hK1 : Keeps frT base w wx := (Keeps.of_below ((Below.refl _ _).drew)).trans (Keeps.grown HG fun k hk => by
    obtain ⟨h1, cur, fr, e', h2, rfl⟩ := own_row HOd k hk
    exact ⟨h1, cur, _, fr, h2, rfl⟩)
  have hfz2 : ∀ j, wx.frozen? ⟨g, j, none⟩ = false := by
    have hmz : (fs.take i ++ fs.drop (i + 1) ++ fs.drop (fs.length - 1)).length = fs.length := by simp only [List.length_append, List.length_take, List.length_drop]; omega
    exact (own_frame hM i (by omega)).2.2.2.2
  have HM := Aside0.mk hM
  have HK1 := Aside0.mk hK1
  have HCZ := Aside0.mk hcell
  clear hM hK1 hcell HG hwx HOd
  have hml2 : m ≤ cap := by omega
  have hmc : ¬ cap = m := by omega
  have hmi : ((m : Int) + 1).toNat = m + 1 := by omega
  go_wp2_with
    ((with_reducible refine wpList_clear_row (e := 42) (z := .agg #[.int .i64 0, .int .i64 0, .int .i64 0, .slice none 0 0]) (k := 4) ?hgd (.tmp 31) 33 ?ho Try.underlying33 (zero_of_info info_fr) ?hz ?hk0 ?h1 g (m * 4) 1 (cap - m) ?hx ?hn ?hc ?hf ?h)
     (case ho => rfl)
     (case hgd => rfl)
     (case hz => rfl)
     (case hk0 => decide)
     (case h1 => simp [Value.cells, Value.oneCell'])
     (case hx => rfl)
     (case hn => decide)
     (case hc => exact fun j hj => HCZ.out j (by omega))
     (case hf => exact fun j _ => hfz2 _))
  go_ret
  have hlt : (fs.take i).length = i := by rw [List.length_take]; omega
  have hle : (fs.eraseIdx i).length = m := by rw [List.length_eraseIdx, if_pos hi]; omega
  refine ⟨⟨_, rfl, ?_⟩, HK1.out.trans (Keeps.grown (setCells_grown _ _ _) fun k hk => ?_)⟩
  · have h1 := own_cleared (Builtin.zeroCells (Value.agg #[.int .i64 0, .int .i64 0, .int .i64 0, .slice none 0 0]).cells 1).toList HM.out (i := m) (by omega)
    rw [← flat_take frC_len, List.take_append_of_le_length (by simp only [List.length_append, List.length_take, List.length_drop]; omega), List.take_of_length_le (by simp only [List.length_append, List.length_take, List.length_drop]; omega), ← List.eraseIdx_eq_take_drop_succ] at h1
    rw [hle]
    exact h1
  · obtain ⟨h1, cur, fr, e', h2, rfl⟩ := own_row HM.out k hk
    exact ⟨h1, cur, _, fr, h2, rfl⟩
end Go.Proofs.Ytmpmngfimeojhaa
