/-
  The reference's Due and Take; two lists of frames. No condition but that the nets can be read, and that they are not more than memory.
-/
import Derived.Test.YtmpmngfimeojhaaNetRest
import Derived.BigQuiet
namespace Go.Proofs.Ytmpmngfimeojhaa
open Go.RowKit Go.Joins
set_option linter.unusedVariables false
set_option linter.unusedSimpArgs false

theorem filter_snoc {α : Type} (p : α → Bool) (xs : List α) (n : Nat) (h : n < xs.length) : (xs.take (n + 1)).filter p = (xs.take n).filter p ++ if p (xs[n]'h) then [xs[n]'h] else [] := by
  rw [List.take_succ_eq_append_getElem h, List.filter_append]; simp [List.filter_cons]

set_option maxHeartbeats 2000000 in
theorem rdue_calls {base g : Nat} {v : Value} {s : NetS} (to' now : Int) (w : World) (N : RNet w base g v s) (hn : s.fs.length ≤ 1099511627776) :
    Calls Try.prog 25 #[.pointer (some ⟨g, 0, none⟩), .int .i64 to', .int .i64 now] w fun e w' => (∃ v', e = .returned v' ∧ w'.ownsRow w.heap.size 67 4 v' (s.fs.filter (dueF to' now)).length ((s.fs.filter (dueF to' now)).flatMap frC)) ∧ Below w.heap.size w w' := by
  have HB0 : Aside0 (∀ (w : World) o, Below w.heap.size w (w.alloc o)) := ⟨fun w o => (Below.refl _ _).alloc (Nat.le_refl _) _⟩
  have HN := Aside0.mk N
  have HNL := Aside0.mk hn
  obtain ⟨A, c, rfl, hc, hm⟩ := N.shape
  have hmx : s.fs.length ≤ 9223372036854775807 := by simp only [maxLen] at hm; omega
  clear N
  go_enter Try.func25, Try.ntmps25
  go_wp2_with fail
  go_loopw [7, 8] (fun o i wr => ∃ n : Nat, n ≤ s.fs.length ∧ i = .int .i64 n ∧ (∃ A m c, o = .slice A m c) ∧ Aside0 (wr.ownsRow w.heap.size 67 4 o ((s.fs.take n).filter (dueF to' now)).length (((s.fs.take n).filter (dueF to' now)).flatMap frC) ∧ Below w.heap.size w wr)) (fun o i wr => s.fs.length - (intOf i).toNat)
  case atStart => exact ⟨0, Nat.zero_le _, rfl, ⟨_, _, _, rfl⟩, ⟨World.ownsRow_nil _ _ _ _, Below.refl _ _⟩⟩
  case round =>
    obtain ⟨n, hn', rfl, ⟨Ao, mo, co, rfl⟩, hs⟩ := hrel
    obtain ⟨c0, c1, c2, c3⟩ := (HN.out.below hs.out.2).cells
    by_cases hlt : n < s.fs.length
    · obtain ⟨ad, c', he, d0, d1, d2, d3⟩ := frame_at (SlC.of_own (HN.out.below hs.out.2).row 0) n hlt
      cases he
      have HFS := Aside0.mk (filter_snoc (dueF to' now) s.fs n hlt)
      have hbf := (HN.out.below hs.out.2).bytes _ (List.getElem_mem hlt)
      obtain ⟨f, hf⟩ : ∃ f, f = s.fs[n]'hlt := ⟨_, rfl⟩
      rw [← hf] at d0 d1 d2 d3 HFS hbf
      obtain ⟨fid, fwhom, fdue, fb, fu⟩ := f
      simp only at d0 d1 d2 d3 hbf
      have HF := Aside0.mk (show Sl bv 5 wr base (⟨fid, fwhom, fdue, fb, fu⟩ : Fr).u (⟨fid, fwhom, fdue, fb, fu⟩ : Fr).b from hbf)
      obtain ⟨Af, cf, rfl, _⟩ := hbf
      clear hf
      have hnI : (n : Int) < (s.fs.length : Int) := by omega
      by_cases hw : fwhom = to'
      · subst hw
        by_cases hd : fdue ≤ now
        · have hp : dueF fwhom now ⟨fid, fwhom, fdue, fb, .slice Af fb.length cf⟩ = true := by simp [dueF, hd]
          rw [hp, if_pos rfl] at HFS
          have hfl : ((s.fs.take n).filter (dueF fwhom now)).length ≤ 1099511627776 := by
            have h1 := List.length_filter_le (dueF fwhom now) (s.fs.take n)
            rw [List.length_take] at h1
            have := HNL.out; omega
          have HFL := Aside0.mk hfl
          clear hp hfl
          have hsz := Aside0.mk hs.out.2.size
          go_wp2_with
            (at_builtin
             refine wpList_append_rows frC 4 frC_len (by decide) rfl (.tmp 40) (.tmp 48) 49 rfl w.heap.size 67 67 0 (.agg #[.int .i64 0, .int .i64 0, .int .i64 0, .slice none 0 0]) 48 Try.underlying49 info_rf rfl (by decide) (.slice Ao mo co) ((s.fs.take n).filter (dueF fwhom now)) [⟨fid, fwhom, fdue, fb, .slice Af fb.length cf⟩] (.slice (some ⟨wr.heap.size, 0, none⟩) 1 1) rfl rfl (own_below hs.out.1 (HB0.out _ _)) (slc_one (heap_new rfl)) ?_ ?_ ?_ ?_
             · intro y hy; rw [List.mem_singleton] at hy; subst hy; exact frC_one HF.out
             · have := HFL.out; simp only [List.length_cons, List.length_nil]; omega
             · have := hsz.out; simp; omega
             intro v5 w5 hown5 hgr5 hsh5
             have hb5 : Below w.heap.size w w5 := below_grown (below_step hs.out.2 (HB0.out _ _)) (by have := hsz.out; simp; omega) hgr5 (own_base hs.out.1)
             obtain ⟨A5, n5, c5, rfl⟩ := hsh5
             have H5 := Aside0.mk (And.intro hown5 hb5)
             clear hown5 hgr5 hb5)
          go_roundw
          case rel => exact ⟨n + 1, by omega, by go_num, ⟨_, _, _, rfl⟩, ⟨by rw [HFS.out]; exact H5.out.1, H5.out.2⟩⟩
          case measure => simp [intOf]; omega
        · have hp : dueF fwhom now ⟨fid, fwhom, fdue, fb, .slice Af fb.length cf⟩ = false := by simp [dueF, hd]
          rw [hp, if_neg (by decide), List.append_nil] at HFS
          clear hp
          go_wp2_with fail
          go_roundw
          case rel => exact ⟨n + 1, by omega, by go_num, ⟨_, _, _, rfl⟩, ⟨by rw [HFS.out]; exact hs.out.1, hs.out.2⟩⟩
          case measure => simp [intOf]; omega
      · have hp : dueF to' now ⟨fid, fwhom, fdue, fb, .slice Af fb.length cf⟩ = false := by simp [dueF, hw]
        rw [hp, if_neg (by decide), List.append_nil] at HFS
        clear hp
        go_wp2_with fail
        go_roundw
        case rel => exact ⟨n + 1, by omega, by go_num, ⟨_, _, _, rfl⟩, ⟨by rw [HFS.out]; exact hs.out.1, hs.out.2⟩⟩
        case measure => simp [intOf]; omega
    · have hnn : n = s.fs.length := by omega
      have HS := Aside0.mk (show wr.ownsRow w.heap.size 67 4 (.slice Ao mo co) (s.fs.filter (dueF to' now)).length ((s.fs.filter (dueF to' now)).flatMap frC) ∧ Below w.heap.size w wr from by
        have h := hs.out
        rw [hnn, List.take_length] at h
        exact h)
      clear hs
      go_wp2_with fail
      go_ret
      exact ⟨⟨_, rfl, HS.out.1⟩, HS.out.2⟩
end Go.Proofs.Ytmpmngfimeojhaa
