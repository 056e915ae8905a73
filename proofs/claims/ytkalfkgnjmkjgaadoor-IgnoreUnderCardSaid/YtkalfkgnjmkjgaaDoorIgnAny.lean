/-
  strings.ContainsAny of " \n". No condition but a length.
-/
import Derived.Test.YtkalfkgnjmkjgaaDoorIgnRune
import Derived.Test.YtkalfkgnjmkjgaaDoorPathFns3
import Derived.Lib.OthersKept
import Derived.Lib.IndexAny
namespace Go.Proofs.YtkalfkgnjmkjgaaDoor
open Go.RowKit Go.Lib
set_option linter.unusedVariables false
set_option linter.unusedSimpArgs false

theorem decode_span (s : ByteArray) (pos : Nat) (h : pos < s.size) (ha : 128 ≤ (s[pos]'h).toNat) : pos + (Utf8.decode s pos).2 ≤ s.size ∧ ∀ j, pos ≤ j → j < pos + (Utf8.decode s pos).2 → 128 ≤ (s.data.toList.getD j 0).toNat := by
  have hg : ∀ k, pos + k < s.size → s.data.toList.getD (pos + k) 0 = s.get! (pos + k) := fun k hk => by
    have h1 : pos + k < s.data.toList.length := by rw [Array.length_toList]; exact hk
    rw [List.getD_eq_getElem?_getD, List.getElem?_eq_getElem h1]
    simp [ByteArray.get!, getElem!_pos, hk]
  have h0 : 128 ≤ (s.data.toList.getD pos 0).toNat := by
    have := hg 0 h
    rw [Nat.add_zero] at this
    rw [this]
    have h2 := get_at s pos h
    rw [Nat.add_zero] at h2
    rw [h2]; exact ha
  have hn : ¬ (s[pos]'h).toNat < 128 := by omega
  have key : ∀ m, m ≤ 4 → (∀ k, 0 < k → k < m → pos + k < s.size ∧ (s.get! (pos + k)).toNat / 64 = 2) → pos + m ≤ s.size ∧ ∀ j, pos ≤ j → j < pos + m → 128 ≤ (s.data.toList.getD j 0).toNat := fun m hm hk => by
    refine ⟨?_, fun j h1 h2 => ?_⟩
    · rcases Nat.lt_or_ge 1 m with h3 | h3
      · have := (hk (m - 1) (by omega) (by omega)).1; omega
      · omega
    · rcases Nat.eq_or_lt_of_le h1 with h3 | h3
      · rw [← h3]; exact h0
      · obtain ⟨h4, h5⟩ := hk (j - pos) (by omega) (by omega)
        have h6 := hg (j - pos) h4
        rw [show pos + (j - pos) = j by omega] at h5 h6
        rw [h6]; omega
  simp only [Utf8.decode, get_at s pos h, hn, if_false]
  repeat' split
  all_goals (refine key _ (by dsimp only; omega) fun k hk1 hk2 => ?_)
  all_goals dsimp only at hk2
  all_goals simp only [Bool.and_eq_true, decide_eq_true_eq, beq_iff_eq] at *
  all_goals
    have hk3 : k = 1 ∨ k = 2 ∨ k = 3 := by omega
    rcases hk3 with rfl | rfl | rfl
  all_goals first | omega | (constructor <;> omega)

def wsB (b : UInt8) : Bool := b == 32 || b == 10
theorem ws_contains (b : UInt8) : ([32, 10] : List UInt8).contains b = wsB b := by
  rw [Bool.eq_iff_iff]; simp [wsB]
theorem index_ws : ∀ l : List UInt8, decide (0 ≤ Lib.indexAny l [32, 10]) = l.any wsB
  | [] => rfl
  | b :: l => by
    have ih := index_ws l
    have hge := Lib.indexAny_ge [32, 10] l
    rw [Lib.indexAny, List.any_cons, ws_contains]
    cases hb : wsB b with
    | true => simp
    | false =>
      rw [if_neg (by decide), Bool.false_or, ← ih]
      split
      · rename_i h
        rw [beq_iff_eq] at h
        rw [h]
      · rename_i h
        rw [beq_iff_eq] at h
        rw [decide_eq_decide]; omega

theorem iany_long (s : ByteArray) (w : World) (h8 : 8 < s.size) (hs : s.size < 4294967281) :
    Calls Tryd.prog 46 #[.string s, .string ⟨#[32, 10]⟩] w fun e w' => ∃ k : Int, e = .returned (.int .i64 k) ∧ decide (0 ≤ k) = s.data.toList.any wsB ∧ Below w.heap.size w w' := by
  have h116 : (Tryd.prog.info? 80).map (fun i => (i.zero, i.size)) = some (some (.agg (Array.replicate 256 (.bool false))), 256) := by kernel_rfl
  refine (Tryd.strings_IndexAny_long (zero_of_info h116).1 s ⟨#[32, 10]⟩ w (by decide) h8 hs (by decide) ?_).mono ?_
  · intro j b hb
    have hm : b ∈ ([32, 10] : List UInt8) := List.mem_of_getElem? hb
    simp only [List.mem_cons, List.not_mem_nil, or_false] at hm
    rcases hm with rfl | rfl <;> decide
  · rintro e w' ⟨rfl, rfl⟩
    exact ⟨_, rfl, index_ws _, ((Below.refl _ _).alloc (Nat.le_refl _) _).alloc (by simp) _⟩

/-- None so far. -/
def NoWs (S : List UInt8) (i : Nat) : Prop := ∀ j, j < i → wsB (S.getD j 0) = false
theorem noWs_all {S : List UInt8} (h : NoWs S S.length) : S.any wsB = false := by
  rw [List.any_eq_false]
  intro x hx
  obtain ⟨j, hj, rfl⟩ := List.getElem_of_mem hx
  have := h j hj
  rw [List.getD_eq_getElem?_getD, List.getElem?_eq_getElem hj] at this
  simpa using this
theorem ws_hit {S : List UInt8} {i : Nat} (hi : i < S.length) (h : wsB (S.getD i 0) = true) : S.any wsB = true := by
  rw [List.any_eq_true]
  exact ⟨S[i], List.getElem_mem hi, by rw [List.getD_eq_getElem?_getD, List.getElem?_eq_getElem hi] at h; exact h⟩
theorem ws_high {x : UInt8} (h : 128 ≤ x.toNat) : wsB x = false := by
  unfold wsB
  have h1 : (x == 32) = false := by rw [beq_eq_false_iff_ne]; rintro rfl; exact absurd h (by decide)
  have h2 : (x == 10) = false := by rw [beq_eq_false_iff_ne]; rintro rfl; exact absurd h (by decide)
  rw [h1, h2]; rfl
theorem ws_index (x : UInt8) : decide (0 ≤ Lib.indexByte [32, 10] x) = wsB x := by
  rw [← Lib.contains_iff_indexByte, ws_contains]

set_option maxHeartbeats 8000000 in
set_option maxRecDepth 1000000 in
theorem iany_short (s chars : ByteArray) (hch : chars = ⟨#[32, 10]⟩) (w : World) (h8 : s.size ≤ 8) :
    Calls Tryd.prog 46 #[.string s, .string chars] w fun e w' => ∃ k : Int, e = .returned (.int .i64 k) ∧ decide (0 ≤ k) = s.data.toList.any wsB ∧ Below w.heap.size w w' := by
  have hemp : chars.toList.isEmpty = false := by rw [hch, toList_eq]; rfl
  have hsz : chars.size = 2 := by rw [hch]; rfl
  have h8z : decide ((8 : Int) < (s.size : Int)) = false := decide_eq_false (by omega)
  have HIH : Aside0 (∀ (r : Int) W, 128 ≤ r → Calls Tryd.prog 55 #[.string chars, .int .i32 r] W fun e w' => e = .returned (.int .i64 (-1)) ∧ Below W.heap.size W w') := ⟨fun r W h => by rw [hch]; exact irune_calls r W h⟩
  have HIL : Aside0 (∀ (x : UInt8) W, x.toNat < 128 → Calls Tryd.prog 55 #[.string chars, .int .i32 (x.toNat : Int)] W fun e w' => ∃ k : Int, e = .returned (.int .i64 k) ∧ decide (0 ≤ k) = wsB x ∧ w' = W) := ⟨fun x W h => by
    rw [hch]
    refine (Tryd.strings_IndexRune_ascii ⟨#[32, 10]⟩ (x.toNat : Int) W (by omega) (by omega)).mono ?_
    rintro e w' ⟨rfl, rfl⟩
    refine ⟨_, rfl, ?_, rfl⟩
    have hb : ((x.toNat : Int)).toNat.toUInt8 = x := by simp
    rw [hb]
    exact ws_index x⟩
  have HZ := Aside0.mk (len_data s)
  have HL : Aside0 (∀ k (hk : k < s.size), s.data.toList.getD k 0 = s[k]) := ⟨fun k hk => by
    have h : k < s.data.toList.length := by rw [Array.length_toList]; exact hk
    rw [List.getD_eq_getElem?_getD, List.getElem?_eq_getElem h]; rfl⟩
  clear hch
  go_enter Tryd.func46, Tryd.ntmps46
  go_wp2_with (go_at_call 56; refine (Tryd.strings_shouldUseASCIISet _ _).mono ?_; rintro e w' ⟨rfl, hw⟩; rw [hw, h8z]; clear hw)
  go_loopg [9, 10] s.size (fun g _ _ wx => ∃ i : Nat, i ≤ s.size ∧ s.size - i = g ∧ wx.heap[w.heap.size]? = some (.stringIter s i) ∧ Aside0 (NoWs s.data.toList i ∧ Below w.heap.size w wx))
  case atStart => exact ⟨0, Nat.zero_le _, by omega, World.iter_heap w s 0, ⟨fun j hj => absurd hj (Nat.not_lt_zero _), (Below.refl _ _).alloc (Nat.le_refl _) _⟩⟩
  case round =>
    obtain ⟨i, hi1, hig, hit, hno⟩ := hrel
    by_cases hi : i < s.size
    · by_cases hx128 : (s[i]'hi).toNat < 128
      · have hnx := fun ty => run_next_ascii_at (P := Tryd.prog) _ _ s i ty hit hi hx128
        have HI := Aside0.mk (iterAt_heap _ _ s i (i + 1) hit)
        have HB := Aside0.mk (below_iterAt hno.out.2 (Nat.le_refl _) s (i + 1))
        obtain ⟨x, hx⟩ : ∃ x : UInt8, s[i]'hi = x := ⟨_, rfl⟩
        rw [hx] at hnx hx128
        have HX : Aside0 (s.data.toList.getD i 0 = x) := ⟨by rw [HL.out i hi]; exact hx⟩
        clear hx hit
        obtain ⟨b, hb⟩ : ∃ b, b = wsB x := ⟨_, rfl⟩
        have HC := HIL.out x
        rw [← hb] at HC
        have HBX := Aside0.mk hb
        clear hb
        cases b with
        | false =>
          go_wp2_with (go_at_call 55; refine (HC _ hx128).mono ?_; rintro e w' ⟨k, rfl, hk, rfl⟩; have hk2 := of_decide_eq_false hk)
          go_roundg (s.size - (i + 1))
          case measure => omega
          case rel => exact ⟨i + 1, by omega, rfl, HI.out, ⟨fun j hj => by
            rcases Nat.lt_or_ge j i with h | h
            · exact hno.out.1 j h
            · have : j = i := by omega
              subst this
              rw [HX.out]; exact HBX.out.symm, HB.out⟩⟩
        | true =>
          go_wp2_with (go_at_call 55; refine (HC _ hx128).mono ?_; rintro e w' ⟨k, rfl, hk, rfl⟩; have hk2 := of_decide_eq_true hk)
          go_ret
          exact ⟨_, rfl, by rw [ws_hit (by rw [HZ.out]; exact hi) (by rw [HX.out]; exact HBX.out.symm), decide_eq_true (by omega)], HB.out⟩
      · have hx : 128 ≤ (s[i]'hi).toNat := by omega
        obtain ⟨hd1, hd2⟩ := decode_span s i hi hx
        obtain ⟨hd3, hd4⟩ := decode_high s i hi hx
        have hnx := fun ty => run_next_any_at (P := Tryd.prog) _ _ s i ty hit hi
        obtain ⟨c, hc⟩ : ∃ c, c = (Utf8.decode s i).1 := ⟨_, rfl⟩
        obtain ⟨m, hm⟩ : ∃ m, m = (Utf8.decode s i).2 := ⟨_, rfl⟩
        have HI := Aside0.mk (iterAt_heap _ _ s i (i + m) hit)
        have HB := Aside0.mk (below_iterAt hno.out.2 (Nat.le_refl _) s (i + m))
        rw [← hc, ← hm] at hnx
        rw [← hc] at hd3
        rw [← hm] at hd1 hd2 hd4
        have HD := Aside0.mk (And.intro hd1 (And.intro hd2 hd4))
        clear hc hm hd1 hd2 hd4 hit hx hx128
        have h3 : (128 : Int) ≤ (c : Int) := by omega
        go_wp2_with (go_at_call 55; refine (HIH.out _ _ h3).mono ?_; rintro e w' ⟨rfl, hb⟩; have H2 := Aside0.mk (And.intro (below_heap hb HI.out) (below_then HB.out HB.out.size hb)); clear hb)
        go_roundg (s.size - (i + m))
        case measure => have := HD.out.2.2; omega
        case rel => exact ⟨i + m, HD.out.1, rfl, H2.out.1, ⟨fun j hj => by
          rcases Nat.lt_or_ge j i with h | h
          · exact hno.out.1 j h
          · exact ws_high (HD.out.2.1 j h hj), H2.out.2⟩⟩
    · have hii : i = s.size := by omega
      have hnx := fun ty => run_next_end_at (P := Tryd.prog) _ _ s i ty hit hi
      have HN : Aside0 (s.data.toList.any wsB = false) := ⟨noWs_all (by rw [HZ.out, ← hii]; exact hno.out.1)⟩
      clear hit hii
      go_wp2
      go_ret
      exact ⟨_, rfl, by rw [HN.out]; rfl, hno.out.2⟩

theorem iany_calls (s : ByteArray) (w : World) (hs : s.size < 4294967281) :
    Calls Tryd.prog 46 #[.string s, .string ⟨#[32, 10]⟩] w fun e w' => ∃ k : Int, e = .returned (.int .i64 k) ∧ decide (0 ≤ k) = s.data.toList.any wsB ∧ Below w.heap.size w w' := by
  by_cases h : s.size ≤ 8
  · exact iany_short s _ rfl w h
  · exact iany_long s w (by omega) hs
set_option maxHeartbeats 1000000 in
theorem cany_calls (s : ByteArray) (w : World) (hs : s.size < 4294967281) :
    Calls Tryd.prog 37 #[.string s, .string ⟨#[32, 10]⟩] w fun e w' => e = .returned (.bool (s.data.toList.any wsB)) ∧ Below w.heap.size w w' := by
  have h := iany_calls s w hs
  go_enter Tryd.func37, Tryd.ntmps37
  go_wp2_with (go_at_call 46; refine h.mono ?_; rintro e w' ⟨k, rfl, hk, hb⟩)
  go_ret
  exact ⟨ret_b (by simp), hb⟩
end Go.Proofs.YtkalfkgnjmkjgaaDoor
