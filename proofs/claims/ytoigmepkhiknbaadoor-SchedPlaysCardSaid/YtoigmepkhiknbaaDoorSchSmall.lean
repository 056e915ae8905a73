/-
  The reference's Round; two lists of visits that are the same; are steps looked at? No condition but that the lists can be read.
-/
import Derived.Test.YtoigmepkhiknbaaDoorSchRNext
import Derived.Test.YtoigmepkhiknbaaDoorAlike
namespace Go.Proofs.YtoigmepkhiknbaaDoor
open Go.RowKit Go.Joins Go.Maps
set_option linter.unusedVariables false
set_option linter.unusedSimpArgs false

set_option maxHeartbeats 2000000 in
theorem rround_calls (t q : Int) (w : World) (ht : -9223372036854775808 ≤ t ∧ t ≤ 9223372036854775807) (hq : -9223372036854775808 ≤ q ∧ q ≤ 9223372036854775807) :
    Calls Tryd.prog 23 #[.int .i64 t, .int .i64 q] w fun e w' => e = .returned (.int .i64 (roundN t q)) ∧ w' = w := by
  by_cases h0 : q < 1
  · have HE : Aside0 (roundN t q = 0) := ⟨by unfold roundN; rw [if_pos (.inr h0)]⟩
    have d1 : decide (q < 1) = true := decide_eq_true h0
    go_enter Tryd.func23, Tryd.ntmps23
    go_wp2_with fail
    go_ret
    exact ⟨by rw [HE.out]; rfl, rfl⟩
  · have d1 : decide (q < 1) = false := decide_eq_false h0
    by_cases h1 : t < 0
    · have HE : Aside0 (roundN t q = 0) := ⟨by unfold roundN; rw [if_pos (.inl h1)]⟩
      have d2 : decide (t < 0) = true := decide_eq_true h1
      go_enter Tryd.func23, Tryd.ntmps23
      go_wp2_with fail
      go_ret
      exact ⟨by rw [HE.out]; rfl, rfl⟩
    · have d2 : decide (t < 0) = false := decide_eq_false h1
      have h2 : 0 ≤ t := by omega
      have h3 : 0 < q := by omega
      have e1 : t.tdiv q = t / q := Int.tdiv_eq_ediv_of_nonneg h2
      have e2 : t.tmod q = t % q := Int.tmod_eq_emod_of_nonneg h2
      have b1 : 0 ≤ t / q := Int.ediv_nonneg h2 (by omega)
      have b2 : t / q ≤ t := Int.ediv_le_self _ h2
      have b3 : 0 ≤ t % q := Int.emod_nonneg _ (by omega)
      have b4 : t % q < q := Int.emod_lt_of_pos _ h3
      have b5 : 0 < t % q → t / q + 1 ≤ t := fun h => by
        have h5 := Int.mul_ediv_add_emod t q
        have h7 : t / q ≤ q * (t / q) := by
          have := Int.mul_le_mul_of_nonneg_right (show (1 : Int) ≤ q by omega) b1
          omega
        omega
      have h4 : (q == 0) = false := by rw [beq_eq_false_iff_ne]; omega
      have h4' : ¬ q = 0 := by omega
      by_cases hr : 0 < t % q
      · have HE : Aside0 (roundN t q = t / q + 1) := ⟨by unfold roundN; rw [if_neg (by omega), if_pos hr]⟩
        have d3 : decide (0 < t % q) = true := decide_eq_true hr
        have b6 := b5 hr
        rw [HE.out]
        obtain ⟨D, hD⟩ : ∃ D, t / q = D := ⟨_, rfl⟩
        obtain ⟨M, hM⟩ : ∃ M, t % q = M := ⟨_, rfl⟩
        rw [hD] at e1 b1 b2 b6 ⊢
        rw [hM] at e2 b3 b4 d3 hr
        clear hD hM b5 HE
        go_enter Tryd.func23, Tryd.ntmps23
        go_wp2_with fail
        go_ret
        exact ⟨rfl, rfl⟩
      · have HE : Aside0 (roundN t q = t / q) := ⟨by unfold roundN; rw [if_neg (by omega), if_neg hr]⟩
        have d3 : decide (0 < t % q) = false := decide_eq_false hr
        rw [HE.out]
        obtain ⟨D, hD⟩ : ∃ D, t / q = D := ⟨_, rfl⟩
        obtain ⟨M, hM⟩ : ∃ M, t % q = M := ⟨_, rfl⟩
        rw [hD] at e1 b1 b2 ⊢
        rw [hM] at e2 b3 b4 d3 hr
        clear hD hM b5 HE
        go_enter Tryd.func23, Tryd.ntmps23
        go_wp2_with fail
        go_ret
        exact ⟨rfl, rfl⟩

theorem vis_at {e : Nat} {w : World} {base : Nat} {v : Value} {L : List Ent} (h : SlC visC e w base v L) (i : Nat) (hi : i < L.length) : ∃ ad c, v = .slice (some ad) L.length c ∧
    w.cell? (ad.add (i * 2)) = some (.string (str (L[i]'hi).1)) ∧ w.cell? ⟨(ad.add (i * 2)).block, (ad.add (i * 2)).off + 1, none⟩ = some (.int .i64 ((L[i]'hi).2 : Int)) := by
  obtain ⟨ad, c, rfl, hcell⟩ := h.at visC_len (by decide) i hi
  refine ⟨ad, c, rfl, hcell 0 _ rfl, ?_⟩
  have h := hcell 1 _ rfl; rw [← add_add] at h; exact h

set_option maxHeartbeats 2000000 in
theorem vsame_calls {e e' b b' : Nat} {v v' : Value} {L : List Ent} (w : World) (hx : SlC visC e w b v L) (hy : SlC visC e' w b' v' L) :
    Calls Tryd.prog 17 #[v, v'] w fun e w' => e = .returned (.bool true) ∧ Below w.heap.size w w' := by
  have HX := Aside0.mk hx
  have HY := Aside0.mk hy
  obtain ⟨A, c, rfl, hc, hm, _⟩ := hx
  obtain ⟨A', c', rfl, hc', hm', _⟩ := hy
  have hmx : L.length ≤ 9223372036854775807 := by simp only [maxLen] at hm; omega
  go_enter Tryd.func17, Tryd.ntmps17
  go_wp2_with fail
  go_loopw [5] (fun i wr => ∃ n : Nat, n ≤ L.length ∧ i = .int .i64 n ∧ Aside0 (Below w.heap.size w wr)) (fun i wr => L.length - (intOf i).toNat)
  case atStart => exact ⟨0, Nat.zero_le _, rfl, ⟨Below.refl _ _⟩⟩
  case round =>
    obtain ⟨n, hn, rfl, hs⟩ := hrel
    by_cases hlt : n < L.length
    · obtain ⟨ad, c1, he, c0, c1'⟩ := vis_at (HX.out.below hs.out) n hlt
      cases he
      obtain ⟨ad', c1, he, d0, d1⟩ := vis_at (HY.out.below hs.out) n hlt
      cases he
      obtain ⟨f, hf⟩ : ∃ f, f = L[n]'hlt := ⟨_, rfl⟩
      rw [← hf] at c0 c1' d0 d1
      clear hf
      obtain ⟨p, m⟩ := f
      simp only at c0 c1' d0 d1
      have h3 : ((str p).toList != (str p).toList) = false := by simp
      have hnI : (n : Int) < (L.length : Int) := by omega
      go_wp2_with fail
      go_quiet (fail)
      go_wp2_with fail
      go_roundw
      case rel => exact ⟨n + 1, by omega, by go_num, ⟨below_drewN hs.out nq⟩⟩
      case measure => simp [intOf]; omega
    · go_wp2_with fail
      go_ret
      exact ⟨rfl, hs.out⟩

/-- A step of the law: its kind, its path, its number. -/
structure Stp where
  kind : Int
  path : ByteArray
  num : Int
def stpC (x : Stp) : List Value := [.int .i64 x.kind, .string x.path, .int .i64 x.num]
theorem stpC_len (x : Stp) : (stpC x).length = 3 := rfl
def StpW (x : Stp) : Prop := (-9223372036854775808 ≤ x.kind ∧ x.kind ≤ 9223372036854775807) ∧ x.path.size ≤ 9223372036854775807 ∧ (-9223372036854775808 ≤ x.num ∧ x.num ≤ 9223372036854775807)
theorem stp_at {e : Nat} {w : World} {base : Nat} {v : Value} {L : List Stp} (h : SlC stpC e w base v L) (i : Nat) (hi : i < L.length) : ∃ ad c, v = .slice (some ad) L.length c ∧
    w.cell? (ad.add (i * 3)) = some (.int .i64 (L[i]'hi).kind) ∧ w.cell? ⟨(ad.add (i * 3)).block, (ad.add (i * 3)).off + 1, none⟩ = some (.string (L[i]'hi).path) ∧ w.cell? ⟨(ad.add (i * 3)).block, (ad.add (i * 3)).off + 2, none⟩ = some (.int .i64 (L[i]'hi).num) := by
  obtain ⟨ad, c, rfl, hcell⟩ := h.at stpC_len (by decide) i hi
  refine ⟨ad, c, rfl, hcell 0 _ rfl, ?_, ?_⟩
  · have h := hcell 1 _ rfl; rw [← add_add] at h; exact h
  · have h := hcell 2 _ rfl; rw [← add_add] at h; exact h
/-- What the number says of the first k steps. -/
def SmI (L : List Stp) (k : Nat) (n : Int) : Prop := 0 ≤ n ∧ n ≤ 9223372036854775807 ∧ (n ≤ 1000000 → ∀ x ∈ L.take k, (x.path.size : Int) ≤ n)
theorem sumI_bd2 : ∀ (xs : List Int) (n : Int), 0 ≤ n → n ≤ 9223372036854775807 → (∀ x ∈ xs, 0 ≤ x) → 0 ≤ sumI n xs ∧ sumI n xs ≤ 9223372036854775807
  | [], n, h0, h1, _ => ⟨h0, h1⟩
  | x :: xs, n, h0, h1, hx => by
    have hx0 := hx x (by simp)
    unfold sumI
    split
    · exact ⟨by decide, by decide⟩
    · split
      · exact ⟨by decide, by decide⟩
      · exact sumI_bd2 xs (n + x) (by omega) (by omega) (fun y hy => hx y (by simp [hy]))
theorem SmI.next {L : List Stp} {k : Nat} {n : Int} {x : Stp} (h : SmI L k n) (hS : L[k]? = some x) : SmI L (k + 1) (sumI n [(x.path.size : Int), 1]) := by
  obtain ⟨h0, h1, h2⟩ := h
  obtain ⟨b0, b1⟩ := sumI_bd2 [(x.path.size : Int), 1] n h0 h1 (by simp)
  refine ⟨b0, b1, fun hn => ?_⟩
  have h3 := sumI_le _ (by omega) [(x.path.size : Int), 1] n (Int.le_refl _)
  simp at h3
  have h5 := h2 (by omega)
  intro T hT
  rw [List.take_add_one, hS] at hT
  rcases List.mem_append.1 hT with hT | hT
  · have := h5 T hT; omega
  · rw [show T = x by simpa using hT]; omega

/-- What small answers. -/
def SmallR (L : List Stp) (e : Ending) : Prop := ∃ b, e = .returned (.bool b) ∧ (b = true → ∀ x ∈ L, (x.path.size : Int) ≤ 2000)
set_option maxRecDepth 4000 in
set_option maxHeartbeats 4000000 in
theorem ssmall_calls {e b0 : Nat} {v : Value} {L : List Stp} (w : World) (hv : SlC stpC e w b0 v L) (hw : ∀ x ∈ L, StpW x) :
    Calls Tryd.prog 13 #[v] w fun e w' => SmallR L e ∧ Below w.heap.size w w' := by
  have HV := Aside0.mk hv
  have HW := Aside0.mk hw
  obtain ⟨A, c, rfl, hc, hm, _⟩ := hv
  have hmx : L.length ≤ 9223372036854775807 := by simp only [maxLen] at hm; omega
  clear hw
  go_enter Tryd.func13, Tryd.ntmps13
  go_wp2_with fail
  go_loopw [3, 4] (fun n i wr => ∃ (k : Nat) (m : Int), k ≤ L.length ∧ i = .int .i64 k ∧ n = .int .i64 m ∧ Aside0 (SmI L k m ∧ Below w.heap.size w wr)) (fun n i wr => L.length - (intOf i).toNat)
  case atStart => exact ⟨0, 0, Nat.zero_le _, rfl, rfl, ⟨⟨by decide, by decide, fun _ => by simp⟩, Below.refl _ _⟩⟩
  case round =>
    obtain ⟨k, m, hk, rfl, rfl, hs⟩ := hrel
    have HB := Aside0.mk hs.out.2
    have HI := Aside0.mk hs.out.1
    clear hs
    by_cases hlt : k < L.length
    · have e1 : decide ((k : Int) < L.length) = true := decide_eq_true (by omega)
      by_cases hmh : m ≤ 2000
      · have e2 : decide (m ≤ 2000) = true := decide_eq_true hmh
        obtain ⟨ad, c1, he, g0, g1, g2⟩ := stp_at (HV.out.below HB.out) k hlt
        cases he
        have hxw := HW.out _ (List.getElem_mem hlt)
        have HS1 : Aside0 (L[k]? = some (L[k]'hlt)) := ⟨List.getElem?_eq_getElem hlt⟩
        obtain ⟨x, hx⟩ : ∃ x, x = L[k]'hlt := ⟨_, rfl⟩
        rw [← hx] at g0 g1 g2 hxw HS1
        clear hx
        have HN := Aside0.mk (HI.out.next HS1.out)
        obtain ⟨xk, xp, xn⟩ := x
        simp only at g0 g1 g2 hxw HN
        have hsz2 : xp.size ≤ 9223372036854775807 := hxw.2.1
        have z2 : (k : Int) < L.length := by omega
        have HWB := Aside0.mk (show 0 ≤ m ∧ m ≤ 9223372036854775807 from ⟨HI.out.1, HI.out.2.1⟩)
        have HB3 : Aside0 (∀ o, Below w.heap.size w (wr.alloc o)) := ⟨fun o => HB.out.alloc HB.out.size o⟩
        clear hxw HI
        cases k1 : xk == 1 <;> cases k2 : decide (30 < xn) <;> cases k3 : decide (xn ≤ 4096) <;> cases k4 : xk == 3 <;> cases k5 : decide (60 < xn)
        all_goals
          go_wp2_with fail
          first
          | (go_ret
             exact ⟨⟨false, rfl, fun h => by cases h⟩, HB.out⟩)
          | (refine (sum_calls (e := 3) (b0 := 0) m _ [(xp.size : Int), 1] _ HWB.out.1 HWB.out.2 (by intro x hx; simp at hx; rcases hx with rfl | rfl <;> omega) (Sl.at (heap_new rfl) rfl rfl (by simp) (by simp))).mono ?_
             rintro e w2 ⟨rfl, rfl⟩
             go_wp2_with fail
             go_roundw
             case rel => exact ⟨k + 1, _, by omega, by go_num, rfl, ⟨HN.out, HB3.out _⟩⟩
             case measure => simp [intOf]; omega)
      · have e2 : decide (m ≤ 2000) = false := decide_eq_false hmh
        go_wp2_with fail
        go_ret
        exact ⟨⟨false, rfl, fun h => by cases h⟩, HB.out⟩
    · have e1 : decide ((k : Int) < L.length) = false := decide_eq_false (by omega)
      obtain rfl : k = L.length := by omega
      cases h1 : decide (m ≤ 2000) with
      | false =>
        go_wp2_with fail
        go_ret
        exact ⟨⟨false, rfl, fun h => by cases h⟩, HB.out⟩
      | true =>
        have HF : Aside0 (∀ x ∈ L, (x.path.size : Int) ≤ 2000) := ⟨fun x hx => by
          have h2 := HI.out.2.2 (by have := of_decide_eq_true h1; omega) x (by rw [List.take_length]; exact hx)
          have := of_decide_eq_true h1
          omega⟩
        cases h2 : decide ((L.length : Int) ≤ 60) with
        | false =>
          go_wp2_with fail
          go_ret
          exact ⟨⟨false, rfl, fun h => by cases h⟩, HB.out⟩
        | true =>
          go_wp2_with fail
          go_ret
          exact ⟨⟨true, rfl, fun _ => HF.out⟩, HB.out⟩
end Go.Proofs.YtoigmepkhiknbaaDoor
