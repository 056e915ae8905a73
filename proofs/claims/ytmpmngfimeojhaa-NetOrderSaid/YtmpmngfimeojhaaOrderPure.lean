/-
  linnetalike's Round; frames that are numbered, as a list. No condition but that Round's bound is above zero.
-/
import Derived.Test.YtmpmngfimeojhaaLaw19
namespace Go.Proofs.Ytmpmngfimeojhaa
open Go.RowKit Go.Joins
set_option linter.unusedVariables false
set_option linter.unusedSimpArgs false

/-- A number brought into a range. -/
def rnd (x y : Int) : Int := if x.tmod y < 0 then x.tmod y + y else x.tmod y
theorem tmod_bd (x : Int) {y : Int} (hy : 0 < y) : -y < x.tmod y ∧ x.tmod y < y := by
  refine ⟨?_, Int.tmod_lt_of_pos x hy⟩
  have h := Int.tmod_lt_of_pos (-x) hy
  rw [Int.neg_tmod] at h
  omega
theorem rnd_bd (x : Int) {y : Int} (hy : 0 < y) : 0 ≤ rnd x y ∧ rnd x y < y := by
  have h := tmod_bd x hy
  unfold rnd
  split <;> omega

theorem tdiv_bd (x : Int) {y : Int} (hy : 0 < y) (hx : -9223372036854775808 ≤ x ∧ x ≤ 9223372036854775807) : -9223372036854775808 ≤ x.tdiv y ∧ x.tdiv y ≤ 9223372036854775807 := by
  by_cases h : 0 ≤ x
  · rw [Int.tdiv_eq_ediv_of_nonneg h]
    have h1 := Int.ediv_nonneg h (Int.le_of_lt hy)
    have h2 := Int.ediv_le_self y h
    omega
  · have h0 : 0 ≤ -x := by omega
    have h1 := Int.ediv_nonneg h0 (Int.le_of_lt hy)
    have h2 := Int.ediv_le_self y h0
    have h3 : x.tdiv y = -((-x) / y) := by
      rw [← Int.tdiv_eq_ediv_of_nonneg h0, Int.neg_tdiv]; omega
    omega
theorem round_calls (x y : Int) (w : World) (hy : 0 < y) (hy' : y ≤ 9223372036854775807) (hx : -9223372036854775808 ≤ x ∧ x ≤ 9223372036854775807) :
    Calls Try.prog 15 #[.int .i64 x, .int .i64 y] w fun e w' => e = .returned (.int .i64 (rnd x y)) ∧ w = w' := by
  have h := tmod_bd x hy
  have h0 : ¬ y = 0 := by omega
  have h1 : ¬ y = -1 := by omega
  obtain ⟨r, hr⟩ : ∃ r, r = x.tmod y := ⟨_, rfl⟩
  rw [← hr] at h
  have HR := Aside0.mk hr
  unfold rnd
  rw [← hr]
  by_cases hn : r < 0
  · rw [if_pos hn]
    go_enter Try.func15, Try.ntmps15
    go_wp2_with fail
    rw [← HR.out]
    go_wp2_with fail
    go_ret
    exact ⟨rfl, rfl⟩
  · rw [if_neg hn]
    go_enter Try.func15, Try.ntmps15
    go_wp2_with fail
    rw [← HR.out]
    go_wp2_with fail
    go_ret
    exact ⟨rfl, rfl⟩

/-- Frame number k. -/
def kf (ds : List Int) (k : Nat) : Int × Int × Int × List UInt8 := ((k : Int) + 1, ((k % 2 : Nat) : Int), rnd (ds.getD k 0) 100, [UInt8.ofNat k])
def dueK (ds : List Int) (to' now : Int) (k : Nat) : Bool := ((k % 2 : Nat) : Int) == to' && decide (rnd (ds.getD k 0) 100 ≤ now)
def dueQ (to' now : Int) (q : Int × Int × Int × List UInt8) : Bool := q.2.1 == to' && decide (q.2.2.1 ≤ now)
theorem filter_key (q : Int × Int × Int × List UInt8 → Bool) (r : Nat → Bool) (ds : List Int) (hq : ∀ k, q (kf ds k) = r k) (fs : List Fr) (ord : List Nat) (h : fs.map Fr.key = ord.map (kf ds)) : (fs.filter fun f => q f.key).map Fr.key = (ord.filter r).map (kf ds) := by
  have h1 : (fs.filter fun f => q f.key).map Fr.key = (fs.map Fr.key).filter q := by rw [List.filter_map]; rfl
  rw [h1, h, List.filter_map]
  congr 1
  apply List.filter_congr
  intro k _
  exact hq k
theorem key_len {ds : List Int} {fs : List Fr} {ord : List Nat} (h : fs.map Fr.key = ord.map (kf ds)) : fs.length = ord.length := by
  have := congrArg List.length h; simpa using this
theorem key_get {ds : List Int} {fs : List Fr} {ord : List Nat} (h : fs.map Fr.key = ord.map (kf ds)) {i : Nat} {f : Fr} (hf : fs[i]? = some f) : ∃ k, ord[i]? = some k ∧ f.key = kf ds k := by
  have h1 := congrArg (fun l => l[i]?) h
  simp only [List.getElem?_map, hf, Option.map_some] at h1
  cases h2 : ord[i]? with
  | none => rw [h2] at h1; cases h1
  | some k => rw [h2] at h1; exact ⟨k, rfl, Option.some.inj h1⟩
theorem key_b {ds : List Int} {fs : List Fr} {ord : List Nat} (h : fs.map Fr.key = ord.map (kf ds)) : fs.map Fr.b = ord.map fun k => [UInt8.ofNat k] := by
  have h1 := congrArg (List.map fun q : Int × Int × Int × List UInt8 => q.2.2.2) h
  simpa [Fr.key, kf, Function.comp_def] using h1
theorem key_small {ds : List Int} {fs : List Fr} {ord : List Nat} (h : fs.map Fr.key = ord.map (kf ds)) : ∀ f ∈ fs, f.b.length ≤ 140737488355328 := by
  intro f hf
  obtain ⟨i, hi, rfl⟩ := List.getElem_of_mem hf
  obtain ⟨k, _, hk⟩ := key_get h (List.getElem?_eq_getElem hi)
  have : (fs[i]).b = [UInt8.ofNat k] := congrArg (fun q => q.2.2.2) hk
  rw [this]; simp
theorem key_idx {ds : List Int} {fs : List Fr} {ord : List Nat} (h : fs.map Fr.key = ord.map (kf ds)) (hn : ord.Nodup) (i k : Nat) (hk : ord[i]? = some k) : idxI (fun f => f.id == (k : Int) + 1) fs = i := by
  obtain ⟨hi, hk'⟩ := List.getElem?_eq_some_iff.1 hk
  have hl := key_len h
  have hid : ∀ j (hj : j < fs.length), (fs[j]'hj).id = ((ord[j]'(by omega) : Nat) : Int) + 1 := fun j hj => by
    obtain ⟨m, hm, hkm⟩ := key_get h (List.getElem?_eq_getElem hj)
    rw [List.getElem?_eq_getElem (by omega)] at hm
    cases hm
    exact congrArg (fun q => q.1) hkm
  refine idxI_hit _ fs i (by omega) (by simp [hid, hk']) fun j hj => ?_
  simp only [hid, beq_eq_false_iff_ne]
  intro he
  have he' : ord[j]'(by omega) = ord[i] := by omega
  exact List.pairwise_iff_getElem.1 hn j i (by omega) hi hj he'
theorem key_swap {ds : List Int} {fs : List Fr} {ord : List Nat} (h : fs.map Fr.key = ord.map (kf ds)) (i j : Nat) (fi fj : Fr) (hi : fs[i]? = some fi) (hj : fs[j]? = some fj) (x y : Nat) (hx : ord[i]? = some x) (hy : ord[j]? = some y) :
    ((fs.set i fj).set j fi).map Fr.key = ((ord.set i y).set j x).map (kf ds) := by
  obtain ⟨x', hx', h1⟩ := key_get h hi
  obtain ⟨y', hy', h2⟩ := key_get h hj
  rw [hx] at hx'; rw [hy] at hy'
  cases hx'; cases hy'
  rw [List.map_set, List.map_set, List.map_set, List.map_set, h, h1, h2]
theorem swap_perm (ord : List Nat) (i j : Nat) (x y : Nat) (hx : ord[i]? = some x) (hy : ord[j]? = some y) : ((ord.set i y).set j x).Perm ord := by
  obtain ⟨hi, rfl⟩ := List.getElem?_eq_some_iff.1 hx
  obtain ⟨hj, rfl⟩ := List.getElem?_eq_some_iff.1 hy
  exact List.set_set_perm hi hj
theorem take_filter {α : Type} (p : α → Bool) (xs : List α) (i : Nat) (x : α) (hi : xs[i]? = some x) : (xs.take (i + 1)).filter p = (xs.take i).filter p ++ (if p x then [x] else []) ∧ (p x = true → (xs.filter p)[((xs.take i).filter p).length]? = some x) := by
  obtain ⟨h, rfl⟩ := List.getElem?_eq_some_iff.1 hi
  refine ⟨by rw [List.take_succ_eq_append_getElem h, List.filter_append]; simp [List.filter_cons], fun hp => ?_⟩
  have h1 : xs.filter p = (xs.take i).filter p ++ (xs.drop i).filter p := by rw [← List.filter_append, List.take_append_drop]
  rw [h1, List.getElem?_append_right (Nat.le_refl _), Nat.sub_self, List.drop_eq_getElem_cons h, List.filter_cons, if_pos hp]
  rfl
/-- What is left behind the first t takes. -/
def restK (ds : List Int) (now : Int) (t k : Nat) : Bool := !(decide (k % 2 < t) && decide (rnd (ds.getD k 0) 100 ≤ now))
theorem rest_due {ds : List Int} {now : Int} {t k : Nat} : (restK ds now t k && dueK ds t now k) = dueK ds t now k := by
  unfold restK dueK
  by_cases h : k % 2 = t
  · simp [h]
  · have : (((k % 2 : Nat) : Int) == (t : Int)) = false := by rw [beq_eq_false_iff_ne]; omega
    simp only [this, Bool.false_and, Bool.and_false]
theorem rest_next {ds : List Int} {now : Int} {t k : Nat} : (restK ds now t k && !dueK ds t now k) = restK ds now (t + 1) k := by
  unfold restK dueK
  by_cases h : k % 2 = t
  · simp [h]
  · have : (((k % 2 : Nat) : Int) == (t : Int)) = false := by rw [beq_eq_false_iff_ne]; omega
    have h2 : decide (k % 2 < t + 1) = decide (k % 2 < t) := by rw [decide_eq_decide]; omega
    simp only [this, h2, Bool.false_and, Bool.not_false, Bool.and_true]
theorem rest_zero {ds : List Int} {now : Int} (ord : List Nat) : ord.filter (restK ds now 0) = ord := List.filter_eq_self.2 fun k _ => by simp [restK]
theorem due_key {ds : List Int} {fs : List Fr} {ord : List Nat} {now : Int} {t : Nat} (h : fs.map Fr.key = (ord.filter (restK ds now t)).map (kf ds)) :
    (fs.filter (dueF t now)).map Fr.b = (ord.filter (dueK ds t now)).map (fun k => [UInt8.ofNat k]) ∧ (fs.filter fun f => !dueF t now f).map Fr.key = (ord.filter (restK ds now (t + 1))).map (kf ds) := by
  have h1 := filter_key (dueQ t now) (dueK ds t now) ds (fun k => rfl) fs _ h
  have h2 := filter_key (fun q => !dueQ t now q) (fun k => !dueK ds t now k) ds (fun k => rfl) fs _ h
  rw [List.filter_filter] at h1 h2
  refine ⟨?_, ?_⟩
  · have h3 := key_b h1
    rw [show (ord.filter fun a => dueK ds t now a && restK ds now t a) = ord.filter (dueK ds t now) from List.filter_congr fun k _ => by rw [Bool.and_comm, rest_due]] at h3
    exact h3
  · rw [show (ord.filter fun a => (!dueK ds t now a) && restK ds now t a) = ord.filter (restK ds now (t + 1)) from List.filter_congr fun k _ => by rw [Bool.and_comm, rest_next]] at h2
    exact h2
theorem rest_two {ds : List Int} {now : Int} {k : Nat} (h : restK ds now 2 k = true) : now < rnd (ds.getD k 0) 100 := by
  unfold restK at h
  have : k % 2 < 2 := by omega
  simpa [this] using h
end Go.Proofs.Ytmpmngfimeojhaa
