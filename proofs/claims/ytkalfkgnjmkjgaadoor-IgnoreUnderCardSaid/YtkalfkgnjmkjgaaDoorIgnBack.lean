/-
  slices.Backward of rules: what a loop over it is handed. No condition but a length.
-/
import Derived.RangeFuncNested
import Derived.RangeFuncBox
import Derived.RangeFuncLeaves
import Derived.Shelf.Abstract
import Derived.WalkKit
import Derived.OwnWalkIn
import Derived.TacticsInMore
import Derived.LoopNIn
import Derived.LoopIn
import Derived.Test.YtkalfkgnjmkjgaaDoorIgnNew
namespace Go.Proofs.YtkalfkgnjmkjgaaDoor
open Go.RowKit Go.Shelf
set_option linter.unusedVariables false
set_option linter.unusedSimpArgs false
attribute [local go_sem] Oper.semAt_some

def rk (R : List Rl) (i : Nat) : Rl := R.getD i ⟨[], false, false, false⟩
/-- The last k rules, the last one first, each with its number. -/
def bk (R : List Rl) (k : Nat) : List (Nat × Rl) := (List.range k).map fun j => (R.length - 1 - j, rk R (R.length - 1 - j))
theorem bk_succ (R : List Rl) (k : Nat) : bk R (k + 1) = bk R k ++ [(R.length - 1 - k, rk R (R.length - 1 - k))] := by simp [bk, List.range_succ]
theorem bk_length (R : List Rl) (k : Nat) : (bk R k).length = k := by simp [bk]
def enR (x : Nat × Rl) : Array Value := #[.int .i64 (x.1 : Int), .agg #[.string (str x.2.pat), .bool x.2.not, .bool x.2.dirs, .bool x.2.whole]]

/-- A rule's four cells, in the walk's spelling. -/
theorem rl_at {e : Nat} {w : World} {base : Nat} {v : Value} {l : List Rl} (h : SlC rlC e w base v l) (i : Nat) (hi : i < l.length) : ∃ ad c, v = .slice (some ad) l.length c ∧
    w.cell? (ad.add (i * 4)) = some (.string (str (rk l i).pat)) ∧ w.cell? ⟨(ad.add (i * 4)).block, (ad.add (i * 4)).off + 1, none⟩ = some (.bool (rk l i).not) ∧
    w.cell? ⟨(ad.add (i * 4)).block, (ad.add (i * 4)).off + 2, none⟩ = some (.bool (rk l i).dirs) ∧ w.cell? ⟨(ad.add (i * 4)).block, (ad.add (i * 4)).off + 3, none⟩ = some (.bool (rk l i).whole) := by
  have hk : rk l i = l[i]'hi := by unfold rk; rw [List.getD_eq_getElem?_getD, List.getElem?_eq_getElem hi]; rfl
  obtain ⟨ad, c, rfl, hcell⟩ := h.at rlC_len (by decide) i hi
  rw [hk]
  refine ⟨ad, c, rfl, ?_, ?_, ?_, ?_⟩
  · exact hcell 0 _ rfl
  · have h := hcell 1 _ rfl; rw [← add_add] at h; exact h
  · have h := hcell 2 _ rfl; rw [← add_add] at h; exact h
  · have h := hcell 3 _ rfl; rw [← add_add] at h; exact h

set_option maxRecDepth 100000 in
set_option maxHeartbeats 2000000 in
theorem back1_in (F : Fence) (n : Nat) (h8 : F.fn 51) (hro : F.round = none) (hn : 1 ≤ n) (l Bs n₀ : Nat) (A : Option Addr) (cap : Nat) (R : List Rl) (hreach : R.length ≤ 1000000000) (J Jx : List (Nat × Rl) → World → Prop)
    (hY : ∀ pre x W, J pre W → pre.length < R.length → YieldAt F (n - 1) Tryd.prog l (enR x) W fun e W' =>
      (e = .returned (.bool true) ∧ J (pre ++ [x]) W' ∧ Below n₀ W W') ∨ (e = .returned (.bool false) ∧ Jx (pre ++ [x]) W'))
    (W : World) (hn₀ : n₀ ≤ W.heap.size) (hBs : W.cell? ⟨Bs, 0, none⟩ = some (.slice A R.length cap)) (hBn : Bs < n₀) (hR : SlC rlC 59 W n₀ (.slice A R.length cap) R) (hRb : ∀ ad, A = some ad → ad.block < n₀) (h0 : J [] W) :
    CallsIn F n Tryd.prog 51 #[.func (.yield l) #[] #[], .pointer (some ⟨Bs, 0, none⟩)] W fun e W' => (∃ v, e = .returned v) ∧
      ((∃ ys, ys = bk R R.length ∧ J ys W') ∨ (∃ pre, (∃ k, k ≤ R.length ∧ pre = bk R k) ∧ Jx pre W')) := by
  refine callsIn_of_wp Tryd.func51 rfl h8 ?_ hro
  simp only [Tryd.ntmps51, List.size_toArray, List.length_cons, List.length_nil, Nat.reduceAdd, Nat.reduceSub, Array.replicate_succ, Array.replicate_zero, List.push_toArray, List.append_toArray, List.nil_append, List.cons_append]
  gi_wp2
  gi_loopw [3] (fun i wr => ∃ m : Nat, m ≤ R.length ∧ i = .int .i64 ((m : Int) - 1) ∧ J (bk R (R.length - m)) wr ∧ Below n₀ W wr)
    (fun i _ => ((intOf i) + 1).toNat)
  case atStart => exact ⟨R.length, Nat.le_refl _, rfl, by rw [Nat.sub_self]; exact h0, Below.refl _ _⟩
  case round =>
    obtain ⟨m, hm, rfl, hJs, hnx⟩ := hrel
    have hbs := (hnx.cell (p := ⟨Bs, 0, none⟩) hBn).trans hBs
    rcases m with _ | q
    · gi_wp2
      go_end0
      exact ⟨⟨_, rfl⟩, .inl ⟨_, rfl, hJs⟩⟩
    · have e1 : (((q + 1 : Nat) : Int) - 1) = (q : Int) := by omega
      rw [e1]
      obtain ⟨ad, c, he, c0, c1, c2, c3⟩ := rl_at hR q (by omega)
      cases he
      have hb := hRb _ rfl
      have d0 := (hnx.cell (p := ad.add (q * 4)) (by rw [add_eq]; exact hb)).trans c0
      have d1 := (hnx.cell (p := ⟨(ad.add (q * 4)).block, (ad.add (q * 4)).off + 1, none⟩) (by rw [add_eq]; exact hb)).trans c1
      have d2 := (hnx.cell (p := ⟨(ad.add (q * 4)).block, (ad.add (q * 4)).off + 2, none⟩) (by rw [add_eq]; exact hb)).trans c2
      have d3 := (hnx.cell (p := ⟨(ad.add (q * 4)).block, (ad.add (q * 4)).off + 3, none⟩) (by rw [add_eq]; exact hb)).trans c3
      clear c0 c1 c2 c3
      have HN : Aside0 (bk R (R.length - q) = bk R (R.length - (q + 1)) ++ [(q, rk R q)]) := ⟨by
        have h1 : R.length - q = (R.length - (q + 1)) + 1 := by omega
        rw [h1, bk_succ, show R.length - 1 - (R.length - (q + 1)) = q by omega]⟩
      obtain ⟨x, hx⟩ : ∃ x, x = rk R q := ⟨_, rfl⟩
      rw [← hx] at d0 d1 d2 d3 HN
      obtain ⟨fn, tmps, assign, body, hy, hRd⟩ := hY _ (q, x) wr hJs (by rw [bk_length]; omega)
      dsimp only [enR] at hy
      clear hx
      have z1 : (0 : Int) ≤ (q : Int) := by omega
      have z2 : (q : Int) < R.length := by omega
      gi_wp2
      refine hRd.mono ?_
      rintro e W3 (⟨rfl, hJ3, hk3⟩ | ⟨rfl, hJx3⟩)
      · gi_wp2
        go_roundw
        case rel => exact ⟨q, by omega, by go_num, by rw [HN.out]; exact hJ3, hnx.trans hk3⟩
        case measure => simp [intOf]
      · gi_wp2
        refine bodyPost_ret (results_none rfl _ _ _) rfl ?_
        exact ⟨⟨_, rfl⟩, .inr ⟨_, ⟨R.length - q, by omega, HN.out.symm⟩, hJx3⟩⟩

set_option maxHeartbeats 1000000 in
theorem back_in (F : Fence) (n : Nat) (h6 : F.fn 41) (hro : F.round = none) (a : Option Addr) (len cap : Nat) (w : World) :
    CallsIn F n Tryd.prog 41 #[.slice a len cap] w fun e w' => e = .returned (.func (.func 51) #[] #[.pointer (some ⟨w.heap.size, 0, none⟩)]) ∧ w' = w.alloc (.cells #[.slice a len cap] 55) := by
  refine callsIn_of_wp Tryd.func41 rfl h6 ?_ hro
  simp only [Tryd.ntmps41, List.size_toArray, List.length_cons, List.length_nil, Nat.reduceAdd, Nat.reduceSub, Array.replicate_succ, Array.replicate_zero, List.push_toArray, List.append_toArray, List.nil_append, List.cons_append]
  gi_wp2
  go_ret
  exact ⟨rfl, rfl⟩

theorem back_stops (F : Fence) (n : Nat) (h8 : F.fn 51) (hro : F.round = none) (hn : 1 ≤ n) (Bs n₀ : Nat) (A : Option Addr) (cap : Nat) (R : List Rl) (hreach : R.length ≤ 1000000000) (w : World) (hBs : Bs < n₀) (hn₀ : n₀ ≤ w.heap.size)
    (hc : w.cell? ⟨Bs, 0, none⟩ = some (.slice A R.length cap)) (hI : SlC rlC 59 w n₀ (.slice A R.length cap) R) (hRb : ∀ ad, A = some ad → ad.block < n₀) :
    SeqStopsK F n Tryd.prog 51 #[.pointer (some ⟨Bs, 0, none⟩)] enR (Below n₀) (fun ys => ys = bk R R.length)
      (fun pre => ∃ k, k ≤ R.length ∧ pre = bk R k) R.length w := fun l J Jx W hW _ _ hY h0 => by
  have hc' := (hW.cell (p := ⟨Bs, 0, none⟩) (Nat.lt_of_lt_of_le hBs hn₀)).trans hc
  exact back1_in F n h8 hro hn l Bs n₀ A cap R hreach J Jx hY W (Nat.le_trans hn₀ hW.size) hc' hBs (hI.below hW) hRb h0
end Go.Proofs.YtkalfkgnjmkjgaaDoor
