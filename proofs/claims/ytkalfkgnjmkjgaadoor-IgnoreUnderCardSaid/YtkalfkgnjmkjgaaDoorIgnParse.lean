/-
  A rule is read. No condition but a length.
-/
import Derived.Test.YtkalfkgnjmkjgaaDoorIgnAny
import Derived.Test.YtkalfkgnjmkjgaaDoorIgnStr
import Derived.Test.YtkalfkgnjmkjgaaDoorIgnPure
import Derived.Test.YtkalfkgnjmkjgaaDoorFlowU
import Derived.RegionTactic
import Derived.Laws.ResultCell
namespace Go.Proofs.YtkalfkgnjmkjgaaDoor
open Go.RowKit Go.Lib
set_option linter.unusedVariables false
set_option linter.unusedSimpArgs false

theorem setCell_id {w : World} {g o : Nat} {v : Value} (h : w.cell? ⟨g, o, none⟩ = some v) : w.setCell ⟨g, o, none⟩ v = w := by
  have hh : w.heap.modify g (fun | .cells c elem frozen => .cells (if (none : Option Nat).isSome then c else c.setIfInBounds o v) elem frozen | x => x) = w.heap := by
    apply Array.ext
    · simp
    · intro i h1 h2
      rw [Array.getElem_modify]
      split
      · rename_i he
        subst he
        unfold World.cell? at h
        rw [Array.getElem?_eq_getElem h2] at h
        cases hc : w.heap[g]'h2 with
        | cells c e fr =>
          rw [hc] at h
          simp only [Option.isSome_none, Bool.false_eq_true, if_false]
          congr 1
          apply Array.ext
          · simp
          · intro j h3 h4
            rw [Array.getElem_setIfInBounds (by simpa using h3)]
            split
            · rename_i hj
              subst hj
              have : c[o]? = some v := h
              rw [Array.getElem?_eq_getElem h4] at this
              exact (Option.some.inj this).symm
            · rfl
        | _ => rfl
      · rfl
  unfold World.setCell
  exact congrArg (fun x => { w with heap := x }) hh

/-- A rule. -/
structure Rl where
  pat : List UInt8
  not : Bool
  dirs : Bool
  whole : Bool
def parN (S : List UInt8) : Bool := Lib.hasPrefix S [33]
def par1 (S : List UInt8) : List UInt8 := Lib.trimPrefix S [33]
def parD (S : List UInt8) : Bool := Lib.hasSuffix (par1 S) [47]
def parT (S : List UInt8) : List UInt8 := Lib.trimSuffix (par1 S) [47]
def parW (S : List UInt8) : Bool := decide (0 ≤ Lib.indexByte (parT S) 47)
def okR (S : List UInt8) : Bool := decide (1 ≤ (parT S).length) && (decide ((parT S).length ≤ 60) && !(parT S).any wsB)
def ruleP (S : List UInt8) : Option Rl := if okR S = true then some ⟨parT S, parN S, parD S, parW S⟩ else none
theorem parT_no {S : List UInt8} (h : parD S = false) : parT S = par1 S := by unfold parD at h; unfold parT Lib.trimSuffix; rw [h]; rfl
theorem par_slash {S : List UInt8} (h : parD S = true) (h2 : parT S = []) : par1 S = [47] := by
  unfold parD Lib.hasSuffix at h
  unfold parT Lib.trimSuffix Lib.hasSuffix at h2
  rw [h, if_pos rfl] at h2
  rw [List.isSuffixOf_iff_suffix] at h
  obtain ⟨t, ht⟩ := h
  rw [← ht] at h2 ⊢
  have h3 : ([47] : List UInt8).length = 1 := rfl
  rw [List.length_append, h3, Nat.add_sub_cancel, List.take_left] at h2
  rw [h2]; rfl
theorem par_no_slash {S : List UInt8} (h : parD S = false) : par1 S ≠ [47] := by
  intro he
  unfold parD at h
  rw [he] at h
  exact absurd h (by decide)

/-- What each slot of the region holds. -/
def PaA (G : Nat) (pat : ByteArray) (n wh b : Bool) : Nat → Value → World → Prop
  | 0, v, w => v = .agg #[.string pat, .bool n, .bool true, .bool wh]
  | 1, v, w => v = .string pat
  | 2, v, w => v = .int .i64 pat.size
  | 3, v, w => v = .bool true
  | 4, v, w => v = .bool true
  | 5, v, w => v = .string pat
  | 6, v, w => v = .int .i64 pat.size
  | 7, v, w => v = .bool true
  | 8, v, w => v = .bool true
  | 9, v, w => v = .bool true
  | 10, v, w => v = .pointer (some ⟨G, 2, none⟩)
  | 11, v, w => v = .bool true
  | 12, v, w => v = .bool true
  | 13, v, w => v = undef
  | 14, v, w => v = undef
  | 15, v, w => v = .bool true
  | 16, v, w => v = .bool true
  | 17, v, w => v = .bool true
  | 18, v, w => v = .string pat
  | 19, v, w => v = .bool b
  | 20, v, w => v = .bool (!b)
  | 21, v, w => v = .bool (!b)
  | 22, v, w => True
  | 23, v, w => v = .bool (!b)
  | _, _, _ => True
theorem PaA_st (G : Nat) (pat : ByteArray) (n wh b : Bool) : ∀ i v w w', PaA G pat n wh b i v w → Below w.heap.size w w' → PaA G pat n wh b i v w'
  | 0, v, w, w', h, hb => h
  | 1, v, w, w', h, hb => h
  | 2, v, w, w', h, hb => h
  | 3, v, w, w', h, hb => h
  | 4, v, w, w', h, hb => h
  | 5, v, w, w', h, hb => h
  | 6, v, w, w', h, hb => h
  | 7, v, w, w', h, hb => h
  | 8, v, w, w', h, hb => h
  | 9, v, w, w', h, hb => h
  | 10, v, w, w', h, hb => h
  | 11, v, w, w', h, hb => h
  | 12, v, w, w', h, hb => h
  | 13, v, w, w', h, hb => h
  | 14, v, w, w', h, hb => h
  | 15, v, w, w', h, hb => h
  | 16, v, w, w', h, hb => h
  | 17, v, w, w', h, hb => h
  | 18, v, w, w', h, hb => h
  | 19, v, w, w', h, hb => h
  | 20, v, w, w', h, hb => h
  | 21, v, w, w', h, hb => h
  | 22, v, w, w', h, hb => trivial
  | 23, v, w, w', h, hb => h
  | _ + 24, _, _, _, _, _ => trivial
set_option maxHeartbeats 4000000 in
set_option maxRecDepth 4000 in
theorem parse_A (s s1 t : ByteArray) (n wh b : Bool) (w : World) (hne : t.toList.isEmpty = false) (h1 : 1 ≤ t.size) (h60 : t.size ≤ 60)
    (HP : Aside0 (∀ W, Calls Tryd.prog 34 #[.string s, .string ⟨#[33]⟩] W fun e w' => e = .returned (.tuple #[.string s1, .bool n]) ∧ w' = W))
    (HS : Aside0 (∀ W, Calls Tryd.prog 35 #[.string s1, .string ⟨#[47]⟩] W fun e w' => e = .returned (.tuple #[.string t, .bool true]) ∧ w' = W))
    (HCN : Aside0 (∀ W, Calls Tryd.prog 36 #[.string t, .string ⟨#[47]⟩] W fun e w' => e = .returned (.bool wh) ∧ w' = W))
    (HCA : Aside0 (∀ W, Calls Tryd.prog 37 #[.string t, .string ⟨#[32, 10]⟩] W fun e w' => e = .returned (.bool b) ∧ Below W.heap.size W w')) :
    Calls Tryd.prog 28 #[.string s] w fun e w' => e = .returned (.tuple #[.agg #[.string t, .bool n, .bool true, .bool wh], .bool (!b)]) ∧ Below w.heap.size w w' := by
  have HG : Aside0 ((w.alloc (.cells #[.string t, .bool n, .bool true, .bool wh] 59)).heap[w.heap.size]? = some (.cells #[.string t, .bool n, .bool true, .bool wh] 59 (0, 0))) := ⟨heap_new rfl⟩
  have HB0 : Aside0 (∀ o, Below w.heap.size w (w.alloc o)) := ⟨fun o => (Below.refl _ _).alloc (Nat.le_refl _) o⟩
  have h1i : (1 : Int) ≤ t.size := by omega
  have h60i : (t.size : Int) ≤ 60 := by omega
  go_enter Tryd.func28, Tryd.ntmps28
  go_wp2_with (first
    | (go_at_call 34; refine (HP.out _).mono ?_; rintro e w' ⟨rfl, hw⟩; rw [hw]; clear hw)
    | (go_at_call 35; refine (HS.out _).mono ?_; rintro e w' ⟨rfl, hw⟩; rw [hw]; clear hw)
    | (go_at_call 36; refine (HCN.out _).mono ?_; rintro e w' ⟨rfl, hw⟩; rw [hw]; clear hw))
  refine wp_region_flowU (PaA w.heap.size t n wh b) (by kernel_rfl) (by kernel_rfl) (PaA_st _ _ _ _ _) ?_ ?_ ?_
  · intro i hi hn v w
    match i with
    | 0 => exact absurd (show (some 32 : Option Nat) = none from hn) (fun h => by cases h)
    | 1 => exact absurd (show (some 33 : Option Nat) = none from hn) (fun h => by cases h)
    | 2 => exact absurd (show (some 34 : Option Nat) = none from hn) (fun h => by cases h)
    | 3 => exact absurd (show (some 35 : Option Nat) = none from hn) (fun h => by cases h)
    | 4 => exact absurd (show (some 36 : Option Nat) = none from hn) (fun h => by cases h)
    | 5 => exact absurd (show (some 37 : Option Nat) = none from hn) (fun h => by cases h)
    | 6 => exact absurd (show (some 38 : Option Nat) = none from hn) (fun h => by cases h)
    | 7 => exact absurd (show (some 39 : Option Nat) = none from hn) (fun h => by cases h)
    | 8 => exact absurd (show (some 40 : Option Nat) = none from hn) (fun h => by cases h)
    | 9 => exact absurd (show (some 41 : Option Nat) = none from hn) (fun h => by cases h)
    | 10 => exact absurd (show (some 42 : Option Nat) = none from hn) (fun h => by cases h)
    | 11 => exact absurd (show (some 43 : Option Nat) = none from hn) (fun h => by cases h)
    | 12 => exact absurd (show (some 44 : Option Nat) = none from hn) (fun h => by cases h)
    | 13 => exact absurd (show (some 45 : Option Nat) = none from hn) (fun h => by cases h)
    | 14 => exact absurd (show (some 46 : Option Nat) = none from hn) (fun h => by cases h)
    | 15 => exact absurd (show (some 47 : Option Nat) = none from hn) (fun h => by cases h)
    | 16 => exact absurd (show (some 48 : Option Nat) = none from hn) (fun h => by cases h)
    | 17 => exact absurd (show (some 49 : Option Nat) = none from hn) (fun h => by cases h)
    | 18 => exact absurd (show (some 50 : Option Nat) = none from hn) (fun h => by cases h)
    | 19 => exact absurd (show (some 51 : Option Nat) = none from hn) (fun h => by cases h)
    | 20 => exact absurd (show (some 52 : Option Nat) = none from hn) (fun h => by cases h)
    | 21 => exact absurd (show (some 53 : Option Nat) = none from hn) (fun h => by cases h)
    | 22 => trivial
    | 23 => exact absurd (show (some 3 : Option Nat) = none from hn) (fun h => by cases h)
    | j + 24 => trivial
  · intro i o ho aa w' F
    have hlow := F.low
    match i, ho with
    | 0, ho =>
      obtain rfl := Option.some.inj ho
      refine flow_plain rfl rfl ?_
      have f2 : aa.tmps.getD 2 undef = .pointer (some ⟨w.heap.size, 0, none⟩) := F.out 2 (by kernel_rfl) _ rfl
      have hc := (blk (below_heap hlow HG.out)).1
      refine op_pure (.agg #[.string t, .bool n, .bool true, .bool wh]) ?_ ⟨_, rfl, Below.refl _ _, rfl⟩
      simp [execOp, Act.eval, go_sem, f2, hc]
    | 1, ho =>
      obtain rfl := Option.some.inj ho
      refine flow_plain rfl rfl ?_
      have f4 : aa.tmps.getD 4 undef = .string t := F.out 4 (by kernel_rfl) _ rfl
      exact op_move (.tmp 4) rfl ⟨_, rfl, Below.refl _ _, f4⟩
    | 2, ho =>
      obtain rfl := Option.some.inj ho
      refine flow_plain rfl rfl ?_
      have f33 : (aa.tmps.getD 33 undef) = .string t := F.of 1 (by kernel_rfl)
      refine op_pure (.int .i64 t.size) ?_ ⟨_, rfl, Below.refl _ _, rfl⟩
      simp [execOp, Act.eval, go_sem, f33]
    | 3, ho =>
      obtain rfl := Option.some.inj ho
      refine flow_plain rfl rfl ?_
      have f34 : (aa.tmps.getD 34 undef) = .int .i64 t.size := F.of 2 (by kernel_rfl)
      refine op_pure (.bool true) ?_ ⟨_, rfl, Below.refl _ _, rfl⟩
      simp [execOp, Act.eval, go_sem, f34, h1i]
    | 4, ho =>
      obtain rfl := Option.some.inj ho
      refine flow_plain rfl rfl ?_
      have f35 : (aa.tmps.getD 35 undef) = .bool true := F.of 3 (by kernel_rfl)
      exact op_move (.tmp 35) rfl ⟨_, rfl, Below.refl _ _, f35⟩
    | 5, ho =>
      obtain rfl := Option.some.inj ho
      have hg : aa.tmps.getD 36 undef = .bool true := F.of 4 (by kernel_rfl)
      refine flow_yes rfl rfl 36 rfl hg ?_
      have f4 : aa.tmps.getD 4 undef = .string t := F.out 4 (by kernel_rfl) _ rfl
      exact op_move (.tmp 4) rfl ⟨_, rfl, Below.refl _ _, f4⟩
    | 6, ho =>
      obtain rfl := Option.some.inj ho
      have hg : aa.tmps.getD 36 undef = .bool true := F.of 4 (by kernel_rfl)
      refine flow_yes rfl rfl 36 rfl hg ?_
      have f37 : (aa.tmps.getD 37 undef) = .string t := F.of 5 (by kernel_rfl)
      refine op_pure (.int .i64 t.size) ?_ ⟨_, rfl, Below.refl _ _, rfl⟩
      simp [execOp, Act.eval, go_sem, f37]
    | 7, ho =>
      obtain rfl := Option.some.inj ho
      have hg : aa.tmps.getD 36 undef = .bool true := F.of 4 (by kernel_rfl)
      refine flow_yes rfl rfl 36 rfl hg ?_
      have f38 : (aa.tmps.getD 38 undef) = .int .i64 t.size := F.of 6 (by kernel_rfl)
      refine op_pure (.bool true) ?_ ⟨_, rfl, Below.refl _ _, rfl⟩
      simp [execOp, Act.eval, go_sem, f38, h60i]
    | 8, ho =>
      obtain rfl := Option.some.inj ho
      refine flow_plain rfl rfl ?_
      have f36 : (aa.tmps.getD 36 undef) = .bool true := F.of 4 (by kernel_rfl)
      have f39 : (aa.tmps.getD 39 undef) = .bool true := F.of 7 (by kernel_rfl)
      refine op_pure (.bool true) ?_ ⟨_, rfl, Below.refl _ _, rfl⟩
      simp [execOp, Act.eval, go_sem, f36, f39]
    | 9, ho =>
      obtain rfl := Option.some.inj ho
      refine flow_plain rfl rfl ?_
      have f40 : (aa.tmps.getD 40 undef) = .bool true := F.of 8 (by kernel_rfl)
      exact op_move (.tmp 40) rfl ⟨_, rfl, Below.refl _ _, f40⟩
    | 10, ho =>
      obtain rfl := Option.some.inj ho
      have hg : aa.tmps.getD 41 undef = .bool true := F.of 9 (by kernel_rfl)
      refine flow_yes rfl rfl 41 rfl hg ?_
      have f2 : aa.tmps.getD 2 undef = .pointer (some ⟨w.heap.size, 0, none⟩) := F.out 2 (by kernel_rfl) _ rfl
      refine op_pure (.pointer (some ⟨w.heap.size, 2, none⟩)) ?_ ⟨_, rfl, Below.refl _ _, rfl⟩
      simp [execOp, Act.eval, go_sem, f2]
    | 11, ho =>
      obtain rfl := Option.some.inj ho
      have hg : aa.tmps.getD 41 undef = .bool true := F.of 9 (by kernel_rfl)
      refine flow_yes rfl rfl 41 rfl hg ?_
      have f42 : (aa.tmps.getD 42 undef) = .pointer (some ⟨w.heap.size, 2, none⟩) := F.of 10 (by kernel_rfl)
      have hc := (blk (below_heap hlow HG.out)).1
      refine op_pure (.bool true) ?_ ⟨_, rfl, Below.refl _ _, rfl⟩
      simp [execOp, Act.eval, go_sem, f42, hc]
    | 12, ho =>
      obtain rfl := Option.some.inj ho
      have hg : aa.tmps.getD 41 undef = .bool true := F.of 9 (by kernel_rfl)
      refine flow_yes rfl rfl 41 rfl hg ?_
      have f43 : (aa.tmps.getD 43 undef) = .bool true := F.of 11 (by kernel_rfl)
      exact op_move (.tmp 43) rfl ⟨_, rfl, Below.refl _ _, f43⟩
    | 13, ho =>
      obtain rfl := Option.some.inj ho
      have hg : aa.tmps.getD 44 undef = .bool true := F.of 12 (by kernel_rfl)
      exact flow_no rfl rfl 44 rfl hg ⟨_, rfl, Below.refl _ _, rfl⟩
    | 14, ho =>
      obtain rfl := Option.some.inj ho
      have hg : aa.tmps.getD 44 undef = .bool true := F.of 12 (by kernel_rfl)
      exact flow_no rfl rfl 44 rfl hg ⟨_, rfl, Below.refl _ _, rfl⟩
    | 15, ho =>
      obtain rfl := Option.some.inj ho
      have hg : aa.tmps.getD 41 undef = .bool true := F.of 9 (by kernel_rfl)
      refine flow_yes rfl rfl 41 rfl hg ?_
      have f44 : (aa.tmps.getD 44 undef) = .bool true := F.of 12 (by kernel_rfl)
      have f46 : (aa.tmps.getD 46 undef) = undef := F.of 14 (by kernel_rfl)
      refine op_pure (.bool true) ?_ ⟨_, rfl, Below.refl _ _, rfl⟩
      simp [execOp, Act.eval, go_sem, f44, f46]
    | 16, ho =>
      obtain rfl := Option.some.inj ho
      refine flow_plain rfl rfl ?_
      have f41 : (aa.tmps.getD 41 undef) = .bool true := F.of 9 (by kernel_rfl)
      have f47 : (aa.tmps.getD 47 undef) = .bool true := F.of 15 (by kernel_rfl)
      refine op_pure (.bool true) ?_ ⟨_, rfl, Below.refl _ _, rfl⟩
      simp [execOp, Act.eval, go_sem, f41, f47]
    | 17, ho =>
      obtain rfl := Option.some.inj ho
      refine flow_plain rfl rfl ?_
      have f48 : (aa.tmps.getD 48 undef) = .bool true := F.of 16 (by kernel_rfl)
      exact op_move (.tmp 48) rfl ⟨_, rfl, Below.refl _ _, f48⟩
    | 18, ho =>
      obtain rfl := Option.some.inj ho
      have hg : aa.tmps.getD 49 undef = .bool true := F.of 17 (by kernel_rfl)
      refine flow_yes rfl rfl 49 rfl hg ?_
      have f4 : aa.tmps.getD 4 undef = .string t := F.out 4 (by kernel_rfl) _ rfl
      exact op_move (.tmp 4) rfl ⟨_, rfl, Below.refl _ _, f4⟩
    | 19, ho =>
      obtain rfl := Option.some.inj ho
      have hg : aa.tmps.getD 49 undef = .bool true := F.of 17 (by kernel_rfl)
      refine flow_yes rfl rfl 49 rfl hg ?_
      have f50 : (aa.tmps.getD 50 undef) = .string t := F.of 18 (by kernel_rfl)
      refine op_call 37 #[.tmp 50, .const (.string ⟨#[32, 10]⟩)] #[9, 9] rfl _ rfl rfl rfl #[.string t, (.string ⟨#[32, 10]⟩)] (by simp [Act.eval, f50]) ?_
      refine (HCA.out _).mono ?_
      rintro e w9 ⟨rfl, hb9⟩
      exact ⟨_, rfl, _, rfl, hb9, rfl⟩
    | 20, ho =>
      obtain rfl := Option.some.inj ho
      have hg : aa.tmps.getD 49 undef = .bool true := F.of 17 (by kernel_rfl)
      refine flow_yes rfl rfl 49 rfl hg ?_
      have f51 : (aa.tmps.getD 51 undef) = .bool b := F.of 19 (by kernel_rfl)
      refine op_pure (.bool (!b)) ?_ ⟨_, rfl, Below.refl _ _, rfl⟩
      simp [execOp, Act.eval, go_sem, f51]
    | 21, ho =>
      obtain rfl := Option.some.inj ho
      refine flow_plain rfl rfl ?_
      have f49 : (aa.tmps.getD 49 undef) = .bool true := F.of 17 (by kernel_rfl)
      have f52 : (aa.tmps.getD 52 undef) = .bool (!b) := F.of 20 (by kernel_rfl)
      refine op_pure (.bool (!b)) ?_ ⟨_, rfl, Below.refl _ _, rfl⟩
      simp [execOp, Act.eval, go_sem, f49, f52]
    | 22, ho =>
      obtain rfl := Option.some.inj ho
      refine flow_plain rfl rfl ?_
      have f2 : aa.tmps.getD 2 undef = .pointer (some ⟨w.heap.size, 0, none⟩) := F.out 2 (by kernel_rfl) _ rfl
      have f32 : (aa.tmps.getD 32 undef) = .agg #[.string t, .bool n, .bool true, .bool wh] := F.of 0 (by kernel_rfl)
      have hc := (blk (below_heap hlow HG.out)).1
      have hf := (blk (below_heap hlow HG.out)).2
      refine op_skip w' ?_ ⟨_, rfl, Below.refl _ _, trivial⟩
      simp [execOp, Act.eval, go_sem, f2, f32, hc, hf]
      rw [setCell_id (show w'.cell? ⟨w.heap.size, 0, none⟩ = some (.string t) from hc 0), setCell_id (show w'.cell? ⟨w.heap.size, 1, none⟩ = some (.bool n) from hc 1), setCell_id (show w'.cell? ⟨w.heap.size, 2, none⟩ = some (.bool true) from hc 2), setCell_id (show w'.cell? ⟨w.heap.size, 3, none⟩ = some (.bool wh) from hc 3)]
    | 23, ho =>
      obtain rfl := Option.some.inj ho
      refine flow_plain rfl rfl ?_
      have f53 : (aa.tmps.getD 53 undef) = .bool (!b) := F.of 21 (by kernel_rfl)
      exact op_assign (.tmp 53) rfl ⟨_, rfl, Below.refl _ _, f53⟩
    | j + 24, ho => exact absurd (Array.getElem?_eq_some_iff.1 ho).1 (by simp)
  · intro a' w' htsz hdfs hsame hlow hgot
    have h3 : a'.tmps.getD 3 undef = .bool (!b) := hgot 23 (by simp)
    have h2 : a'.tmps.getD 2 undef = .pointer (some ⟨w.heap.size, 0, none⟩) := by rw [Array.getD_eq_getD_getElem?, hsame 2 (by kernel_rfl)]; rfl
    have hbx := below_heap hlow HG.out
    have hB := Aside0.mk (below_step (HB0.out _) hlow)
    clear hgot hsame hlow
    go_wp2_with fail
    refine bodyPost_ret (v := .tuple #[.agg #[.string t, .bool n, .bool true, .bool wh], .bool (!b)]) ?_ hdfs ⟨rfl, hB.out⟩
    have hc := (blk hbx).1
    rw [results_cell_tmp rfl, h2, h3]
    simp [asAddr, Result.andThen, loadVar, go_sem, hc]

/-- What each slot of the region holds. -/
def PaB (G : Nat) (pat : ByteArray) (n wh b : Bool) : Nat → Value → World → Prop
  | 0, v, w => v = .agg #[.string pat, .bool n, .bool true, .bool wh]
  | 1, v, w => v = .string pat
  | 2, v, w => v = .int .i64 pat.size
  | 3, v, w => v = .bool true
  | 4, v, w => v = .bool true
  | 5, v, w => v = .string pat
  | 6, v, w => v = .int .i64 pat.size
  | 7, v, w => v = .bool false
  | 8, v, w => v = .bool false
  | 9, v, w => v = .bool false
  | 10, v, w => v = undef
  | 11, v, w => v = undef
  | 12, v, w => v = undef
  | 13, v, w => v = undef
  | 14, v, w => v = undef
  | 15, v, w => v = undef
  | 16, v, w => v = .bool false
  | 17, v, w => v = .bool false
  | 18, v, w => v = undef
  | 19, v, w => v = undef
  | 20, v, w => v = undef
  | 21, v, w => v = .bool false
  | 22, v, w => True
  | 23, v, w => v = .bool false
  | _, _, _ => True
theorem PaB_st (G : Nat) (pat : ByteArray) (n wh b : Bool) : ∀ i v w w', PaB G pat n wh b i v w → Below w.heap.size w w' → PaB G pat n wh b i v w'
  | 0, v, w, w', h, hb => h
  | 1, v, w, w', h, hb => h
  | 2, v, w, w', h, hb => h
  | 3, v, w, w', h, hb => h
  | 4, v, w, w', h, hb => h
  | 5, v, w, w', h, hb => h
  | 6, v, w, w', h, hb => h
  | 7, v, w, w', h, hb => h
  | 8, v, w, w', h, hb => h
  | 9, v, w, w', h, hb => h
  | 10, v, w, w', h, hb => h
  | 11, v, w, w', h, hb => h
  | 12, v, w, w', h, hb => h
  | 13, v, w, w', h, hb => h
  | 14, v, w, w', h, hb => h
  | 15, v, w, w', h, hb => h
  | 16, v, w, w', h, hb => h
  | 17, v, w, w', h, hb => h
  | 18, v, w, w', h, hb => h
  | 19, v, w, w', h, hb => h
  | 20, v, w, w', h, hb => h
  | 21, v, w, w', h, hb => h
  | 22, v, w, w', h, hb => trivial
  | 23, v, w, w', h, hb => h
  | _ + 24, _, _, _, _, _ => trivial
set_option maxHeartbeats 4000000 in
set_option maxRecDepth 4000 in
theorem parse_B (s s1 t : ByteArray) (n wh b : Bool) (w : World) (hne : t.toList.isEmpty = false) (h1 : 1 ≤ t.size) (h60 : ¬ t.size ≤ 60)
    (HP : Aside0 (∀ W, Calls Tryd.prog 34 #[.string s, .string ⟨#[33]⟩] W fun e w' => e = .returned (.tuple #[.string s1, .bool n]) ∧ w' = W))
    (HS : Aside0 (∀ W, Calls Tryd.prog 35 #[.string s1, .string ⟨#[47]⟩] W fun e w' => e = .returned (.tuple #[.string t, .bool true]) ∧ w' = W))
    (HCN : Aside0 (∀ W, Calls Tryd.prog 36 #[.string t, .string ⟨#[47]⟩] W fun e w' => e = .returned (.bool wh) ∧ w' = W))
    (HCA : Aside0 (∀ W, Calls Tryd.prog 37 #[.string t, .string ⟨#[32, 10]⟩] W fun e w' => e = .returned (.bool b) ∧ Below W.heap.size W w')) :
    Calls Tryd.prog 28 #[.string s] w fun e w' => e = .returned (.tuple #[.agg #[.string t, .bool n, .bool true, .bool wh], .bool false]) ∧ Below w.heap.size w w' := by
  have HG : Aside0 ((w.alloc (.cells #[.string t, .bool n, .bool true, .bool wh] 59)).heap[w.heap.size]? = some (.cells #[.string t, .bool n, .bool true, .bool wh] 59 (0, 0))) := ⟨heap_new rfl⟩
  have HB0 : Aside0 (∀ o, Below w.heap.size w (w.alloc o)) := ⟨fun o => (Below.refl _ _).alloc (Nat.le_refl _) o⟩
  have h1i : (1 : Int) ≤ t.size := by omega
  have h60i : ¬ (t.size : Int) ≤ 60 := by omega
  go_enter Tryd.func28, Tryd.ntmps28
  go_wp2_with (first
    | (go_at_call 34; refine (HP.out _).mono ?_; rintro e w' ⟨rfl, hw⟩; rw [hw]; clear hw)
    | (go_at_call 35; refine (HS.out _).mono ?_; rintro e w' ⟨rfl, hw⟩; rw [hw]; clear hw)
    | (go_at_call 36; refine (HCN.out _).mono ?_; rintro e w' ⟨rfl, hw⟩; rw [hw]; clear hw))
  refine wp_region_flowU (PaB w.heap.size t n wh b) (by kernel_rfl) (by kernel_rfl) (PaB_st _ _ _ _ _) ?_ ?_ ?_
  · intro i hi hn v w
    match i with
    | 0 => exact absurd (show (some 32 : Option Nat) = none from hn) (fun h => by cases h)
    | 1 => exact absurd (show (some 33 : Option Nat) = none from hn) (fun h => by cases h)
    | 2 => exact absurd (show (some 34 : Option Nat) = none from hn) (fun h => by cases h)
    | 3 => exact absurd (show (some 35 : Option Nat) = none from hn) (fun h => by cases h)
    | 4 => exact absurd (show (some 36 : Option Nat) = none from hn) (fun h => by cases h)
    | 5 => exact absurd (show (some 37 : Option Nat) = none from hn) (fun h => by cases h)
    | 6 => exact absurd (show (some 38 : Option Nat) = none from hn) (fun h => by cases h)
    | 7 => exact absurd (show (some 39 : Option Nat) = none from hn) (fun h => by cases h)
    | 8 => exact absurd (show (some 40 : Option Nat) = none from hn) (fun h => by cases h)
    | 9 => exact absurd (show (some 41 : Option Nat) = none from hn) (fun h => by cases h)
    | 10 => exact absurd (show (some 42 : Option Nat) = none from hn) (fun h => by cases h)
    | 11 => exact absurd (show (some 43 : Option Nat) = none from hn) (fun h => by cases h)
    | 12 => exact absurd (show (some 44 : Option Nat) = none from hn) (fun h => by cases h)
    | 13 => exact absurd (show (some 45 : Option Nat) = none from hn) (fun h => by cases h)
    | 14 => exact absurd (show (some 46 : Option Nat) = none from hn) (fun h => by cases h)
    | 15 => exact absurd (show (some 47 : Option Nat) = none from hn) (fun h => by cases h)
    | 16 => exact absurd (show (some 48 : Option Nat) = none from hn) (fun h => by cases h)
    | 17 => exact absurd (show (some 49 : Option Nat) = none from hn) (fun h => by cases h)
    | 18 => exact absurd (show (some 50 : Option Nat) = none from hn) (fun h => by cases h)
    | 19 => exact absurd (show (some 51 : Option Nat) = none from hn) (fun h => by cases h)
    | 20 => exact absurd (show (some 52 : Option Nat) = none from hn) (fun h => by cases h)
    | 21 => exact absurd (show (some 53 : Option Nat) = none from hn) (fun h => by cases h)
    | 22 => trivial
    | 23 => exact absurd (show (some 3 : Option Nat) = none from hn) (fun h => by cases h)
    | j + 24 => trivial
  · intro i o ho aa w' F
    have hlow := F.low
    match i, ho with
    | 0, ho =>
      obtain rfl := Option.some.inj ho
      refine flow_plain rfl rfl ?_
      have f2 : aa.tmps.getD 2 undef = .pointer (some ⟨w.heap.size, 0, none⟩) := F.out 2 (by kernel_rfl) _ rfl
      have hc := (blk (below_heap hlow HG.out)).1
      refine op_pure (.agg #[.string t, .bool n, .bool true, .bool wh]) ?_ ⟨_, rfl, Below.refl _ _, rfl⟩
      simp [execOp, Act.eval, go_sem, f2, hc]
    | 1, ho =>
      obtain rfl := Option.some.inj ho
      refine flow_plain rfl rfl ?_
      have f4 : aa.tmps.getD 4 undef = .string t := F.out 4 (by kernel_rfl) _ rfl
      exact op_move (.tmp 4) rfl ⟨_, rfl, Below.refl _ _, f4⟩
    | 2, ho =>
      obtain rfl := Option.some.inj ho
      refine flow_plain rfl rfl ?_
      have f33 : (aa.tmps.getD 33 undef) = .string t := F.of 1 (by kernel_rfl)
      refine op_pure (.int .i64 t.size) ?_ ⟨_, rfl, Below.refl _ _, rfl⟩
      simp [execOp, Act.eval, go_sem, f33]
    | 3, ho =>
      obtain rfl := Option.some.inj ho
      refine flow_plain rfl rfl ?_
      have f34 : (aa.tmps.getD 34 undef) = .int .i64 t.size := F.of 2 (by kernel_rfl)
      refine op_pure (.bool true) ?_ ⟨_, rfl, Below.refl _ _, rfl⟩
      simp [execOp, Act.eval, go_sem, f34, h1i]
    | 4, ho =>
      obtain rfl := Option.some.inj ho
      refine flow_plain rfl rfl ?_
      have f35 : (aa.tmps.getD 35 undef) = .bool true := F.of 3 (by kernel_rfl)
      exact op_move (.tmp 35) rfl ⟨_, rfl, Below.refl _ _, f35⟩
    | 5, ho =>
      obtain rfl := Option.some.inj ho
      have hg : aa.tmps.getD 36 undef = .bool true := F.of 4 (by kernel_rfl)
      refine flow_yes rfl rfl 36 rfl hg ?_
      have f4 : aa.tmps.getD 4 undef = .string t := F.out 4 (by kernel_rfl) _ rfl
      exact op_move (.tmp 4) rfl ⟨_, rfl, Below.refl _ _, f4⟩
    | 6, ho =>
      obtain rfl := Option.some.inj ho
      have hg : aa.tmps.getD 36 undef = .bool true := F.of 4 (by kernel_rfl)
      refine flow_yes rfl rfl 36 rfl hg ?_
      have f37 : (aa.tmps.getD 37 undef) = .string t := F.of 5 (by kernel_rfl)
      refine op_pure (.int .i64 t.size) ?_ ⟨_, rfl, Below.refl _ _, rfl⟩
      simp [execOp, Act.eval, go_sem, f37]
    | 7, ho =>
      obtain rfl := Option.some.inj ho
      have hg : aa.tmps.getD 36 undef = .bool true := F.of 4 (by kernel_rfl)
      refine flow_yes rfl rfl 36 rfl hg ?_
      have f38 : (aa.tmps.getD 38 undef) = .int .i64 t.size := F.of 6 (by kernel_rfl)
      refine op_pure (.bool false) ?_ ⟨_, rfl, Below.refl _ _, rfl⟩
      simp [execOp, Act.eval, go_sem, f38, h60i]
    | 8, ho =>
      obtain rfl := Option.some.inj ho
      refine flow_plain rfl rfl ?_
      have f36 : (aa.tmps.getD 36 undef) = .bool true := F.of 4 (by kernel_rfl)
      have f39 : (aa.tmps.getD 39 undef) = .bool false := F.of 7 (by kernel_rfl)
      refine op_pure (.bool false) ?_ ⟨_, rfl, Below.refl _ _, rfl⟩
      simp [execOp, Act.eval, go_sem, f36, f39]
    | 9, ho =>
      obtain rfl := Option.some.inj ho
      refine flow_plain rfl rfl ?_
      have f40 : (aa.tmps.getD 40 undef) = .bool false := F.of 8 (by kernel_rfl)
      exact op_move (.tmp 40) rfl ⟨_, rfl, Below.refl _ _, f40⟩
    | 10, ho =>
      obtain rfl := Option.some.inj ho
      have hg : aa.tmps.getD 41 undef = .bool false := F.of 9 (by kernel_rfl)
      exact flow_no rfl rfl 41 rfl hg ⟨_, rfl, Below.refl _ _, rfl⟩
    | 11, ho =>
      obtain rfl := Option.some.inj ho
      have hg : aa.tmps.getD 41 undef = .bool false := F.of 9 (by kernel_rfl)
      exact flow_no rfl rfl 41 rfl hg ⟨_, rfl, Below.refl _ _, rfl⟩
    | 12, ho =>
      obtain rfl := Option.some.inj ho
      have hg : aa.tmps.getD 41 undef = .bool false := F.of 9 (by kernel_rfl)
      exact flow_no rfl rfl 41 rfl hg ⟨_, rfl, Below.refl _ _, rfl⟩
    | 13, ho =>
      obtain rfl := Option.some.inj ho
      have hg : aa.tmps.getD 44 undef = undef := F.of 12 (by kernel_rfl)
      exact flow_un rfl rfl 44 rfl hg ⟨_, rfl, Below.refl _ _, rfl⟩
    | 14, ho =>
      obtain rfl := Option.some.inj ho
      have hg : aa.tmps.getD 44 undef = undef := F.of 12 (by kernel_rfl)
      exact flow_un rfl rfl 44 rfl hg ⟨_, rfl, Below.refl _ _, rfl⟩
    | 15, ho =>
      obtain rfl := Option.some.inj ho
      have hg : aa.tmps.getD 41 undef = .bool false := F.of 9 (by kernel_rfl)
      exact flow_no rfl rfl 41 rfl hg ⟨_, rfl, Below.refl _ _, rfl⟩
    | 16, ho =>
      obtain rfl := Option.some.inj ho
      refine flow_plain rfl rfl ?_
      have f41 : (aa.tmps.getD 41 undef) = .bool false := F.of 9 (by kernel_rfl)
      have f47 : (aa.tmps.getD 47 undef) = undef := F.of 15 (by kernel_rfl)
      refine op_pure (.bool false) ?_ ⟨_, rfl, Below.refl _ _, rfl⟩
      simp [execOp, Act.eval, go_sem, f41, f47]
    | 17, ho =>
      obtain rfl := Option.some.inj ho
      refine flow_plain rfl rfl ?_
      have f48 : (aa.tmps.getD 48 undef) = .bool false := F.of 16 (by kernel_rfl)
      exact op_move (.tmp 48) rfl ⟨_, rfl, Below.refl _ _, f48⟩
    | 18, ho =>
      obtain rfl := Option.some.inj ho
      have hg : aa.tmps.getD 49 undef = .bool false := F.of 17 (by kernel_rfl)
      exact flow_no rfl rfl 49 rfl hg ⟨_, rfl, Below.refl _ _, rfl⟩
    | 19, ho =>
      obtain rfl := Option.some.inj ho
      have hg : aa.tmps.getD 49 undef = .bool false := F.of 17 (by kernel_rfl)
      exact flow_no rfl rfl 49 rfl hg ⟨_, rfl, Below.refl _ _, rfl⟩
    | 20, ho =>
      obtain rfl := Option.some.inj ho
      have hg : aa.tmps.getD 49 undef = .bool false := F.of 17 (by kernel_rfl)
      exact flow_no rfl rfl 49 rfl hg ⟨_, rfl, Below.refl _ _, rfl⟩
    | 21, ho =>
      obtain rfl := Option.some.inj ho
      refine flow_plain rfl rfl ?_
      have f49 : (aa.tmps.getD 49 undef) = .bool false := F.of 17 (by kernel_rfl)
      have f52 : (aa.tmps.getD 52 undef) = undef := F.of 20 (by kernel_rfl)
      refine op_pure (.bool false) ?_ ⟨_, rfl, Below.refl _ _, rfl⟩
      simp [execOp, Act.eval, go_sem, f49, f52]
    | 22, ho =>
      obtain rfl := Option.some.inj ho
      refine flow_plain rfl rfl ?_
      have f2 : aa.tmps.getD 2 undef = .pointer (some ⟨w.heap.size, 0, none⟩) := F.out 2 (by kernel_rfl) _ rfl
      have f32 : (aa.tmps.getD 32 undef) = .agg #[.string t, .bool n, .bool true, .bool wh] := F.of 0 (by kernel_rfl)
      have hc := (blk (below_heap hlow HG.out)).1
      have hf := (blk (below_heap hlow HG.out)).2
      refine op_skip w' ?_ ⟨_, rfl, Below.refl _ _, trivial⟩
      simp [execOp, Act.eval, go_sem, f2, f32, hc, hf]
      rw [setCell_id (show w'.cell? ⟨w.heap.size, 0, none⟩ = some (.string t) from hc 0), setCell_id (show w'.cell? ⟨w.heap.size, 1, none⟩ = some (.bool n) from hc 1), setCell_id (show w'.cell? ⟨w.heap.size, 2, none⟩ = some (.bool true) from hc 2), setCell_id (show w'.cell? ⟨w.heap.size, 3, none⟩ = some (.bool wh) from hc 3)]
    | 23, ho =>
      obtain rfl := Option.some.inj ho
      refine flow_plain rfl rfl ?_
      have f53 : (aa.tmps.getD 53 undef) = .bool false := F.of 21 (by kernel_rfl)
      exact op_assign (.tmp 53) rfl ⟨_, rfl, Below.refl _ _, f53⟩
    | j + 24, ho => exact absurd (Array.getElem?_eq_some_iff.1 ho).1 (by simp)
  · intro a' w' htsz hdfs hsame hlow hgot
    have h3 : a'.tmps.getD 3 undef = .bool false := hgot 23 (by simp)
    have h2 : a'.tmps.getD 2 undef = .pointer (some ⟨w.heap.size, 0, none⟩) := by rw [Array.getD_eq_getD_getElem?, hsame 2 (by kernel_rfl)]; rfl
    have hbx := below_heap hlow HG.out
    have hB := Aside0.mk (below_step (HB0.out _) hlow)
    clear hgot hsame hlow
    go_wp2_with fail
    refine bodyPost_ret (v := .tuple #[.agg #[.string t, .bool n, .bool true, .bool wh], .bool false]) ?_ hdfs ⟨rfl, hB.out⟩
    have hc := (blk hbx).1
    rw [results_cell_tmp rfl, h2, h3]
    simp [asAddr, Result.andThen, loadVar, go_sem, hc]

/-- What each slot of the region holds. -/
def PaC (G : Nat) (pat : ByteArray) (n wh b : Bool) : Nat → Value → World → Prop
  | 0, v, w => v = .agg #[.string pat, .bool n, .bool false, .bool wh]
  | 1, v, w => v = .string pat
  | 2, v, w => v = .int .i64 pat.size
  | 3, v, w => v = .bool false
  | 4, v, w => v = .bool false
  | 5, v, w => v = undef
  | 6, v, w => v = undef
  | 7, v, w => v = undef
  | 8, v, w => v = .bool false
  | 9, v, w => v = .bool false
  | 10, v, w => v = undef
  | 11, v, w => v = undef
  | 12, v, w => v = undef
  | 13, v, w => v = undef
  | 14, v, w => v = undef
  | 15, v, w => v = undef
  | 16, v, w => v = .bool false
  | 17, v, w => v = .bool false
  | 18, v, w => v = undef
  | 19, v, w => v = undef
  | 20, v, w => v = undef
  | 21, v, w => v = .bool false
  | 22, v, w => True
  | 23, v, w => v = .bool false
  | _, _, _ => True
theorem PaC_st (G : Nat) (pat : ByteArray) (n wh b : Bool) : ∀ i v w w', PaC G pat n wh b i v w → Below w.heap.size w w' → PaC G pat n wh b i v w'
  | 0, v, w, w', h, hb => h
  | 1, v, w, w', h, hb => h
  | 2, v, w, w', h, hb => h
  | 3, v, w, w', h, hb => h
  | 4, v, w, w', h, hb => h
  | 5, v, w, w', h, hb => h
  | 6, v, w, w', h, hb => h
  | 7, v, w, w', h, hb => h
  | 8, v, w, w', h, hb => h
  | 9, v, w, w', h, hb => h
  | 10, v, w, w', h, hb => h
  | 11, v, w, w', h, hb => h
  | 12, v, w, w', h, hb => h
  | 13, v, w, w', h, hb => h
  | 14, v, w, w', h, hb => h
  | 15, v, w, w', h, hb => h
  | 16, v, w, w', h, hb => h
  | 17, v, w, w', h, hb => h
  | 18, v, w, w', h, hb => h
  | 19, v, w, w', h, hb => h
  | 20, v, w, w', h, hb => h
  | 21, v, w, w', h, hb => h
  | 22, v, w, w', h, hb => trivial
  | 23, v, w, w', h, hb => h
  | _ + 24, _, _, _, _, _ => trivial
set_option maxHeartbeats 4000000 in
set_option maxRecDepth 4000 in
theorem parse_C (s s1 t : ByteArray) (n wh b : Bool) (w : World) (h1 : ¬ 1 ≤ s1.size) (h60 : s1.size ≤ 60) (hsl : (s1.toList == [47]) = false)
    (HP : Aside0 (∀ W, Calls Tryd.prog 34 #[.string s, .string ⟨#[33]⟩] W fun e w' => e = .returned (.tuple #[.string s1, .bool n]) ∧ w' = W))
    (HS : Aside0 (∀ W, Calls Tryd.prog 35 #[.string s1, .string ⟨#[47]⟩] W fun e w' => e = .returned (.tuple #[.string t, .bool false]) ∧ w' = W))
    (HCN : Aside0 (∀ W, Calls Tryd.prog 36 #[.string s1, .string ⟨#[47]⟩] W fun e w' => e = .returned (.bool wh) ∧ w' = W))
    (HCA : Aside0 (∀ W, Calls Tryd.prog 37 #[.string s1, .string ⟨#[32, 10]⟩] W fun e w' => e = .returned (.bool b) ∧ Below W.heap.size W w')) :
    Calls Tryd.prog 28 #[.string s] w fun e w' => e = .returned (.tuple #[.agg #[.string s1, .bool n, .bool false, .bool wh], .bool false]) ∧ Below w.heap.size w w' := by
  have HG : Aside0 ((w.alloc (.cells #[.string s1, .bool n, .bool false, .bool wh] 59)).heap[w.heap.size]? = some (.cells #[.string s1, .bool n, .bool false, .bool wh] 59 (0, 0))) := ⟨heap_new rfl⟩
  have HB0 : Aside0 (∀ o, Below w.heap.size w (w.alloc o)) := ⟨fun o => (Below.refl _ _).alloc (Nat.le_refl _) o⟩
  have h1i : ¬ (1 : Int) ≤ s1.size := by omega
  have h60i : (s1.size : Int) ≤ 60 := by omega
  go_enter Tryd.func28, Tryd.ntmps28
  go_wp2_with (first
    | (go_at_call 34; refine (HP.out _).mono ?_; rintro e w' ⟨rfl, hw⟩; rw [hw]; clear hw)
    | (go_at_call 35; refine (HS.out _).mono ?_; rintro e w' ⟨rfl, hw⟩; rw [hw]; clear hw)
    | (go_at_call 36; refine (HCN.out _).mono ?_; rintro e w' ⟨rfl, hw⟩; rw [hw]; clear hw))
  refine wp_region_flowU (PaC w.heap.size s1 n wh b) (by kernel_rfl) (by kernel_rfl) (PaC_st _ _ _ _ _) ?_ ?_ ?_
  · intro i hi hn v w
    match i with
    | 0 => exact absurd (show (some 32 : Option Nat) = none from hn) (fun h => by cases h)
    | 1 => exact absurd (show (some 33 : Option Nat) = none from hn) (fun h => by cases h)
    | 2 => exact absurd (show (some 34 : Option Nat) = none from hn) (fun h => by cases h)
    | 3 => exact absurd (show (some 35 : Option Nat) = none from hn) (fun h => by cases h)
    | 4 => exact absurd (show (some 36 : Option Nat) = none from hn) (fun h => by cases h)
    | 5 => exact absurd (show (some 37 : Option Nat) = none from hn) (fun h => by cases h)
    | 6 => exact absurd (show (some 38 : Option Nat) = none from hn) (fun h => by cases h)
    | 7 => exact absurd (show (some 39 : Option Nat) = none from hn) (fun h => by cases h)
    | 8 => exact absurd (show (some 40 : Option Nat) = none from hn) (fun h => by cases h)
    | 9 => exact absurd (show (some 41 : Option Nat) = none from hn) (fun h => by cases h)
    | 10 => exact absurd (show (some 42 : Option Nat) = none from hn) (fun h => by cases h)
    | 11 => exact absurd (show (some 43 : Option Nat) = none from hn) (fun h => by cases h)
    | 12 => exact absurd (show (some 44 : Option Nat) = none from hn) (fun h => by cases h)
    | 13 => exact absurd (show (some 45 : Option Nat) = none from hn) (fun h => by cases h)
    | 14 => exact absurd (show (some 46 : Option Nat) = none from hn) (fun h => by cases h)
    | 15 => exact absurd (show (some 47 : Option Nat) = none from hn) (fun h => by cases h)
    | 16 => exact absurd (show (some 48 : Option Nat) = none from hn) (fun h => by cases h)
    | 17 => exact absurd (show (some 49 : Option Nat) = none from hn) (fun h => by cases h)
    | 18 => exact absurd (show (some 50 : Option Nat) = none from hn) (fun h => by cases h)
    | 19 => exact absurd (show (some 51 : Option Nat) = none from hn) (fun h => by cases h)
    | 20 => exact absurd (show (some 52 : Option Nat) = none from hn) (fun h => by cases h)
    | 21 => exact absurd (show (some 53 : Option Nat) = none from hn) (fun h => by cases h)
    | 22 => trivial
    | 23 => exact absurd (show (some 3 : Option Nat) = none from hn) (fun h => by cases h)
    | j + 24 => trivial
  · intro i o ho aa w' F
    have hlow := F.low
    match i, ho with
    | 0, ho =>
      obtain rfl := Option.some.inj ho
      refine flow_plain rfl rfl ?_
      have f2 : aa.tmps.getD 2 undef = .pointer (some ⟨w.heap.size, 0, none⟩) := F.out 2 (by kernel_rfl) _ rfl
      have hc := (blk (below_heap hlow HG.out)).1
      refine op_pure (.agg #[.string s1, .bool n, .bool false, .bool wh]) ?_ ⟨_, rfl, Below.refl _ _, rfl⟩
      simp [execOp, Act.eval, go_sem, f2, hc]
    | 1, ho =>
      obtain rfl := Option.some.inj ho
      refine flow_plain rfl rfl ?_
      have f4 : aa.tmps.getD 4 undef = .string s1 := F.out 4 (by kernel_rfl) _ rfl
      exact op_move (.tmp 4) rfl ⟨_, rfl, Below.refl _ _, f4⟩
    | 2, ho =>
      obtain rfl := Option.some.inj ho
      refine flow_plain rfl rfl ?_
      have f33 : (aa.tmps.getD 33 undef) = .string s1 := F.of 1 (by kernel_rfl)
      refine op_pure (.int .i64 s1.size) ?_ ⟨_, rfl, Below.refl _ _, rfl⟩
      simp [execOp, Act.eval, go_sem, f33]
    | 3, ho =>
      obtain rfl := Option.some.inj ho
      refine flow_plain rfl rfl ?_
      have f34 : (aa.tmps.getD 34 undef) = .int .i64 s1.size := F.of 2 (by kernel_rfl)
      refine op_pure (.bool false) ?_ ⟨_, rfl, Below.refl _ _, rfl⟩
      simp [execOp, Act.eval, go_sem, f34, h1i]
    | 4, ho =>
      obtain rfl := Option.some.inj ho
      refine flow_plain rfl rfl ?_
      have f35 : (aa.tmps.getD 35 undef) = .bool false := F.of 3 (by kernel_rfl)
      exact op_move (.tmp 35) rfl ⟨_, rfl, Below.refl _ _, f35⟩
    | 5, ho =>
      obtain rfl := Option.some.inj ho
      have hg : aa.tmps.getD 36 undef = .bool false := F.of 4 (by kernel_rfl)
      exact flow_no rfl rfl 36 rfl hg ⟨_, rfl, Below.refl _ _, rfl⟩
    | 6, ho =>
      obtain rfl := Option.some.inj ho
      have hg : aa.tmps.getD 36 undef = .bool false := F.of 4 (by kernel_rfl)
      exact flow_no rfl rfl 36 rfl hg ⟨_, rfl, Below.refl _ _, rfl⟩
    | 7, ho =>
      obtain rfl := Option.some.inj ho
      have hg : aa.tmps.getD 36 undef = .bool false := F.of 4 (by kernel_rfl)
      exact flow_no rfl rfl 36 rfl hg ⟨_, rfl, Below.refl _ _, rfl⟩
    | 8, ho =>
      obtain rfl := Option.some.inj ho
      refine flow_plain rfl rfl ?_
      have f36 : (aa.tmps.getD 36 undef) = .bool false := F.of 4 (by kernel_rfl)
      have f39 : (aa.tmps.getD 39 undef) = undef := F.of 7 (by kernel_rfl)
      refine op_pure (.bool false) ?_ ⟨_, rfl, Below.refl _ _, rfl⟩
      simp [execOp, Act.eval, go_sem, f36, f39]
    | 9, ho =>
      obtain rfl := Option.some.inj ho
      refine flow_plain rfl rfl ?_
      have f40 : (aa.tmps.getD 40 undef) = .bool false := F.of 8 (by kernel_rfl)
      exact op_move (.tmp 40) rfl ⟨_, rfl, Below.refl _ _, f40⟩
    | 10, ho =>
      obtain rfl := Option.some.inj ho
      have hg : aa.tmps.getD 41 undef = .bool false := F.of 9 (by kernel_rfl)
      exact flow_no rfl rfl 41 rfl hg ⟨_, rfl, Below.refl _ _, rfl⟩
    | 11, ho =>
      obtain rfl := Option.some.inj ho
      have hg : aa.tmps.getD 41 undef = .bool false := F.of 9 (by kernel_rfl)
      exact flow_no rfl rfl 41 rfl hg ⟨_, rfl, Below.refl _ _, rfl⟩
    | 12, ho =>
      obtain rfl := Option.some.inj ho
      have hg : aa.tmps.getD 41 undef = .bool false := F.of 9 (by kernel_rfl)
      exact flow_no rfl rfl 41 rfl hg ⟨_, rfl, Below.refl _ _, rfl⟩
    | 13, ho =>
      obtain rfl := Option.some.inj ho
      have hg : aa.tmps.getD 44 undef = undef := F.of 12 (by kernel_rfl)
      exact flow_un rfl rfl 44 rfl hg ⟨_, rfl, Below.refl _ _, rfl⟩
    | 14, ho =>
      obtain rfl := Option.some.inj ho
      have hg : aa.tmps.getD 44 undef = undef := F.of 12 (by kernel_rfl)
      exact flow_un rfl rfl 44 rfl hg ⟨_, rfl, Below.refl _ _, rfl⟩
    | 15, ho =>
      obtain rfl := Option.some.inj ho
      have hg : aa.tmps.getD 41 undef = .bool false := F.of 9 (by kernel_rfl)
      exact flow_no rfl rfl 41 rfl hg ⟨_, rfl, Below.refl _ _, rfl⟩
    | 16, ho =>
      obtain rfl := Option.some.inj ho
      refine flow_plain rfl rfl ?_
      have f41 : (aa.tmps.getD 41 undef) = .bool false := F.of 9 (by kernel_rfl)
      have f47 : (aa.tmps.getD 47 undef) = undef := F.of 15 (by kernel_rfl)
      refine op_pure (.bool false) ?_ ⟨_, rfl, Below.refl _ _, rfl⟩
      simp [execOp, Act.eval, go_sem, f41, f47]
    | 17, ho =>
      obtain rfl := Option.some.inj ho
      refine flow_plain rfl rfl ?_
      have f48 : (aa.tmps.getD 48 undef) = .bool false := F.of 16 (by kernel_rfl)
      exact op_move (.tmp 48) rfl ⟨_, rfl, Below.refl _ _, f48⟩
    | 18, ho =>
      obtain rfl := Option.some.inj ho
      have hg : aa.tmps.getD 49 undef = .bool false := F.of 17 (by kernel_rfl)
      exact flow_no rfl rfl 49 rfl hg ⟨_, rfl, Below.refl _ _, rfl⟩
    | 19, ho =>
      obtain rfl := Option.some.inj ho
      have hg : aa.tmps.getD 49 undef = .bool false := F.of 17 (by kernel_rfl)
      exact flow_no rfl rfl 49 rfl hg ⟨_, rfl, Below.refl _ _, rfl⟩
    | 20, ho =>
      obtain rfl := Option.some.inj ho
      have hg : aa.tmps.getD 49 undef = .bool false := F.of 17 (by kernel_rfl)
      exact flow_no rfl rfl 49 rfl hg ⟨_, rfl, Below.refl _ _, rfl⟩
    | 21, ho =>
      obtain rfl := Option.some.inj ho
      refine flow_plain rfl rfl ?_
      have f49 : (aa.tmps.getD 49 undef) = .bool false := F.of 17 (by kernel_rfl)
      have f52 : (aa.tmps.getD 52 undef) = undef := F.of 20 (by kernel_rfl)
      refine op_pure (.bool false) ?_ ⟨_, rfl, Below.refl _ _, rfl⟩
      simp [execOp, Act.eval, go_sem, f49, f52]
    | 22, ho =>
      obtain rfl := Option.some.inj ho
      refine flow_plain rfl rfl ?_
      have f2 : aa.tmps.getD 2 undef = .pointer (some ⟨w.heap.size, 0, none⟩) := F.out 2 (by kernel_rfl) _ rfl
      have f32 : (aa.tmps.getD 32 undef) = .agg #[.string s1, .bool n, .bool false, .bool wh] := F.of 0 (by kernel_rfl)
      have hc := (blk (below_heap hlow HG.out)).1
      have hf := (blk (below_heap hlow HG.out)).2
      refine op_skip w' ?_ ⟨_, rfl, Below.refl _ _, trivial⟩
      simp [execOp, Act.eval, go_sem, f2, f32, hc, hf]
      rw [setCell_id (show w'.cell? ⟨w.heap.size, 0, none⟩ = some (.string s1) from hc 0), setCell_id (show w'.cell? ⟨w.heap.size, 1, none⟩ = some (.bool n) from hc 1), setCell_id (show w'.cell? ⟨w.heap.size, 2, none⟩ = some (.bool false) from hc 2), setCell_id (show w'.cell? ⟨w.heap.size, 3, none⟩ = some (.bool wh) from hc 3)]
    | 23, ho =>
      obtain rfl := Option.some.inj ho
      refine flow_plain rfl rfl ?_
      have f53 : (aa.tmps.getD 53 undef) = .bool false := F.of 21 (by kernel_rfl)
      exact op_assign (.tmp 53) rfl ⟨_, rfl, Below.refl _ _, f53⟩
    | j + 24, ho => exact absurd (Array.getElem?_eq_some_iff.1 ho).1 (by simp)
  · intro a' w' htsz hdfs hsame hlow hgot
    have h3 : a'.tmps.getD 3 undef = .bool false := hgot 23 (by simp)
    have h2 : a'.tmps.getD 2 undef = .pointer (some ⟨w.heap.size, 0, none⟩) := by rw [Array.getD_eq_getD_getElem?, hsame 2 (by kernel_rfl)]; rfl
    have hbx := below_heap hlow HG.out
    have hB := Aside0.mk (below_step (HB0.out _) hlow)
    clear hgot hsame hlow
    go_wp2_with fail
    refine bodyPost_ret (v := .tuple #[.agg #[.string s1, .bool n, .bool false, .bool wh], .bool false]) ?_ hdfs ⟨rfl, hB.out⟩
    have hc := (blk hbx).1
    rw [results_cell_tmp rfl, h2, h3]
    simp [asAddr, Result.andThen, loadVar, go_sem, hc]

/-- What each slot of the region holds. -/
def PaD (G : Nat) (pat : ByteArray) (n wh b : Bool) : Nat → Value → World → Prop
  | 0, v, w => v = .agg #[.string pat, .bool n, .bool false, .bool wh]
  | 1, v, w => v = .string pat
  | 2, v, w => v = .int .i64 pat.size
  | 3, v, w => v = .bool true
  | 4, v, w => v = .bool true
  | 5, v, w => v = .string pat
  | 6, v, w => v = .int .i64 pat.size
  | 7, v, w => v = .bool true
  | 8, v, w => v = .bool true
  | 9, v, w => v = .bool true
  | 10, v, w => v = .pointer (some ⟨G, 2, none⟩)
  | 11, v, w => v = .bool false
  | 12, v, w => v = .bool false
  | 13, v, w => v = .string pat
  | 14, v, w => v = .bool false
  | 15, v, w => v = .bool false
  | 16, v, w => v = .bool false
  | 17, v, w => v = .bool false
  | 18, v, w => v = undef
  | 19, v, w => v = undef
  | 20, v, w => v = undef
  | 21, v, w => v = .bool false
  | 22, v, w => True
  | 23, v, w => v = .bool false
  | _, _, _ => True
theorem PaD_st (G : Nat) (pat : ByteArray) (n wh b : Bool) : ∀ i v w w', PaD G pat n wh b i v w → Below w.heap.size w w' → PaD G pat n wh b i v w'
  | 0, v, w, w', h, hb => h
  | 1, v, w, w', h, hb => h
  | 2, v, w, w', h, hb => h
  | 3, v, w, w', h, hb => h
  | 4, v, w, w', h, hb => h
  | 5, v, w, w', h, hb => h
  | 6, v, w, w', h, hb => h
  | 7, v, w, w', h, hb => h
  | 8, v, w, w', h, hb => h
  | 9, v, w, w', h, hb => h
  | 10, v, w, w', h, hb => h
  | 11, v, w, w', h, hb => h
  | 12, v, w, w', h, hb => h
  | 13, v, w, w', h, hb => h
  | 14, v, w, w', h, hb => h
  | 15, v, w, w', h, hb => h
  | 16, v, w, w', h, hb => h
  | 17, v, w, w', h, hb => h
  | 18, v, w, w', h, hb => h
  | 19, v, w, w', h, hb => h
  | 20, v, w, w', h, hb => h
  | 21, v, w, w', h, hb => h
  | 22, v, w, w', h, hb => trivial
  | 23, v, w, w', h, hb => h
  | _ + 24, _, _, _, _, _ => trivial
set_option maxHeartbeats 4000000 in
set_option maxRecDepth 4000 in
theorem parse_D (s s1 t : ByteArray) (n wh b : Bool) (w : World) (hne : t.toList.isEmpty = true) (h1 : 1 ≤ s1.size) (h60 : s1.size ≤ 60) (hsl : (s1.toList == [47]) = true)
    (HP : Aside0 (∀ W, Calls Tryd.prog 34 #[.string s, .string ⟨#[33]⟩] W fun e w' => e = .returned (.tuple #[.string s1, .bool n]) ∧ w' = W))
    (HS : Aside0 (∀ W, Calls Tryd.prog 35 #[.string s1, .string ⟨#[47]⟩] W fun e w' => e = .returned (.tuple #[.string t, .bool true]) ∧ w' = W))
    (HCN : Aside0 (∀ W, Calls Tryd.prog 36 #[.string s1, .string ⟨#[47]⟩] W fun e w' => e = .returned (.bool wh) ∧ w' = W))
    (HCA : Aside0 (∀ W, Calls Tryd.prog 37 #[.string s1, .string ⟨#[32, 10]⟩] W fun e w' => e = .returned (.bool b) ∧ Below W.heap.size W w')) :
    Calls Tryd.prog 28 #[.string s] w fun e w' => e = .returned (.tuple #[.agg #[.string s1, .bool n, .bool false, .bool wh], .bool false]) ∧ Below w.heap.size w w' := by
  have HG : Aside0 ((w.alloc (.cells #[.string s1, .bool n, .bool false, .bool wh] 59)).heap[w.heap.size]? = some (.cells #[.string s1, .bool n, .bool false, .bool wh] 59 (0, 0))) := ⟨heap_new rfl⟩
  have HB0 : Aside0 (∀ o, Below w.heap.size w (w.alloc o)) := ⟨fun o => (Below.refl _ _).alloc (Nat.le_refl _) o⟩
  have h1i : (1 : Int) ≤ s1.size := by omega
  have h60i : (s1.size : Int) ≤ 60 := by omega
  go_enter Tryd.func28, Tryd.ntmps28
  go_wp2_with (first
    | (go_at_call 34; refine (HP.out _).mono ?_; rintro e w' ⟨rfl, hw⟩; rw [hw]; clear hw)
    | (go_at_call 35; refine (HS.out _).mono ?_; rintro e w' ⟨rfl, hw⟩; rw [hw]; clear hw)
    | (go_at_call 36; refine (HCN.out _).mono ?_; rintro e w' ⟨rfl, hw⟩; rw [hw]; clear hw))
  refine wp_region_flowU (PaD w.heap.size s1 n wh b) (by kernel_rfl) (by kernel_rfl) (PaD_st _ _ _ _ _) ?_ ?_ ?_
  · intro i hi hn v w
    match i with
    | 0 => exact absurd (show (some 32 : Option Nat) = none from hn) (fun h => by cases h)
    | 1 => exact absurd (show (some 33 : Option Nat) = none from hn) (fun h => by cases h)
    | 2 => exact absurd (show (some 34 : Option Nat) = none from hn) (fun h => by cases h)
    | 3 => exact absurd (show (some 35 : Option Nat) = none from hn) (fun h => by cases h)
    | 4 => exact absurd (show (some 36 : Option Nat) = none from hn) (fun h => by cases h)
    | 5 => exact absurd (show (some 37 : Option Nat) = none from hn) (fun h => by cases h)
    | 6 => exact absurd (show (some 38 : Option Nat) = none from hn) (fun h => by cases h)
    | 7 => exact absurd (show (some 39 : Option Nat) = none from hn) (fun h => by cases h)
    | 8 => exact absurd (show (some 40 : Option Nat) = none from hn) (fun h => by cases h)
    | 9 => exact absurd (show (some 41 : Option Nat) = none from hn) (fun h => by cases h)
    | 10 => exact absurd (show (some 42 : Option Nat) = none from hn) (fun h => by cases h)
    | 11 => exact absurd (show (some 43 : Option Nat) = none from hn) (fun h => by cases h)
    | 12 => exact absurd (show (some 44 : Option Nat) = none from hn) (fun h => by cases h)
    | 13 => exact absurd (show (some 45 : Option Nat) = none from hn) (fun h => by cases h)
    | 14 => exact absurd (show (some 46 : Option Nat) = none from hn) (fun h => by cases h)
    | 15 => exact absurd (show (some 47 : Option Nat) = none from hn) (fun h => by cases h)
    | 16 => exact absurd (show (some 48 : Option Nat) = none from hn) (fun h => by cases h)
    | 17 => exact absurd (show (some 49 : Option Nat) = none from hn) (fun h => by cases h)
    | 18 => exact absurd (show (some 50 : Option Nat) = none from hn) (fun h => by cases h)
    | 19 => exact absurd (show (some 51 : Option Nat) = none from hn) (fun h => by cases h)
    | 20 => exact absurd (show (some 52 : Option Nat) = none from hn) (fun h => by cases h)
    | 21 => exact absurd (show (some 53 : Option Nat) = none from hn) (fun h => by cases h)
    | 22 => trivial
    | 23 => exact absurd (show (some 3 : Option Nat) = none from hn) (fun h => by cases h)
    | j + 24 => trivial
  · intro i o ho aa w' F
    have hlow := F.low
    match i, ho with
    | 0, ho =>
      obtain rfl := Option.some.inj ho
      refine flow_plain rfl rfl ?_
      have f2 : aa.tmps.getD 2 undef = .pointer (some ⟨w.heap.size, 0, none⟩) := F.out 2 (by kernel_rfl) _ rfl
      have hc := (blk (below_heap hlow HG.out)).1
      refine op_pure (.agg #[.string s1, .bool n, .bool false, .bool wh]) ?_ ⟨_, rfl, Below.refl _ _, rfl⟩
      simp [execOp, Act.eval, go_sem, f2, hc]
    | 1, ho =>
      obtain rfl := Option.some.inj ho
      refine flow_plain rfl rfl ?_
      have f4 : aa.tmps.getD 4 undef = .string s1 := F.out 4 (by kernel_rfl) _ rfl
      exact op_move (.tmp 4) rfl ⟨_, rfl, Below.refl _ _, f4⟩
    | 2, ho =>
      obtain rfl := Option.some.inj ho
      refine flow_plain rfl rfl ?_
      have f33 : (aa.tmps.getD 33 undef) = .string s1 := F.of 1 (by kernel_rfl)
      refine op_pure (.int .i64 s1.size) ?_ ⟨_, rfl, Below.refl _ _, rfl⟩
      simp [execOp, Act.eval, go_sem, f33]
    | 3, ho =>
      obtain rfl := Option.some.inj ho
      refine flow_plain rfl rfl ?_
      have f34 : (aa.tmps.getD 34 undef) = .int .i64 s1.size := F.of 2 (by kernel_rfl)
      refine op_pure (.bool true) ?_ ⟨_, rfl, Below.refl _ _, rfl⟩
      simp [execOp, Act.eval, go_sem, f34, h1i]
    | 4, ho =>
      obtain rfl := Option.some.inj ho
      refine flow_plain rfl rfl ?_
      have f35 : (aa.tmps.getD 35 undef) = .bool true := F.of 3 (by kernel_rfl)
      exact op_move (.tmp 35) rfl ⟨_, rfl, Below.refl _ _, f35⟩
    | 5, ho =>
      obtain rfl := Option.some.inj ho
      have hg : aa.tmps.getD 36 undef = .bool true := F.of 4 (by kernel_rfl)
      refine flow_yes rfl rfl 36 rfl hg ?_
      have f4 : aa.tmps.getD 4 undef = .string s1 := F.out 4 (by kernel_rfl) _ rfl
      exact op_move (.tmp 4) rfl ⟨_, rfl, Below.refl _ _, f4⟩
    | 6, ho =>
      obtain rfl := Option.some.inj ho
      have hg : aa.tmps.getD 36 undef = .bool true := F.of 4 (by kernel_rfl)
      refine flow_yes rfl rfl 36 rfl hg ?_
      have f37 : (aa.tmps.getD 37 undef) = .string s1 := F.of 5 (by kernel_rfl)
      refine op_pure (.int .i64 s1.size) ?_ ⟨_, rfl, Below.refl _ _, rfl⟩
      simp [execOp, Act.eval, go_sem, f37]
    | 7, ho =>
      obtain rfl := Option.some.inj ho
      have hg : aa.tmps.getD 36 undef = .bool true := F.of 4 (by kernel_rfl)
      refine flow_yes rfl rfl 36 rfl hg ?_
      have f38 : (aa.tmps.getD 38 undef) = .int .i64 s1.size := F.of 6 (by kernel_rfl)
      refine op_pure (.bool true) ?_ ⟨_, rfl, Below.refl _ _, rfl⟩
      simp [execOp, Act.eval, go_sem, f38, h60i]
    | 8, ho =>
      obtain rfl := Option.some.inj ho
      refine flow_plain rfl rfl ?_
      have f36 : (aa.tmps.getD 36 undef) = .bool true := F.of 4 (by kernel_rfl)
      have f39 : (aa.tmps.getD 39 undef) = .bool true := F.of 7 (by kernel_rfl)
      refine op_pure (.bool true) ?_ ⟨_, rfl, Below.refl _ _, rfl⟩
      simp [execOp, Act.eval, go_sem, f36, f39]
    | 9, ho =>
      obtain rfl := Option.some.inj ho
      refine flow_plain rfl rfl ?_
      have f40 : (aa.tmps.getD 40 undef) = .bool true := F.of 8 (by kernel_rfl)
      exact op_move (.tmp 40) rfl ⟨_, rfl, Below.refl _ _, f40⟩
    | 10, ho =>
      obtain rfl := Option.some.inj ho
      have hg : aa.tmps.getD 41 undef = .bool true := F.of 9 (by kernel_rfl)
      refine flow_yes rfl rfl 41 rfl hg ?_
      have f2 : aa.tmps.getD 2 undef = .pointer (some ⟨w.heap.size, 0, none⟩) := F.out 2 (by kernel_rfl) _ rfl
      refine op_pure (.pointer (some ⟨w.heap.size, 2, none⟩)) ?_ ⟨_, rfl, Below.refl _ _, rfl⟩
      simp [execOp, Act.eval, go_sem, f2]
    | 11, ho =>
      obtain rfl := Option.some.inj ho
      have hg : aa.tmps.getD 41 undef = .bool true := F.of 9 (by kernel_rfl)
      refine flow_yes rfl rfl 41 rfl hg ?_
      have f42 : (aa.tmps.getD 42 undef) = .pointer (some ⟨w.heap.size, 2, none⟩) := F.of 10 (by kernel_rfl)
      have hc := (blk (below_heap hlow HG.out)).1
      refine op_pure (.bool false) ?_ ⟨_, rfl, Below.refl _ _, rfl⟩
      simp [execOp, Act.eval, go_sem, f42, hc]
    | 12, ho =>
      obtain rfl := Option.some.inj ho
      have hg : aa.tmps.getD 41 undef = .bool true := F.of 9 (by kernel_rfl)
      refine flow_yes rfl rfl 41 rfl hg ?_
      have f43 : (aa.tmps.getD 43 undef) = .bool false := F.of 11 (by kernel_rfl)
      exact op_move (.tmp 43) rfl ⟨_, rfl, Below.refl _ _, f43⟩
    | 13, ho =>
      obtain rfl := Option.some.inj ho
      have hg : aa.tmps.getD 44 undef = .bool false := F.of 12 (by kernel_rfl)
      refine flow_yes rfl rfl 44 rfl hg ?_
      have f4 : aa.tmps.getD 4 undef = .string s1 := F.out 4 (by kernel_rfl) _ rfl
      exact op_move (.tmp 4) rfl ⟨_, rfl, Below.refl _ _, f4⟩
    | 14, ho =>
      obtain rfl := Option.some.inj ho
      have hg : aa.tmps.getD 44 undef = .bool false := F.of 12 (by kernel_rfl)
      refine flow_yes rfl rfl 44 rfl hg ?_
      have f45 : (aa.tmps.getD 45 undef) = .string s1 := F.of 13 (by kernel_rfl)
      refine op_pure (.bool false) ?_ ⟨_, rfl, Below.refl _ _, rfl⟩
      simp [execOp, Act.eval, go_sem, f45, hsl]
    | 15, ho =>
      obtain rfl := Option.some.inj ho
      have hg : aa.tmps.getD 41 undef = .bool true := F.of 9 (by kernel_rfl)
      refine flow_yes rfl rfl 41 rfl hg ?_
      have f44 : (aa.tmps.getD 44 undef) = .bool false := F.of 12 (by kernel_rfl)
      have f46 : (aa.tmps.getD 46 undef) = .bool false := F.of 14 (by kernel_rfl)
      refine op_pure (.bool false) ?_ ⟨_, rfl, Below.refl _ _, rfl⟩
      simp [execOp, Act.eval, go_sem, f44, f46]
    | 16, ho =>
      obtain rfl := Option.some.inj ho
      refine flow_plain rfl rfl ?_
      have f41 : (aa.tmps.getD 41 undef) = .bool true := F.of 9 (by kernel_rfl)
      have f47 : (aa.tmps.getD 47 undef) = .bool false := F.of 15 (by kernel_rfl)
      refine op_pure (.bool false) ?_ ⟨_, rfl, Below.refl _ _, rfl⟩
      simp [execOp, Act.eval, go_sem, f41, f47]
    | 17, ho =>
      obtain rfl := Option.some.inj ho
      refine flow_plain rfl rfl ?_
      have f48 : (aa.tmps.getD 48 undef) = .bool false := F.of 16 (by kernel_rfl)
      exact op_move (.tmp 48) rfl ⟨_, rfl, Below.refl _ _, f48⟩
    | 18, ho =>
      obtain rfl := Option.some.inj ho
      have hg : aa.tmps.getD 49 undef = .bool false := F.of 17 (by kernel_rfl)
      exact flow_no rfl rfl 49 rfl hg ⟨_, rfl, Below.refl _ _, rfl⟩
    | 19, ho =>
      obtain rfl := Option.some.inj ho
      have hg : aa.tmps.getD 49 undef = .bool false := F.of 17 (by kernel_rfl)
      exact flow_no rfl rfl 49 rfl hg ⟨_, rfl, Below.refl _ _, rfl⟩
    | 20, ho =>
      obtain rfl := Option.some.inj ho
      have hg : aa.tmps.getD 49 undef = .bool false := F.of 17 (by kernel_rfl)
      exact flow_no rfl rfl 49 rfl hg ⟨_, rfl, Below.refl _ _, rfl⟩
    | 21, ho =>
      obtain rfl := Option.some.inj ho
      refine flow_plain rfl rfl ?_
      have f49 : (aa.tmps.getD 49 undef) = .bool false := F.of 17 (by kernel_rfl)
      have f52 : (aa.tmps.getD 52 undef) = undef := F.of 20 (by kernel_rfl)
      refine op_pure (.bool false) ?_ ⟨_, rfl, Below.refl _ _, rfl⟩
      simp [execOp, Act.eval, go_sem, f49, f52]
    | 22, ho =>
      obtain rfl := Option.some.inj ho
      refine flow_plain rfl rfl ?_
      have f2 : aa.tmps.getD 2 undef = .pointer (some ⟨w.heap.size, 0, none⟩) := F.out 2 (by kernel_rfl) _ rfl
      have f32 : (aa.tmps.getD 32 undef) = .agg #[.string s1, .bool n, .bool false, .bool wh] := F.of 0 (by kernel_rfl)
      have hc := (blk (below_heap hlow HG.out)).1
      have hf := (blk (below_heap hlow HG.out)).2
      refine op_skip w' ?_ ⟨_, rfl, Below.refl _ _, trivial⟩
      simp [execOp, Act.eval, go_sem, f2, f32, hc, hf]
      rw [setCell_id (show w'.cell? ⟨w.heap.size, 0, none⟩ = some (.string s1) from hc 0), setCell_id (show w'.cell? ⟨w.heap.size, 1, none⟩ = some (.bool n) from hc 1), setCell_id (show w'.cell? ⟨w.heap.size, 2, none⟩ = some (.bool false) from hc 2), setCell_id (show w'.cell? ⟨w.heap.size, 3, none⟩ = some (.bool wh) from hc 3)]
    | 23, ho =>
      obtain rfl := Option.some.inj ho
      refine flow_plain rfl rfl ?_
      have f53 : (aa.tmps.getD 53 undef) = .bool false := F.of 21 (by kernel_rfl)
      exact op_assign (.tmp 53) rfl ⟨_, rfl, Below.refl _ _, f53⟩
    | j + 24, ho => exact absurd (Array.getElem?_eq_some_iff.1 ho).1 (by simp)
  · intro a' w' htsz hdfs hsame hlow hgot
    have h3 : a'.tmps.getD 3 undef = .bool false := hgot 23 (by simp)
    have h2 : a'.tmps.getD 2 undef = .pointer (some ⟨w.heap.size, 0, none⟩) := by rw [Array.getD_eq_getD_getElem?, hsame 2 (by kernel_rfl)]; rfl
    have hbx := below_heap hlow HG.out
    have hB := Aside0.mk (below_step (HB0.out _) hlow)
    clear hgot hsame hlow
    go_wp2_with fail
    refine bodyPost_ret (v := .tuple #[.agg #[.string s1, .bool n, .bool false, .bool wh], .bool false]) ?_ hdfs ⟨rfl, hB.out⟩
    have hc := (blk hbx).1
    rw [results_cell_tmp rfl, h2, h3]
    simp [asAddr, Result.andThen, loadVar, go_sem, hc]

/-- What each slot of the region holds. -/
def PaE (G : Nat) (pat : ByteArray) (n wh b : Bool) : Nat → Value → World → Prop
  | 0, v, w => v = .agg #[.string pat, .bool n, .bool false, .bool wh]
  | 1, v, w => v = .string pat
  | 2, v, w => v = .int .i64 pat.size
  | 3, v, w => v = .bool true
  | 4, v, w => v = .bool true
  | 5, v, w => v = .string pat
  | 6, v, w => v = .int .i64 pat.size
  | 7, v, w => v = .bool true
  | 8, v, w => v = .bool true
  | 9, v, w => v = .bool true
  | 10, v, w => v = .pointer (some ⟨G, 2, none⟩)
  | 11, v, w => v = .bool false
  | 12, v, w => v = .bool false
  | 13, v, w => v = .string pat
  | 14, v, w => v = .bool true
  | 15, v, w => v = .bool true
  | 16, v, w => v = .bool true
  | 17, v, w => v = .bool true
  | 18, v, w => v = .string pat
  | 19, v, w => v = .bool b
  | 20, v, w => v = .bool (!b)
  | 21, v, w => v = .bool (!b)
  | 22, v, w => True
  | 23, v, w => v = .bool (!b)
  | _, _, _ => True
theorem PaE_st (G : Nat) (pat : ByteArray) (n wh b : Bool) : ∀ i v w w', PaE G pat n wh b i v w → Below w.heap.size w w' → PaE G pat n wh b i v w'
  | 0, v, w, w', h, hb => h
  | 1, v, w, w', h, hb => h
  | 2, v, w, w', h, hb => h
  | 3, v, w, w', h, hb => h
  | 4, v, w, w', h, hb => h
  | 5, v, w, w', h, hb => h
  | 6, v, w, w', h, hb => h
  | 7, v, w, w', h, hb => h
  | 8, v, w, w', h, hb => h
  | 9, v, w, w', h, hb => h
  | 10, v, w, w', h, hb => h
  | 11, v, w, w', h, hb => h
  | 12, v, w, w', h, hb => h
  | 13, v, w, w', h, hb => h
  | 14, v, w, w', h, hb => h
  | 15, v, w, w', h, hb => h
  | 16, v, w, w', h, hb => h
  | 17, v, w, w', h, hb => h
  | 18, v, w, w', h, hb => h
  | 19, v, w, w', h, hb => h
  | 20, v, w, w', h, hb => h
  | 21, v, w, w', h, hb => h
  | 22, v, w, w', h, hb => trivial
  | 23, v, w, w', h, hb => h
  | _ + 24, _, _, _, _, _ => trivial
set_option maxHeartbeats 4000000 in
set_option maxRecDepth 4000 in
theorem parse_E (s s1 t : ByteArray) (n wh b : Bool) (w : World) (h1 : 1 ≤ s1.size) (h60 : s1.size ≤ 60) (hsl : (s1.toList == [47]) = false)
    (HP : Aside0 (∀ W, Calls Tryd.prog 34 #[.string s, .string ⟨#[33]⟩] W fun e w' => e = .returned (.tuple #[.string s1, .bool n]) ∧ w' = W))
    (HS : Aside0 (∀ W, Calls Tryd.prog 35 #[.string s1, .string ⟨#[47]⟩] W fun e w' => e = .returned (.tuple #[.string t, .bool false]) ∧ w' = W))
    (HCN : Aside0 (∀ W, Calls Tryd.prog 36 #[.string s1, .string ⟨#[47]⟩] W fun e w' => e = .returned (.bool wh) ∧ w' = W))
    (HCA : Aside0 (∀ W, Calls Tryd.prog 37 #[.string s1, .string ⟨#[32, 10]⟩] W fun e w' => e = .returned (.bool b) ∧ Below W.heap.size W w')) :
    Calls Tryd.prog 28 #[.string s] w fun e w' => e = .returned (.tuple #[.agg #[.string s1, .bool n, .bool false, .bool wh], .bool (!b)]) ∧ Below w.heap.size w w' := by
  have HG : Aside0 ((w.alloc (.cells #[.string s1, .bool n, .bool false, .bool wh] 59)).heap[w.heap.size]? = some (.cells #[.string s1, .bool n, .bool false, .bool wh] 59 (0, 0))) := ⟨heap_new rfl⟩
  have HB0 : Aside0 (∀ o, Below w.heap.size w (w.alloc o)) := ⟨fun o => (Below.refl _ _).alloc (Nat.le_refl _) o⟩
  have h1i : (1 : Int) ≤ s1.size := by omega
  have h60i : (s1.size : Int) ≤ 60 := by omega
  go_enter Tryd.func28, Tryd.ntmps28
  go_wp2_with (first
    | (go_at_call 34; refine (HP.out _).mono ?_; rintro e w' ⟨rfl, hw⟩; rw [hw]; clear hw)
    | (go_at_call 35; refine (HS.out _).mono ?_; rintro e w' ⟨rfl, hw⟩; rw [hw]; clear hw)
    | (go_at_call 36; refine (HCN.out _).mono ?_; rintro e w' ⟨rfl, hw⟩; rw [hw]; clear hw))
  refine wp_region_flowU (PaE w.heap.size s1 n wh b) (by kernel_rfl) (by kernel_rfl) (PaE_st _ _ _ _ _) ?_ ?_ ?_
  · intro i hi hn v w
    match i with
    | 0 => exact absurd (show (some 32 : Option Nat) = none from hn) (fun h => by cases h)
    | 1 => exact absurd (show (some 33 : Option Nat) = none from hn) (fun h => by cases h)
    | 2 => exact absurd (show (some 34 : Option Nat) = none from hn) (fun h => by cases h)
    | 3 => exact absurd (show (some 35 : Option Nat) = none from hn) (fun h => by cases h)
    | 4 => exact absurd (show (some 36 : Option Nat) = none from hn) (fun h => by cases h)
    | 5 => exact absurd (show (some 37 : Option Nat) = none from hn) (fun h => by cases h)
    | 6 => exact absurd (show (some 38 : Option Nat) = none from hn) (fun h => by cases h)
    | 7 => exact absurd (show (some 39 : Option Nat) = none from hn) (fun h => by cases h)
    | 8 => exact absurd (show (some 40 : Option Nat) = none from hn) (fun h => by cases h)
    | 9 => exact absurd (show (some 41 : Option Nat) = none from hn) (fun h => by cases h)
    | 10 => exact absurd (show (some 42 : Option Nat) = none from hn) (fun h => by cases h)
    | 11 => exact absurd (show (some 43 : Option Nat) = none from hn) (fun h => by cases h)
    | 12 => exact absurd (show (some 44 : Option Nat) = none from hn) (fun h => by cases h)
    | 13 => exact absurd (show (some 45 : Option Nat) = none from hn) (fun h => by cases h)
    | 14 => exact absurd (show (some 46 : Option Nat) = none from hn) (fun h => by cases h)
    | 15 => exact absurd (show (some 47 : Option Nat) = none from hn) (fun h => by cases h)
    | 16 => exact absurd (show (some 48 : Option Nat) = none from hn) (fun h => by cases h)
    | 17 => exact absurd (show (some 49 : Option Nat) = none from hn) (fun h => by cases h)
    | 18 => exact absurd (show (some 50 : Option Nat) = none from hn) (fun h => by cases h)
    | 19 => exact absurd (show (some 51 : Option Nat) = none from hn) (fun h => by cases h)
    | 20 => exact absurd (show (some 52 : Option Nat) = none from hn) (fun h => by cases h)
    | 21 => exact absurd (show (some 53 : Option Nat) = none from hn) (fun h => by cases h)
    | 22 => trivial
    | 23 => exact absurd (show (some 3 : Option Nat) = none from hn) (fun h => by cases h)
    | j + 24 => trivial
  · intro i o ho aa w' F
    have hlow := F.low
    match i, ho with
    | 0, ho =>
      obtain rfl := Option.some.inj ho
      refine flow_plain rfl rfl ?_
      have f2 : aa.tmps.getD 2 undef = .pointer (some ⟨w.heap.size, 0, none⟩) := F.out 2 (by kernel_rfl) _ rfl
      have hc := (blk (below_heap hlow HG.out)).1
      refine op_pure (.agg #[.string s1, .bool n, .bool false, .bool wh]) ?_ ⟨_, rfl, Below.refl _ _, rfl⟩
      simp [execOp, Act.eval, go_sem, f2, hc]
    | 1, ho =>
      obtain rfl := Option.some.inj ho
      refine flow_plain rfl rfl ?_
      have f4 : aa.tmps.getD 4 undef = .string s1 := F.out 4 (by kernel_rfl) _ rfl
      exact op_move (.tmp 4) rfl ⟨_, rfl, Below.refl _ _, f4⟩
    | 2, ho =>
      obtain rfl := Option.some.inj ho
      refine flow_plain rfl rfl ?_
      have f33 : (aa.tmps.getD 33 undef) = .string s1 := F.of 1 (by kernel_rfl)
      refine op_pure (.int .i64 s1.size) ?_ ⟨_, rfl, Below.refl _ _, rfl⟩
      simp [execOp, Act.eval, go_sem, f33]
    | 3, ho =>
      obtain rfl := Option.some.inj ho
      refine flow_plain rfl rfl ?_
      have f34 : (aa.tmps.getD 34 undef) = .int .i64 s1.size := F.of 2 (by kernel_rfl)
      refine op_pure (.bool true) ?_ ⟨_, rfl, Below.refl _ _, rfl⟩
      simp [execOp, Act.eval, go_sem, f34, h1i]
    | 4, ho =>
      obtain rfl := Option.some.inj ho
      refine flow_plain rfl rfl ?_
      have f35 : (aa.tmps.getD 35 undef) = .bool true := F.of 3 (by kernel_rfl)
      exact op_move (.tmp 35) rfl ⟨_, rfl, Below.refl _ _, f35⟩
    | 5, ho =>
      obtain rfl := Option.some.inj ho
      have hg : aa.tmps.getD 36 undef = .bool true := F.of 4 (by kernel_rfl)
      refine flow_yes rfl rfl 36 rfl hg ?_
      have f4 : aa.tmps.getD 4 undef = .string s1 := F.out 4 (by kernel_rfl) _ rfl
      exact op_move (.tmp 4) rfl ⟨_, rfl, Below.refl _ _, f4⟩
    | 6, ho =>
      obtain rfl := Option.some.inj ho
      have hg : aa.tmps.getD 36 undef = .bool true := F.of 4 (by kernel_rfl)
      refine flow_yes rfl rfl 36 rfl hg ?_
      have f37 : (aa.tmps.getD 37 undef) = .string s1 := F.of 5 (by kernel_rfl)
      refine op_pure (.int .i64 s1.size) ?_ ⟨_, rfl, Below.refl _ _, rfl⟩
      simp [execOp, Act.eval, go_sem, f37]
    | 7, ho =>
      obtain rfl := Option.some.inj ho
      have hg : aa.tmps.getD 36 undef = .bool true := F.of 4 (by kernel_rfl)
      refine flow_yes rfl rfl 36 rfl hg ?_
      have f38 : (aa.tmps.getD 38 undef) = .int .i64 s1.size := F.of 6 (by kernel_rfl)
      refine op_pure (.bool true) ?_ ⟨_, rfl, Below.refl _ _, rfl⟩
      simp [execOp, Act.eval, go_sem, f38, h60i]
    | 8, ho =>
      obtain rfl := Option.some.inj ho
      refine flow_plain rfl rfl ?_
      have f36 : (aa.tmps.getD 36 undef) = .bool true := F.of 4 (by kernel_rfl)
      have f39 : (aa.tmps.getD 39 undef) = .bool true := F.of 7 (by kernel_rfl)
      refine op_pure (.bool true) ?_ ⟨_, rfl, Below.refl _ _, rfl⟩
      simp [execOp, Act.eval, go_sem, f36, f39]
    | 9, ho =>
      obtain rfl := Option.some.inj ho
      refine flow_plain rfl rfl ?_
      have f40 : (aa.tmps.getD 40 undef) = .bool true := F.of 8 (by kernel_rfl)
      exact op_move (.tmp 40) rfl ⟨_, rfl, Below.refl _ _, f40⟩
    | 10, ho =>
      obtain rfl := Option.some.inj ho
      have hg : aa.tmps.getD 41 undef = .bool true := F.of 9 (by kernel_rfl)
      refine flow_yes rfl rfl 41 rfl hg ?_
      have f2 : aa.tmps.getD 2 undef = .pointer (some ⟨w.heap.size, 0, none⟩) := F.out 2 (by kernel_rfl) _ rfl
      refine op_pure (.pointer (some ⟨w.heap.size, 2, none⟩)) ?_ ⟨_, rfl, Below.refl _ _, rfl⟩
      simp [execOp, Act.eval, go_sem, f2]
    | 11, ho =>
      obtain rfl := Option.some.inj ho
      have hg : aa.tmps.getD 41 undef = .bool true := F.of 9 (by kernel_rfl)
      refine flow_yes rfl rfl 41 rfl hg ?_
      have f42 : (aa.tmps.getD 42 undef) = .pointer (some ⟨w.heap.size, 2, none⟩) := F.of 10 (by kernel_rfl)
      have hc := (blk (below_heap hlow HG.out)).1
      refine op_pure (.bool false) ?_ ⟨_, rfl, Below.refl _ _, rfl⟩
      simp [execOp, Act.eval, go_sem, f42, hc]
    | 12, ho =>
      obtain rfl := Option.some.inj ho
      have hg : aa.tmps.getD 41 undef = .bool true := F.of 9 (by kernel_rfl)
      refine flow_yes rfl rfl 41 rfl hg ?_
      have f43 : (aa.tmps.getD 43 undef) = .bool false := F.of 11 (by kernel_rfl)
      exact op_move (.tmp 43) rfl ⟨_, rfl, Below.refl _ _, f43⟩
    | 13, ho =>
      obtain rfl := Option.some.inj ho
      have hg : aa.tmps.getD 44 undef = .bool false := F.of 12 (by kernel_rfl)
      refine flow_yes rfl rfl 44 rfl hg ?_
      have f4 : aa.tmps.getD 4 undef = .string s1 := F.out 4 (by kernel_rfl) _ rfl
      exact op_move (.tmp 4) rfl ⟨_, rfl, Below.refl _ _, f4⟩
    | 14, ho =>
      obtain rfl := Option.some.inj ho
      have hg : aa.tmps.getD 44 undef = .bool false := F.of 12 (by kernel_rfl)
      refine flow_yes rfl rfl 44 rfl hg ?_
      have f45 : (aa.tmps.getD 45 undef) = .string s1 := F.of 13 (by kernel_rfl)
      refine op_pure (.bool true) ?_ ⟨_, rfl, Below.refl _ _, rfl⟩
      simp [execOp, Act.eval, go_sem, f45, hsl]
    | 15, ho =>
      obtain rfl := Option.some.inj ho
      have hg : aa.tmps.getD 41 undef = .bool true := F.of 9 (by kernel_rfl)
      refine flow_yes rfl rfl 41 rfl hg ?_
      have f44 : (aa.tmps.getD 44 undef) = .bool false := F.of 12 (by kernel_rfl)
      have f46 : (aa.tmps.getD 46 undef) = .bool true := F.of 14 (by kernel_rfl)
      refine op_pure (.bool true) ?_ ⟨_, rfl, Below.refl _ _, rfl⟩
      simp [execOp, Act.eval, go_sem, f44, f46]
    | 16, ho =>
      obtain rfl := Option.some.inj ho
      refine flow_plain rfl rfl ?_
      have f41 : (aa.tmps.getD 41 undef) = .bool true := F.of 9 (by kernel_rfl)
      have f47 : (aa.tmps.getD 47 undef) = .bool true := F.of 15 (by kernel_rfl)
      refine op_pure (.bool true) ?_ ⟨_, rfl, Below.refl _ _, rfl⟩
      simp [execOp, Act.eval, go_sem, f41, f47]
    | 17, ho =>
      obtain rfl := Option.some.inj ho
      refine flow_plain rfl rfl ?_
      have f48 : (aa.tmps.getD 48 undef) = .bool true := F.of 16 (by kernel_rfl)
      exact op_move (.tmp 48) rfl ⟨_, rfl, Below.refl _ _, f48⟩
    | 18, ho =>
      obtain rfl := Option.some.inj ho
      have hg : aa.tmps.getD 49 undef = .bool true := F.of 17 (by kernel_rfl)
      refine flow_yes rfl rfl 49 rfl hg ?_
      have f4 : aa.tmps.getD 4 undef = .string s1 := F.out 4 (by kernel_rfl) _ rfl
      exact op_move (.tmp 4) rfl ⟨_, rfl, Below.refl _ _, f4⟩
    | 19, ho =>
      obtain rfl := Option.some.inj ho
      have hg : aa.tmps.getD 49 undef = .bool true := F.of 17 (by kernel_rfl)
      refine flow_yes rfl rfl 49 rfl hg ?_
      have f50 : (aa.tmps.getD 50 undef) = .string s1 := F.of 18 (by kernel_rfl)
      refine op_call 37 #[.tmp 50, .const (.string ⟨#[32, 10]⟩)] #[9, 9] rfl _ rfl rfl rfl #[.string s1, (.string ⟨#[32, 10]⟩)] (by simp [Act.eval, f50]) ?_
      refine (HCA.out _).mono ?_
      rintro e w9 ⟨rfl, hb9⟩
      exact ⟨_, rfl, _, rfl, hb9, rfl⟩
    | 20, ho =>
      obtain rfl := Option.some.inj ho
      have hg : aa.tmps.getD 49 undef = .bool true := F.of 17 (by kernel_rfl)
      refine flow_yes rfl rfl 49 rfl hg ?_
      have f51 : (aa.tmps.getD 51 undef) = .bool b := F.of 19 (by kernel_rfl)
      refine op_pure (.bool (!b)) ?_ ⟨_, rfl, Below.refl _ _, rfl⟩
      simp [execOp, Act.eval, go_sem, f51]
    | 21, ho =>
      obtain rfl := Option.some.inj ho
      refine flow_plain rfl rfl ?_
      have f49 : (aa.tmps.getD 49 undef) = .bool true := F.of 17 (by kernel_rfl)
      have f52 : (aa.tmps.getD 52 undef) = .bool (!b) := F.of 20 (by kernel_rfl)
      refine op_pure (.bool (!b)) ?_ ⟨_, rfl, Below.refl _ _, rfl⟩
      simp [execOp, Act.eval, go_sem, f49, f52]
    | 22, ho =>
      obtain rfl := Option.some.inj ho
      refine flow_plain rfl rfl ?_
      have f2 : aa.tmps.getD 2 undef = .pointer (some ⟨w.heap.size, 0, none⟩) := F.out 2 (by kernel_rfl) _ rfl
      have f32 : (aa.tmps.getD 32 undef) = .agg #[.string s1, .bool n, .bool false, .bool wh] := F.of 0 (by kernel_rfl)
      have hc := (blk (below_heap hlow HG.out)).1
      have hf := (blk (below_heap hlow HG.out)).2
      refine op_skip w' ?_ ⟨_, rfl, Below.refl _ _, trivial⟩
      simp [execOp, Act.eval, go_sem, f2, f32, hc, hf]
      rw [setCell_id (show w'.cell? ⟨w.heap.size, 0, none⟩ = some (.string s1) from hc 0), setCell_id (show w'.cell? ⟨w.heap.size, 1, none⟩ = some (.bool n) from hc 1), setCell_id (show w'.cell? ⟨w.heap.size, 2, none⟩ = some (.bool false) from hc 2), setCell_id (show w'.cell? ⟨w.heap.size, 3, none⟩ = some (.bool wh) from hc 3)]
    | 23, ho =>
      obtain rfl := Option.some.inj ho
      refine flow_plain rfl rfl ?_
      have f53 : (aa.tmps.getD 53 undef) = .bool (!b) := F.of 21 (by kernel_rfl)
      exact op_assign (.tmp 53) rfl ⟨_, rfl, Below.refl _ _, f53⟩
    | j + 24, ho => exact absurd (Array.getElem?_eq_some_iff.1 ho).1 (by simp)
  · intro a' w' htsz hdfs hsame hlow hgot
    have h3 : a'.tmps.getD 3 undef = .bool (!b) := hgot 23 (by simp)
    have h2 : a'.tmps.getD 2 undef = .pointer (some ⟨w.heap.size, 0, none⟩) := by rw [Array.getD_eq_getD_getElem?, hsame 2 (by kernel_rfl)]; rfl
    have hbx := below_heap hlow HG.out
    have hB := Aside0.mk (below_step (HB0.out _) hlow)
    clear hgot hsame hlow
    go_wp2_with fail
    refine bodyPost_ret (v := .tuple #[.agg #[.string s1, .bool n, .bool false, .bool wh], .bool (!b)]) ?_ hdfs ⟨rfl, hB.out⟩
    have hc := (blk hbx).1
    rw [results_cell_tmp rfl, h2, h3]
    simp [asAddr, Result.andThen, loadVar, go_sem, hc]

/-- What each slot of the region holds. -/
def PaF (G : Nat) (pat : ByteArray) (n wh b : Bool) : Nat → Value → World → Prop
  | 0, v, w => v = .agg #[.string pat, .bool n, .bool false, .bool wh]
  | 1, v, w => v = .string pat
  | 2, v, w => v = .int .i64 pat.size
  | 3, v, w => v = .bool true
  | 4, v, w => v = .bool true
  | 5, v, w => v = .string pat
  | 6, v, w => v = .int .i64 pat.size
  | 7, v, w => v = .bool false
  | 8, v, w => v = .bool false
  | 9, v, w => v = .bool false
  | 10, v, w => v = undef
  | 11, v, w => v = undef
  | 12, v, w => v = undef
  | 13, v, w => v = undef
  | 14, v, w => v = undef
  | 15, v, w => v = undef
  | 16, v, w => v = .bool false
  | 17, v, w => v = .bool false
  | 18, v, w => v = undef
  | 19, v, w => v = undef
  | 20, v, w => v = undef
  | 21, v, w => v = .bool false
  | 22, v, w => True
  | 23, v, w => v = .bool false
  | _, _, _ => True
theorem PaF_st (G : Nat) (pat : ByteArray) (n wh b : Bool) : ∀ i v w w', PaF G pat n wh b i v w → Below w.heap.size w w' → PaF G pat n wh b i v w'
  | 0, v, w, w', h, hb => h
  | 1, v, w, w', h, hb => h
  | 2, v, w, w', h, hb => h
  | 3, v, w, w', h, hb => h
  | 4, v, w, w', h, hb => h
  | 5, v, w, w', h, hb => h
  | 6, v, w, w', h, hb => h
  | 7, v, w, w', h, hb => h
  | 8, v, w, w', h, hb => h
  | 9, v, w, w', h, hb => h
  | 10, v, w, w', h, hb => h
  | 11, v, w, w', h, hb => h
  | 12, v, w, w', h, hb => h
  | 13, v, w, w', h, hb => h
  | 14, v, w, w', h, hb => h
  | 15, v, w, w', h, hb => h
  | 16, v, w, w', h, hb => h
  | 17, v, w, w', h, hb => h
  | 18, v, w, w', h, hb => h
  | 19, v, w, w', h, hb => h
  | 20, v, w, w', h, hb => h
  | 21, v, w, w', h, hb => h
  | 22, v, w, w', h, hb => trivial
  | 23, v, w, w', h, hb => h
  | _ + 24, _, _, _, _, _ => trivial
set_option maxHeartbeats 4000000 in
set_option maxRecDepth 4000 in
theorem parse_F (s s1 t : ByteArray) (n wh b : Bool) (w : World) (h1 : 1 ≤ s1.size) (h60 : ¬ s1.size ≤ 60) (hsl : (s1.toList == [47]) = false)
    (HP : Aside0 (∀ W, Calls Tryd.prog 34 #[.string s, .string ⟨#[33]⟩] W fun e w' => e = .returned (.tuple #[.string s1, .bool n]) ∧ w' = W))
    (HS : Aside0 (∀ W, Calls Tryd.prog 35 #[.string s1, .string ⟨#[47]⟩] W fun e w' => e = .returned (.tuple #[.string t, .bool false]) ∧ w' = W))
    (HCN : Aside0 (∀ W, Calls Tryd.prog 36 #[.string s1, .string ⟨#[47]⟩] W fun e w' => e = .returned (.bool wh) ∧ w' = W))
    (HCA : Aside0 (∀ W, Calls Tryd.prog 37 #[.string s1, .string ⟨#[32, 10]⟩] W fun e w' => e = .returned (.bool b) ∧ Below W.heap.size W w')) :
    Calls Tryd.prog 28 #[.string s] w fun e w' => e = .returned (.tuple #[.agg #[.string s1, .bool n, .bool false, .bool wh], .bool false]) ∧ Below w.heap.size w w' := by
  have HG : Aside0 ((w.alloc (.cells #[.string s1, .bool n, .bool false, .bool wh] 59)).heap[w.heap.size]? = some (.cells #[.string s1, .bool n, .bool false, .bool wh] 59 (0, 0))) := ⟨heap_new rfl⟩
  have HB0 : Aside0 (∀ o, Below w.heap.size w (w.alloc o)) := ⟨fun o => (Below.refl _ _).alloc (Nat.le_refl _) o⟩
  have h1i : (1 : Int) ≤ s1.size := by omega
  have h60i : ¬ (s1.size : Int) ≤ 60 := by omega
  go_enter Tryd.func28, Tryd.ntmps28
  go_wp2_with (first
    | (go_at_call 34; refine (HP.out _).mono ?_; rintro e w' ⟨rfl, hw⟩; rw [hw]; clear hw)
    | (go_at_call 35; refine (HS.out _).mono ?_; rintro e w' ⟨rfl, hw⟩; rw [hw]; clear hw)
    | (go_at_call 36; refine (HCN.out _).mono ?_; rintro e w' ⟨rfl, hw⟩; rw [hw]; clear hw))
  refine wp_region_flowU (PaF w.heap.size s1 n wh b) (by kernel_rfl) (by kernel_rfl) (PaF_st _ _ _ _ _) ?_ ?_ ?_
  · intro i hi hn v w
    match i with
    | 0 => exact absurd (show (some 32 : Option Nat) = none from hn) (fun h => by cases h)
    | 1 => exact absurd (show (some 33 : Option Nat) = none from hn) (fun h => by cases h)
    | 2 => exact absurd (show (some 34 : Option Nat) = none from hn) (fun h => by cases h)
    | 3 => exact absurd (show (some 35 : Option Nat) = none from hn) (fun h => by cases h)
    | 4 => exact absurd (show (some 36 : Option Nat) = none from hn) (fun h => by cases h)
    | 5 => exact absurd (show (some 37 : Option Nat) = none from hn) (fun h => by cases h)
    | 6 => exact absurd (show (some 38 : Option Nat) = none from hn) (fun h => by cases h)
    | 7 => exact absurd (show (some 39 : Option Nat) = none from hn) (fun h => by cases h)
    | 8 => exact absurd (show (some 40 : Option Nat) = none from hn) (fun h => by cases h)
    | 9 => exact absurd (show (some 41 : Option Nat) = none from hn) (fun h => by cases h)
    | 10 => exact absurd (show (some 42 : Option Nat) = none from hn) (fun h => by cases h)
    | 11 => exact absurd (show (some 43 : Option Nat) = none from hn) (fun h => by cases h)
    | 12 => exact absurd (show (some 44 : Option Nat) = none from hn) (fun h => by cases h)
    | 13 => exact absurd (show (some 45 : Option Nat) = none from hn) (fun h => by cases h)
    | 14 => exact absurd (show (some 46 : Option Nat) = none from hn) (fun h => by cases h)
    | 15 => exact absurd (show (some 47 : Option Nat) = none from hn) (fun h => by cases h)
    | 16 => exact absurd (show (some 48 : Option Nat) = none from hn) (fun h => by cases h)
    | 17 => exact absurd (show (some 49 : Option Nat) = none from hn) (fun h => by cases h)
    | 18 => exact absurd (show (some 50 : Option Nat) = none from hn) (fun h => by cases h)
    | 19 => exact absurd (show (some 51 : Option Nat) = none from hn) (fun h => by cases h)
    | 20 => exact absurd (show (some 52 : Option Nat) = none from hn) (fun h => by cases h)
    | 21 => exact absurd (show (some 53 : Option Nat) = none from hn) (fun h => by cases h)
    | 22 => trivial
    | 23 => exact absurd (show (some 3 : Option Nat) = none from hn) (fun h => by cases h)
    | j + 24 => trivial
  · intro i o ho aa w' F
    have hlow := F.low
    match i, ho with
    | 0, ho =>
      obtain rfl := Option.some.inj ho
      refine flow_plain rfl rfl ?_
      have f2 : aa.tmps.getD 2 undef = .pointer (some ⟨w.heap.size, 0, none⟩) := F.out 2 (by kernel_rfl) _ rfl
      have hc := (blk (below_heap hlow HG.out)).1
      refine op_pure (.agg #[.string s1, .bool n, .bool false, .bool wh]) ?_ ⟨_, rfl, Below.refl _ _, rfl⟩
      simp [execOp, Act.eval, go_sem, f2, hc]
    | 1, ho =>
      obtain rfl := Option.some.inj ho
      refine flow_plain rfl rfl ?_
      have f4 : aa.tmps.getD 4 undef = .string s1 := F.out 4 (by kernel_rfl) _ rfl
      exact op_move (.tmp 4) rfl ⟨_, rfl, Below.refl _ _, f4⟩
    | 2, ho =>
      obtain rfl := Option.some.inj ho
      refine flow_plain rfl rfl ?_
      have f33 : (aa.tmps.getD 33 undef) = .string s1 := F.of 1 (by kernel_rfl)
      refine op_pure (.int .i64 s1.size) ?_ ⟨_, rfl, Below.refl _ _, rfl⟩
      simp [execOp, Act.eval, go_sem, f33]
    | 3, ho =>
      obtain rfl := Option.some.inj ho
      refine flow_plain rfl rfl ?_
      have f34 : (aa.tmps.getD 34 undef) = .int .i64 s1.size := F.of 2 (by kernel_rfl)
      refine op_pure (.bool true) ?_ ⟨_, rfl, Below.refl _ _, rfl⟩
      simp [execOp, Act.eval, go_sem, f34, h1i]
    | 4, ho =>
      obtain rfl := Option.some.inj ho
      refine flow_plain rfl rfl ?_
      have f35 : (aa.tmps.getD 35 undef) = .bool true := F.of 3 (by kernel_rfl)
      exact op_move (.tmp 35) rfl ⟨_, rfl, Below.refl _ _, f35⟩
    | 5, ho =>
      obtain rfl := Option.some.inj ho
      have hg : aa.tmps.getD 36 undef = .bool true := F.of 4 (by kernel_rfl)
      refine flow_yes rfl rfl 36 rfl hg ?_
      have f4 : aa.tmps.getD 4 undef = .string s1 := F.out 4 (by kernel_rfl) _ rfl
      exact op_move (.tmp 4) rfl ⟨_, rfl, Below.refl _ _, f4⟩
    | 6, ho =>
      obtain rfl := Option.some.inj ho
      have hg : aa.tmps.getD 36 undef = .bool true := F.of 4 (by kernel_rfl)
      refine flow_yes rfl rfl 36 rfl hg ?_
      have f37 : (aa.tmps.getD 37 undef) = .string s1 := F.of 5 (by kernel_rfl)
      refine op_pure (.int .i64 s1.size) ?_ ⟨_, rfl, Below.refl _ _, rfl⟩
      simp [execOp, Act.eval, go_sem, f37]
    | 7, ho =>
      obtain rfl := Option.some.inj ho
      have hg : aa.tmps.getD 36 undef = .bool true := F.of 4 (by kernel_rfl)
      refine flow_yes rfl rfl 36 rfl hg ?_
      have f38 : (aa.tmps.getD 38 undef) = .int .i64 s1.size := F.of 6 (by kernel_rfl)
      refine op_pure (.bool false) ?_ ⟨_, rfl, Below.refl _ _, rfl⟩
      simp [execOp, Act.eval, go_sem, f38, h60i]
    | 8, ho =>
      obtain rfl := Option.some.inj ho
      refine flow_plain rfl rfl ?_
      have f36 : (aa.tmps.getD 36 undef) = .bool true := F.of 4 (by kernel_rfl)
      have f39 : (aa.tmps.getD 39 undef) = .bool false := F.of 7 (by kernel_rfl)
      refine op_pure (.bool false) ?_ ⟨_, rfl, Below.refl _ _, rfl⟩
      simp [execOp, Act.eval, go_sem, f36, f39]
    | 9, ho =>
      obtain rfl := Option.some.inj ho
      refine flow_plain rfl rfl ?_
      have f40 : (aa.tmps.getD 40 undef) = .bool false := F.of 8 (by kernel_rfl)
      exact op_move (.tmp 40) rfl ⟨_, rfl, Below.refl _ _, f40⟩
    | 10, ho =>
      obtain rfl := Option.some.inj ho
      have hg : aa.tmps.getD 41 undef = .bool false := F.of 9 (by kernel_rfl)
      exact flow_no rfl rfl 41 rfl hg ⟨_, rfl, Below.refl _ _, rfl⟩
    | 11, ho =>
      obtain rfl := Option.some.inj ho
      have hg : aa.tmps.getD 41 undef = .bool false := F.of 9 (by kernel_rfl)
      exact flow_no rfl rfl 41 rfl hg ⟨_, rfl, Below.refl _ _, rfl⟩
    | 12, ho =>
      obtain rfl := Option.some.inj ho
      have hg : aa.tmps.getD 41 undef = .bool false := F.of 9 (by kernel_rfl)
      exact flow_no rfl rfl 41 rfl hg ⟨_, rfl, Below.refl _ _, rfl⟩
    | 13, ho =>
      obtain rfl := Option.some.inj ho
      have hg : aa.tmps.getD 44 undef = undef := F.of 12 (by kernel_rfl)
      exact flow_un rfl rfl 44 rfl hg ⟨_, rfl, Below.refl _ _, rfl⟩
    | 14, ho =>
      obtain rfl := Option.some.inj ho
      have hg : aa.tmps.getD 44 undef = undef := F.of 12 (by kernel_rfl)
      exact flow_un rfl rfl 44 rfl hg ⟨_, rfl, Below.refl _ _, rfl⟩
    | 15, ho =>
      obtain rfl := Option.some.inj ho
      have hg : aa.tmps.getD 41 undef = .bool false := F.of 9 (by kernel_rfl)
      exact flow_no rfl rfl 41 rfl hg ⟨_, rfl, Below.refl _ _, rfl⟩
    | 16, ho =>
      obtain rfl := Option.some.inj ho
      refine flow_plain rfl rfl ?_
      have f41 : (aa.tmps.getD 41 undef) = .bool false := F.of 9 (by kernel_rfl)
      have f47 : (aa.tmps.getD 47 undef) = undef := F.of 15 (by kernel_rfl)
      refine op_pure (.bool false) ?_ ⟨_, rfl, Below.refl _ _, rfl⟩
      simp [execOp, Act.eval, go_sem, f41, f47]
    | 17, ho =>
      obtain rfl := Option.some.inj ho
      refine flow_plain rfl rfl ?_
      have f48 : (aa.tmps.getD 48 undef) = .bool false := F.of 16 (by kernel_rfl)
      exact op_move (.tmp 48) rfl ⟨_, rfl, Below.refl _ _, f48⟩
    | 18, ho =>
      obtain rfl := Option.some.inj ho
      have hg : aa.tmps.getD 49 undef = .bool false := F.of 17 (by kernel_rfl)
      exact flow_no rfl rfl 49 rfl hg ⟨_, rfl, Below.refl _ _, rfl⟩
    | 19, ho =>
      obtain rfl := Option.some.inj ho
      have hg : aa.tmps.getD 49 undef = .bool false := F.of 17 (by kernel_rfl)
      exact flow_no rfl rfl 49 rfl hg ⟨_, rfl, Below.refl _ _, rfl⟩
    | 20, ho =>
      obtain rfl := Option.some.inj ho
      have hg : aa.tmps.getD 49 undef = .bool false := F.of 17 (by kernel_rfl)
      exact flow_no rfl rfl 49 rfl hg ⟨_, rfl, Below.refl _ _, rfl⟩
    | 21, ho =>
      obtain rfl := Option.some.inj ho
      refine flow_plain rfl rfl ?_
      have f49 : (aa.tmps.getD 49 undef) = .bool false := F.of 17 (by kernel_rfl)
      have f52 : (aa.tmps.getD 52 undef) = undef := F.of 20 (by kernel_rfl)
      refine op_pure (.bool false) ?_ ⟨_, rfl, Below.refl _ _, rfl⟩
      simp [execOp, Act.eval, go_sem, f49, f52]
    | 22, ho =>
      obtain rfl := Option.some.inj ho
      refine flow_plain rfl rfl ?_
      have f2 : aa.tmps.getD 2 undef = .pointer (some ⟨w.heap.size, 0, none⟩) := F.out 2 (by kernel_rfl) _ rfl
      have f32 : (aa.tmps.getD 32 undef) = .agg #[.string s1, .bool n, .bool false, .bool wh] := F.of 0 (by kernel_rfl)
      have hc := (blk (below_heap hlow HG.out)).1
      have hf := (blk (below_heap hlow HG.out)).2
      refine op_skip w' ?_ ⟨_, rfl, Below.refl _ _, trivial⟩
      simp [execOp, Act.eval, go_sem, f2, f32, hc, hf]
      rw [setCell_id (show w'.cell? ⟨w.heap.size, 0, none⟩ = some (.string s1) from hc 0), setCell_id (show w'.cell? ⟨w.heap.size, 1, none⟩ = some (.bool n) from hc 1), setCell_id (show w'.cell? ⟨w.heap.size, 2, none⟩ = some (.bool false) from hc 2), setCell_id (show w'.cell? ⟨w.heap.size, 3, none⟩ = some (.bool wh) from hc 3)]
    | 23, ho =>
      obtain rfl := Option.some.inj ho
      refine flow_plain rfl rfl ?_
      have f53 : (aa.tmps.getD 53 undef) = .bool false := F.of 21 (by kernel_rfl)
      exact op_assign (.tmp 53) rfl ⟨_, rfl, Below.refl _ _, f53⟩
    | j + 24, ho => exact absurd (Array.getElem?_eq_some_iff.1 ho).1 (by simp)
  · intro a' w' htsz hdfs hsame hlow hgot
    have h3 : a'.tmps.getD 3 undef = .bool false := hgot 23 (by simp)
    have h2 : a'.tmps.getD 2 undef = .pointer (some ⟨w.heap.size, 0, none⟩) := by rw [Array.getD_eq_getD_getElem?, hsame 2 (by kernel_rfl)]; rfl
    have hbx := below_heap hlow HG.out
    have hB := Aside0.mk (below_step (HB0.out _) hlow)
    clear hgot hsame hlow
    go_wp2_with fail
    refine bodyPost_ret (v := .tuple #[.agg #[.string s1, .bool n, .bool false, .bool wh], .bool false]) ?_ hdfs ⟨rfl, hB.out⟩
    have hc := (blk hbx).1
    rw [results_cell_tmp rfl, h2, h3]
    simp [asAddr, Result.andThen, loadVar, go_sem, hc]

set_option maxHeartbeats 4000000 in
theorem parse_calls (s : ByteArray) (w : World) (hs : s.size ≤ 1000000000) :
    Calls Tryd.prog 28 #[.string s] w fun e w' => ∃ (p : ByteArray) (n d h : Bool), e = .returned (.tuple #[.agg #[.string p, .bool n, .bool d, .bool h], .bool (okR s.data.toList)]) ∧ (okR s.data.toList = true → p.data.toList = parT s.data.toList ∧ n = parN s.data.toList ∧ d = parD s.data.toList ∧ h = parW s.data.toList) ∧ Below w.heap.size w w' := by
  obtain ⟨S, hS⟩ : ∃ S, S = s.data.toList := ⟨_, rfl⟩
  rw [← hS]
  have hlen : S.length = s.size := by rw [hS]; exact len_data s
  have HP : Aside0 (∀ W, Calls Tryd.prog 34 #[.string s, .string ⟨#[33]⟩] W fun e w' => e = .returned (.tuple #[.string ⟨(par1 S).toArray⟩, .bool (parN S)]) ∧ w' = W) := ⟨fun W => by rw [hS]; exact cutp_calls s ⟨#[33]⟩ W⟩
  have hl1 : (par1 S).length ≤ 1000000000 := by
    unfold par1 Lib.trimPrefix
    split
    · rw [List.length_drop]; omega
    · omega
  clear hS hlen
  obtain ⟨s1, hs1⟩ : ∃ s1 : ByteArray, s1 = ⟨(par1 S).toArray⟩ := ⟨_, rfl⟩
  have hd1 : s1.data.toList = par1 S := by rw [hs1]
  have hz1 : s1.size = (par1 S).length := by rw [← hd1]; exact (len_data s1).symm
  have HS : Aside0 (∀ W, Calls Tryd.prog 35 #[.string s1, .string ⟨#[47]⟩] W fun e w' => e = .returned (.tuple #[.string ⟨(parT S).toArray⟩, .bool (parD S)]) ∧ w' = W) := ⟨fun W => by
    refine (cuts_calls s1 ⟨#[47]⟩ W (by omega)).mono ?_
    rintro e w' ⟨rfl, hw⟩
    rw [hd1]
    exact ⟨rfl, hw⟩⟩
  rw [← hs1] at HP
  clear hs1
  obtain ⟨t, ht⟩ : ∃ t : ByteArray, t = ⟨(parT S).toArray⟩ := ⟨_, rfl⟩
  have hdt : t.data.toList = parT S := by rw [ht]
  have hzt : t.size = (parT S).length := by rw [← hdt]; exact (len_data t).symm
  have hlt : (parT S).length ≤ 1000000000 := by
    unfold parT Lib.trimSuffix
    split
    · rw [List.length_take]; omega
    · omega
  rw [← ht] at HS
  clear ht
  have HC : ∀ (x : ByteArray), x.size ≤ 1000000000 → Aside0 (∀ W, Calls Tryd.prog 36 #[.string x, .string ⟨#[47]⟩] W fun e w' => e = .returned (.bool (decide (0 ≤ Lib.indexByte x.data.toList 47))) ∧ w' = W) ∧ Aside0 (∀ W, Calls Tryd.prog 37 #[.string x, .string ⟨#[32, 10]⟩] W fun e w' => e = .returned (.bool (x.data.toList.any wsB)) ∧ Below W.heap.size W w') := fun x hx =>
    ⟨⟨fun W => Tryd.strings_Contains_one x 47 W⟩, ⟨fun W => cany_calls x W (by omega)⟩⟩
  have hok : ∀ a b c : Bool, decide (1 ≤ (parT S).length) = a → decide ((parT S).length ≤ 60) = b → (parT S).any wsB = c → okR S = (a && (b && !c)) := fun a b c h1 h2 h3 => by unfold okR; rw [h1, h2, h3]
  cases hd : parD S with
  | true =>
    rw [hd] at HS
    by_cases h0 : parT S = []
    · have h2 := par_slash hd h0
      have h3 : s1.toList = [47] := by rw [toList_eq, hd1, h2]
      have hR : okR S = false := by unfold okR; rw [h0]; rfl
      refine (parse_D s s1 t _ _ _ w (by rw [toList_eq, hdt, h0]; rfl) (by rw [hz1, h2]; decide) (by rw [hz1, h2]; decide) (by rw [h3]; rfl) HP HS (HC s1 (by omega)).1 (HC s1 (by omega)).2).mono ?_
      rintro e w' ⟨rfl, hb⟩
      exact ⟨_, _, _, _, by rw [hR], fun h => absurd (hR.symm.trans h) (by decide), hb⟩
    · have hne : t.toList.isEmpty = false := by
        rw [toList_eq, hdt]
        cases h : parT S with
        | nil => exact absurd h h0
        | cons _ _ => rfl
      have h1 : 1 ≤ t.size := by
        rw [hzt]
        cases h : parT S with
        | nil => exact absurd h h0
        | cons _ _ => simp
      by_cases h60 : t.size ≤ 60
      · have hR := hok true true _ (decide_eq_true (by omega)) (decide_eq_true (by omega)) rfl
        refine (parse_A s s1 t _ _ _ w hne h1 h60 HP HS (HC t (by omega)).1 (HC t (by omega)).2).mono ?_
        rintro e w' ⟨rfl, hb⟩
        exact ⟨_, _, _, _, by rw [hR, hdt]; rfl, fun h => ⟨hdt, rfl, rfl, by first | rfl | (rw [hdt]; rfl)⟩, hb⟩
      · have hR : okR S = false := by rw [hok true false _ (decide_eq_true (by omega)) (decide_eq_false (by omega)) rfl]; rfl
        refine (parse_B s s1 t _ _ _ w hne h1 h60 HP HS (HC t (by omega)).1 (HC t (by omega)).2).mono ?_
        rintro e w' ⟨rfl, hb⟩
        exact ⟨_, _, _, _, by rw [hR], fun h => absurd (hR.symm.trans h) (by decide), hb⟩
  | false =>
    rw [hd] at HS
    have hT := parT_no hd
    have hsl : (s1.toList == [47]) = false := by
      rw [toList_eq, hd1, beq_eq_false_iff_ne]
      exact par_no_slash hd
    have hs1t : s1.data.toList = parT S := by rw [hd1, hT]
    have hz1t : s1.size = (parT S).length := by rw [hz1, hT]
    by_cases h1 : 1 ≤ s1.size
    · by_cases h60 : s1.size ≤ 60
      · have hR := hok true true _ (decide_eq_true (by omega)) (decide_eq_true (by omega)) rfl
        refine (parse_E s s1 t _ _ _ w h1 h60 hsl HP HS (HC s1 (by omega)).1 (HC s1 (by omega)).2).mono ?_
        rintro e w' ⟨rfl, hb⟩
        exact ⟨_, _, _, _, by rw [hR, hs1t]; rfl, fun h => ⟨hs1t, rfl, rfl, by first | rfl | (rw [hs1t]; rfl)⟩, hb⟩
      · have hR : okR S = false := by rw [hok true false _ (decide_eq_true (by omega)) (decide_eq_false (by omega)) rfl]; rfl
        refine (parse_F s s1 t _ _ _ w h1 h60 hsl HP HS (HC s1 (by omega)).1 (HC s1 (by omega)).2).mono ?_
        rintro e w' ⟨rfl, hb⟩
        exact ⟨_, _, _, _, by rw [hR], fun h => absurd (hR.symm.trans h) (by decide), hb⟩
    · have hR : okR S = false := by rw [hok false _ _ (decide_eq_false (by omega)) rfl rfl]; rfl
      refine (parse_C s s1 t _ _ _ w h1 (by omega) hsl HP HS (HC s1 (by omega)).1 (HC s1 (by omega)).2).mono ?_
      rintro e w' ⟨rfl, hb⟩
      exact ⟨_, _, _, _, by rw [hR], fun h => absurd (hR.symm.trans h) (by decide), hb⟩
end Go.Proofs.YtkalfkgnjmkjgaaDoor
