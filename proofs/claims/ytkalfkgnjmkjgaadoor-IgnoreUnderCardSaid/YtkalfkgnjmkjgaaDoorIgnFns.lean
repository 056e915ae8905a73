/-
  Rows of bools of the call's own; a piece's fits, and skip. No condition but that what is handed in can be read.
-/
import Derived.Test.YtkalfkgnjmkjgaaDoorProg
import Derived.Test.YtkalfkgnjmkjgaaDoorClone
import Derived.Test.YtkalfkgnjmkjgaaDoorAppRows
import Derived.Test.YtkalfkgnjmkjgaaDoorIgnPure
import Derived.RegionTactic
import Derived.ChangeAlike
namespace Go.Proofs.YtkalfkgnjmkjgaaDoor
open Go.RowKit Go.Joins
set_option linter.unusedVariables false
set_option linter.unusedSimpArgs false

def blv (b : Bool) : Value := .bool b
/-- A row of bools of the call's own. -/
def OwnT (w : World) (base : Nat) (v : Value) (x : List Bool) : Prop := w.ownsRow base 4 1 v x.length (x.map blv)
theorem ownT_at {w : World} {base g n cap : Nat} {x : List Bool} (h : OwnT w base (.slice (some ⟨g, 0, none⟩) n cap) x) (k : Nat) (hk : k < x.length) :
    w.cell? ⟨g, k, none⟩ = some (.bool (x.getD k false)) ∧ w.frozen? ⟨g, k, none⟩ = false := by
  constructor
  · have hc := World.ownsRow.cells h (g := g) rfl k (blv (x.getD k false)) (by simp [List.getElem?_eq_getElem hk])
    have ha : (⟨g, 0, none⟩ : Addr).add k = ⟨g, k, none⟩ := by unfold Addr.add; split <;> simp_all
    rwa [ha] at hc
  · rcases h.2 with ⟨h', _⟩ | ⟨g', cap', cur, h', _, hh, _⟩
    · cases h'
    · cases h'; simp [World.frozen?, hh]
theorem ownT_set {w : World} {base g n cap : Nat} {x : List Bool} (h : OwnT w base (.slice (some ⟨g, 0, none⟩) n cap) x) (k : Nat) (y : Bool) :
    OwnT (w.setCell ⟨g, k, none⟩ (.bool y)) base (.slice (some ⟨g, 0, none⟩) n cap) (x.set k y) ∧ w.grownBy (w.setCell ⟨g, k, none⟩ (.bool y)) (some g) := by
  have hn : n = x.length := by
    rcases h.2 with ⟨h', _⟩ | ⟨g', cap', cur, h', _⟩
    · cases h'
    · cases h'; rfl
  subst hn
  have hs := World.ownsRow.stored h k (.bool y)
  have he : (x.map blv).set k (.bool y) = (x.set k y).map blv := by rw [List.map_set]; rfl
  unfold OwnT
  rw [List.length_set, ← he]
  exact hs
theorem ownT_lt {w : World} {base g n cap : Nat} {x : List Bool} (h : OwnT w base (.slice (some ⟨g, 0, none⟩) n cap) x) : g < w.heap.size ∧ base ≤ g ∧ n ≤ cap ∧ cap ≤ maxLen ∧ n = x.length := by
  rcases h.2 with ⟨h', _⟩ | ⟨g', cap', cur, h', hb, hh, h1, h2, _⟩
  · cases h'
  · cases h'; exact ⟨blk_lt hh, hb, h1, h2, rfl⟩
theorem made_bools (m : Nat) : (madeCells #[Value.bool false] m).toList = (List.replicate m false).map blv := by
  apply List.ext_getElem
  · simp [madeCells]
  · intro i h1 h2
    simp [madeCells, Nat.mod_one, blv]
theorem grown_then {a b c : World} {row : Option Nat} (h : a.grownBy b row) (k : b.grownBy c row) : a.grownBy c row :=
  ⟨k.os.trans h.os, k.tape.trans h.tape, k.output.trans h.output, Nat.le_trans h.size k.size, fun i hi hr => (k.block i (Nat.lt_of_lt_of_le hi h.size) hr).trans (h.block i hi hr)⟩
theorem grown_ofb {a b : World} {row : Option Nat} (h : Below a.heap.size a b) : a.grownBy b row := ⟨h.os, h.tape, h.output, h.size, fun k hk _ => h.block k hk⟩

def tokC (t : Tok) : List Value := [.int .u8 (t.c.toNat : Int), .bool t.star, .bool t.wide, .bool t.any]
theorem tokC_len (t : Tok) : (tokC t).length = 4 := rfl
def tokV (t : Tok) : Value := .agg #[.int .u8 (t.c.toNat : Int), .bool t.star, .bool t.wide, .bool t.any]

set_option maxHeartbeats 1000000 in
theorem fits_calls (t : Tok) (x : UInt8) (w : World) :
    Calls Tryd.prog 25 #[.agg #[.int .u8 (t.c.toNat : Int), .bool t.star, .bool t.wide, .bool t.any], .int .u8 (x.toNat : Int)] w fun e w' => e = .returned (.bool (fitB t x)) ∧ Below w.heap.size w w' := by
  obtain ⟨c, st, wd, an⟩ := t
  have HF : fitB ⟨c, st, wd, an⟩ x = if st = true then (wd || x != 47) else if an = true then x != 47 else c == x := rfl
  have hx : (x != 47) = decide (¬ ((x.toNat : Int) = 47)) := by
    rw [bne, Bool.eq_iff_iff]
    simp only [Bool.not_eq_true', beq_eq_false_iff_ne, ne_eq, decide_eq_true_eq]
    refine not_congr ⟨fun h => by subst h; rfl, fun h => ?_⟩
    apply UInt8.toNat_inj.1
    show x.toNat = 47
    omega
  have hc : (c == x) = decide ((c.toNat : Int) = (x.toNat : Int)) := by
    rw [Bool.eq_iff_iff, beq_iff_eq, decide_eq_true_eq]
    exact ⟨fun h => by rw [h], fun h => UInt8.toNat_inj.1 (by omega)⟩
  rw [HF, hx, hc]
  clear HF hx hc
  obtain ⟨nc, hnc⟩ : ∃ nc : Nat, nc = c.toNat := ⟨_, rfl⟩
  obtain ⟨nx, hnx⟩ : ∃ nx : Nat, nx = x.toNat := ⟨_, rfl⟩
  rw [← hnc, ← hnx]
  clear hnc hnx
  have HB0 := Aside0.mk ((Below.refl w.heap.size w).alloc (Nat.le_refl _) (.cells #[.int .u8 (nc : Int), .bool st, .bool wd, .bool an] 51))
  cases st with
  | true =>
    cases wd with
    | true =>
      go_enter Tryd.func25, Tryd.ntmps25
      go_wp2
      go_ret
      exact ⟨rfl, HB0.out⟩
    | false =>
      go_enter Tryd.func25, Tryd.ntmps25
      go_wp2
      go_ret
      exact ⟨by simp [bne]; rw [Bool.eq_iff_iff]; simp, HB0.out⟩
  | false =>
    cases an with
    | true =>
      go_enter Tryd.func25, Tryd.ntmps25
      go_wp2
      go_ret
      exact ⟨by simp [bne]; rw [Bool.eq_iff_iff]; simp, HB0.out⟩
    | false =>
      go_enter Tryd.func25, Tryd.ntmps25
      go_wp2
      go_ret
      exact ⟨by simp; rw [Bool.eq_iff_iff]; simp, HB0.out⟩

/-- A piece's four cells, in the walk's spelling. -/
theorem tok_at {e : Nat} {w : World} {base : Nat} {v : Value} {l : List Tok} (h : SlC tokC e w base v l) (i : Nat) (hi : i < l.length) : ∃ ad c, v = .slice (some ad) l.length c ∧
    w.cell? (ad.add (i * 4)) = some (.int .u8 ((tk l i).c.toNat : Int)) ∧ w.cell? ⟨(ad.add (i * 4)).block, (ad.add (i * 4)).off + 1, none⟩ = some (.bool (tk l i).star) ∧
    w.cell? ⟨(ad.add (i * 4)).block, (ad.add (i * 4)).off + 2, none⟩ = some (.bool (tk l i).wide) ∧ w.cell? ⟨(ad.add (i * 4)).block, (ad.add (i * 4)).off + 3, none⟩ = some (.bool (tk l i).any) := by
  have hk : tk l i = l[i]'hi := by unfold tk; rw [List.getD_eq_getElem?_getD, List.getElem?_eq_getElem hi]; rfl
  obtain ⟨ad, c, rfl, hcell⟩ := h.at tokC_len (by decide) i hi
  rw [hk]
  refine ⟨ad, c, rfl, ?_, ?_, ?_, ?_⟩
  · exact hcell 0 _ rfl
  · have h := hcell 1 _ rfl; rw [← add_add] at h; exact h
  · have h := hcell 2 _ rfl; rw [← add_add] at h; exact h
  · have h := hcell 3 _ rfl; rw [← add_add] at h; exact h

theorem skip_step_no {l : List Tok} {x : List Bool} {n : Nat} {b s : Bool} (hb : (skN l x n).getD n false = b) (hs : (tk l n).star = s) (h : (b && s) = false) : skN l x (n + 1) = skN l x n := by
  rw [skN, hb, hs, h, if_neg (by decide)]
theorem skip_step_yes {l : List Tok} {x : List Bool} {n : Nat} (hb : (skN l x n).getD n false = true) (hs : (tk l n).star = true) : skN l x (n + 1) = (skN l x n).set (n + 1) true := by
  rw [skN, hb, hs]; rfl
set_option maxHeartbeats 2000000 in
theorem skip_calls {e b0 base g cap : Nat} {v : Value} {l : List Tok} {x : List Bool} (w : World) (hv : SlC tokC e w b0 v l) (hg : OwnT w base (.slice (some ⟨g, 0, none⟩) (l.length + 1) cap) x) (hx : x.length = l.length + 1)
    (hsep : ∀ w', w.grownBy w' (some g) → SlC tokC e w' b0 v l) :
    Calls Tryd.prog 24 #[v, .slice (some ⟨g, 0, none⟩) (l.length + 1) cap] w fun e w' => e = .returned (.tuple #[]) ∧ OwnT w' base (.slice (some ⟨g, 0, none⟩) (l.length + 1) cap) (skN l x l.length) ∧ w.grownBy w' (some g) := by
  have HX := Aside0.mk hx
  have HG := Aside0.mk hg
  have HS := Aside0.mk hsep
  obtain ⟨A, c, rfl, hc, hm, hR⟩ := hv
  have hmx : l.length ≤ 9223372036854775806 := by
    have h := ownT_lt hg
    have h1 := h.2.2.1
    have h2 := h.2.2.2.1
    simp only [maxLen] at h2; omega
  have HGL : Aside0 (g < w.heap.size) := ⟨(ownT_lt hg).1⟩
  clear hR hg hsep hx hm
  go_enter Tryd.func24, Tryd.ntmps24
  go_wp2
  go_loopw [8] (fun i wr => ∃ n : Nat, n ≤ l.length ∧ i = .int .i64 n ∧ Aside0 (OwnT wr base (.slice (some ⟨g, 0, none⟩) (l.length + 1) cap) (skN l x n) ∧ w.grownBy wr (some g))) (fun i wr => l.length - (intOf i).toNat)
  case atStart => exact ⟨0, Nat.zero_le _, rfl, ⟨HG.out, World.grownBy.refl _ _⟩⟩
  case round =>
    obtain ⟨n, hn, rfl, hs⟩ := hrel
    by_cases hlt : n < l.length
    · obtain ⟨ad, c', he, c0, c1, c2, c3⟩ := tok_at (HS.out _ hs.out.2) n hlt
      cases he
      have hlen : Aside0 ((skN l x n).length = l.length + 1) := ⟨by rw [skN_length]; exact HX.out⟩
      obtain ⟨o1, o2⟩ := ownT_at hs.out.1 n (by rw [hlen.out]; omega)
      have HSZ := Aside0.mk hs.out.2.size
      have hgl : g < wr.heap.size := by have := HGL.out; have := HSZ.out; omega
      have hne : g ≠ wr.heap.size := by omega
      have hne' : wr.heap.size ≠ g := by omega
      obtain ⟨b, hb⟩ : ∃ b, b = (skN l x n).getD n false := ⟨_, rfl⟩
      obtain ⟨s, hs'⟩ : ∃ s, s = (tk l n).star := ⟨_, rfl⟩
      rw [← hb] at o1
      rw [← hs'] at c1
      have HBB := Aside0.mk hb
      have HSS := Aside0.mk hs'
      clear hb hs'
      obtain ⟨o3, o4⟩ := ownT_at hs.out.1 (n + 1) (by rw [hlen.out]; omega)
      have HB0 : Aside0 (∀ o, Below wr.heap.size wr (wr.alloc o)) := ⟨fun o => (Below.refl _ _).alloc (Nat.le_refl _) o⟩
      cases b with
      | false =>
        go_wp2
        go_roundw
        case rel => exact ⟨n + 1, by omega, by go_num, ⟨by rw [skip_step_no HBB.out.symm HSS.out.symm rfl]; exact own_below hs.out.1 (HB0.out _), grown_then hs.out.2 (grown_ofb (HB0.out _))⟩⟩
        case measure => simp [intOf]; omega
      | true =>
        cases s with
        | false =>
          go_wp2
          go_roundw
          case rel => exact ⟨n + 1, by omega, by go_num, ⟨by rw [skip_step_no HBB.out.symm HSS.out.symm rfl]; exact own_below hs.out.1 (HB0.out _), grown_then hs.out.2 (grown_ofb (HB0.out _))⟩⟩
          case measure => simp [intOf]; omega
        | true =>
          go_wp2
          go_roundw
          case rel =>
            refine ⟨n + 1, by omega, by go_num, ⟨?_, ?_⟩⟩
            · rw [skip_step_yes HBB.out.symm HSS.out.symm]
              exact own_below (ownT_set hs.out.1 (n + 1) true).1 ((Below.refl _ _).alloc (Nat.le_refl _) _)
            · exact grown_then (grown_then hs.out.2 (ownT_set hs.out.1 (n + 1) true).2) (grown_ofb ((Below.refl _ _).alloc (Nat.le_refl _) _))
          case measure => simp [intOf]; omega
    · have hnl : n = l.length := by omega
      go_wp2
      go_end0
      exact ⟨rfl, by subst hnl; exact hs.out.1, hs.out.2⟩
end Go.Proofs.YtkalfkgnjmkjgaaDoor
