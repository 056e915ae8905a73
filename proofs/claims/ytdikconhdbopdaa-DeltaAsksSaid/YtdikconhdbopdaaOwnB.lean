/-
  Bytes of the call's own. No condition.
-/
import Derived.Test.YtdikconhdbopdaaProg
import Derived.Test.YtdikconhdbopdaaParityPure
import Derived.RegionTactic
import Derived.ChangeAlike
namespace Go.Proofs.Ytdikconhdbopdaa
open Go.RowKit
set_option linter.unusedVariables false
set_option linter.unusedSimpArgs false

/-- A row of bytes of the call's own. -/
def OwnB (w : World) (base : Nat) (v : Value) (x : List UInt8) : Prop := w.ownsRow base 5 1 v x.length (x.map bv)

theorem own_at {w : World} {base g n cap : Nat} {x : List UInt8} (h : OwnB w base (.slice (some ⟨g, 0, none⟩) n cap) x) (k : Nat) (hk : k < x.length) :
    w.cell? ⟨g, k, none⟩ = some (.int .u8 ((x.getD k 0).toNat : Int)) ∧ w.frozen? ⟨g, k, none⟩ = false := by
  constructor
  · have hc := World.ownsRow.cells h (g := g) rfl k (bv (x.getD k 0)) (by simp [List.getElem?_eq_getElem hk])
    have ha : (⟨g, 0, none⟩ : Addr).add k = ⟨g, k, none⟩ := by unfold Addr.add; split <;> simp_all
    rwa [ha] at hc
  · rcases h.2 with ⟨h', _⟩ | ⟨g', cap', cur, h', _, hh, _⟩
    · cases h'
    · cases h'; simp [World.frozen?, hh]
theorem own_set {w : World} {base g n cap : Nat} {x : List UInt8} (h : OwnB w base (.slice (some ⟨g, 0, none⟩) n cap) x) (k : Nat) (y : UInt8) :
    OwnB (w.setCell ⟨g, k, none⟩ (.int .u8 (y.toNat : Int))) base (.slice (some ⟨g, 0, none⟩) n cap) (x.set k y) ∧ w.grownBy (w.setCell ⟨g, k, none⟩ (.int .u8 (y.toNat : Int))) (some g) := by
  have hn : n = x.length := by
    rcases h.2 with ⟨h', _⟩ | ⟨g', cap', cur, h', _⟩
    · cases h'
    · cases h'; rfl
  subst hn
  have hs := World.ownsRow.stored h k (.int .u8 (y.toNat : Int))
  have he : (x.map bv).set k (.int .u8 (y.toNat : Int)) = (x.set k y).map bv := by rw [List.map_set]; rfl
  unfold OwnB
  rw [List.length_set, ← he]
  exact hs
theorem grownBy_then {a b c : World} {row : Option Nat} (h : a.grownBy b row) (k : b.grownBy c row) : a.grownBy c row :=
  ⟨k.os.trans h.os, k.tape.trans h.tape, k.output.trans h.output, Nat.le_trans h.size k.size, fun i hi hr => (k.block i (Nat.lt_of_lt_of_le hi h.size) hr).trans (h.block i hi hr)⟩

theorem grownBy_drew {a b : World} {row : Option Nat} (h : a.grownBy b row) : a.grownBy b.drew row := ⟨h.os, h.tape, h.output, h.size, h.block⟩

theorem made_bytes (m : Nat) : (madeCells #[Value.int .u8 0] m).toList = (List.replicate m (0 : UInt8)).map bv := by
  apply List.ext_getElem
  · simp [madeCells]
  · intro i h1 h2
    simp [madeCells, Nat.mod_one, bv]
end Go.Proofs.Ytdikconhdbopdaa
