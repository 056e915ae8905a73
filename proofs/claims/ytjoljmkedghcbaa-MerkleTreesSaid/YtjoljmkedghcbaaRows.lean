/-
  No cell of these rows narrows 'for every input' (looked for: loops, veiled, ifaces, maps, wideKeys, modest, calm, conditions, laid).
  DERIVED. THE GIVEN ROWS OF THIS SEAT. 3 by the template 'for every input the law returns true; each argument reads behind the call as it read before'; 0 by the template 'total and deterministic' (their statements: YtjoljmkedghcbaaTotals.lean).
  GIVEN WITH THE SEED: the statements are not yours to turn. If you find one false, say at which input.
  Laid BY PROGRAM, IN A SANDBOX (cutbox-rows.mjs): the forced cells as the released guide's own fill.sh prints them over the translation 63e06ce296f519f4… (all of the seat's roots in one cut). By AI agents, Wed Nov 11 2026. No macro, syntax, notation, axiom, sorry.
-/
import Derived.Test.YtjoljmkedghcbaaChecked
import GoSem.Claim
import GoSem.ClaimJoined
import GoSem.ClaimMapViews
import Derived.JoinedTies
import Derived.KernelRfl
namespace Go.Proofs.Ytjoljmkedghcbaa
/- THE CELL 'sum', in the pinned program and in every row, IS THE sha256 OF THE DUMP (.gsa) THAT YtjoljmkedghcbaaProg.lean LOADS. Nothing in Lean hashes anything: it is a label: what it is worth is what the hold of that sum in a sandbox is worth. -/
noncomputable def Try.pinned : Pinned := { name := "ytjoljmkedghcbaa", sum := "63e06ce296f519f45c75550cc8c52a5759c0e40bc8dbba4435968ce8685add7c", checked := Try.checked }
namespace Rows
def none {H : Type} : Left H := { results := [], args := [] }

/-- 'linnetlaw2.MerkleAsks': WHATEVER THE INPUT: true; the input reads as it did. -/
def merkleAsksSpec : ChangeSpec := { name := "merkleAsks", fn := fun _ => fun
  | [d1, d2, d3, d4] => { results := [.lit (.bool true)], args := [d1, d2, d3, d4] }
  | _ => none }
def merkleAsksRow : OpenClaim := { program := "ytjoljmkedghcbaa", sum := "63e06ce296f519f45c75550cc8c52a5759c0e40bc8dbba4435968ce8685add7c", func := "linnet/linnetlaw2.MerkleAsks", spec := "merkleAsks", apart := false }
def MerkleAsksSaid : Prop := merkleAsksRow.holds Try.pinned (OpenSpec.ofChange merkleAsksSpec)

/-- ITS FALSE NEIGHBOUR: 'it returns false'. Refute it at one input. -/
def merkleAsksWrong : ChangeSpec := { name := "merkleAsks", fn := fun _ => fun
  | [d1, d2, d3, d4] => { results := [.lit (.bool false)], args := [d1, d2, d3, d4] }
  | _ => none }
def MerkleAsksWrongFalsely : Prop := merkleAsksRow.holds Try.pinned (OpenSpec.ofChange merkleAsksWrong)

/-- 'linnetlaw2.MerkleLevels': WHATEVER THE INPUT: true; the input reads as it did. -/
def merkleLevelsSpec : ChangeSpec := { name := "merkleLevels", fn := fun _ => fun
  | [d1, d2, d3] => { results := [.lit (.bool true)], args := [d1, d2, d3] }
  | _ => none }
def merkleLevelsRow : OpenClaim := { program := "ytjoljmkedghcbaa", sum := "63e06ce296f519f45c75550cc8c52a5759c0e40bc8dbba4435968ce8685add7c", func := "linnet/linnetlaw2.MerkleLevels", spec := "merkleLevels", apart := false }
def MerkleLevelsSaid : Prop := merkleLevelsRow.holds Try.pinned (OpenSpec.ofChange merkleLevelsSpec)

/-- ITS FALSE NEIGHBOUR: 'it returns false'. Refute it at one input. -/
def merkleLevelsWrong : ChangeSpec := { name := "merkleLevels", fn := fun _ => fun
  | [d1, d2, d3] => { results := [.lit (.bool false)], args := [d1, d2, d3] }
  | _ => none }
def MerkleLevelsWrongFalsely : Prop := merkleLevelsRow.holds Try.pinned (OpenSpec.ofChange merkleLevelsWrong)

/-- 'linnetlaw2.MerkleTrees': WHATEVER THE INPUT: true; the input reads as it did. -/
def merkleTreesSpec : ChangeSpec := { name := "merkleTrees", fn := fun _ => fun
  | [d1, d2, d3, d4, d5, d6] => { results := [.lit (.bool true)], args := [d1, d2, d3, d4, d5, d6] }
  | _ => none }
def merkleTreesRow : OpenClaim := { program := "ytjoljmkedghcbaa", sum := "63e06ce296f519f45c75550cc8c52a5759c0e40bc8dbba4435968ce8685add7c", func := "linnet/linnetlaw2.MerkleTrees", spec := "merkleTrees", apart := false }
def MerkleTreesSaid : Prop := merkleTreesRow.holds Try.pinned (OpenSpec.ofChange merkleTreesSpec)

/-- ITS FALSE NEIGHBOUR: 'it returns false'. Refute it at one input. -/
def merkleTreesWrong : ChangeSpec := { name := "merkleTrees", fn := fun _ => fun
  | [d1, d2, d3, d4, d5, d6] => { results := [.lit (.bool false)], args := [d1, d2, d3, d4, d5, d6] }
  | _ => none }
def MerkleTreesWrongFalsely : Prop := merkleTreesRow.holds Try.pinned (OpenSpec.ofChange merkleTreesWrong)

/- THE SECOND FORM. 'bulk': how many values and letters a reading holds, each counted each time it is reached (what is shared counts as often as it is met; a slice's spare places count too). A statement '..UptoSaid' is the law's where the arguments, and the package variables that the reading takes, are together of bulk at most 1048576: NARROWER than '..Said'. Prove '..Said' where nothing that the law and all that it calls make is longer than what came in: it says more and counts as full. Else prove '..UptoSaid'. A law counts once. -/
mutual
def uptoBulk {H : Type} : DataW H → Nat
  | .lit (.string bytes) => bytes.length + 1
  | .lit _ => 1
  | .nil => 1
  | .ptr d => uptoBulk d + 1
  | .slice elems spare => uptoBulkAll elems + uptoBulkAll spare + 1
  | .agg parts => uptoBulkAll parts + 1
  | .iface _ d => uptoBulk d + 1
  | .map entries => uptoBulkEntries entries + 1
  | .held _ => 1
def uptoBulkAll {H : Type} : List (DataW H) → Nat
  | [] => 0
  | d :: r => uptoBulk d + uptoBulkAll r
def uptoBulkEntries {H : Type} : List (Lit × DataW H) → Nat
  | [] => 0
  | x :: r => uptoBulkEntry x + uptoBulkEntries r
def uptoBulkEntry {H : Type} : Lit × DataW H → Nat
  | (.string bytes, d) => bytes.length + uptoBulk d + 1
  | (_, d) => uptoBulk d + 1
 end
def uptoSmall : (H : Type) → List (DataW H) → Bool := fun _ ds => decide (uptoBulkAll ds ≤ 1048576)
def OpenSpec.upto (s : _root_.Go.ChangeSpec) : _root_.Go.OpenSpec := { _root_.Go.OpenSpec.ofChange s with cond := some uptoSmall }

/-- 'linnetlaw2.MerkleAsks', WHERE WHAT IT READS IS OF BULK AT MOST 1048576: true; the input reads as it did. -/
def merkleAsksUptoRow : OpenClaim := { program := "ytjoljmkedghcbaa", sum := "63e06ce296f519f45c75550cc8c52a5759c0e40bc8dbba4435968ce8685add7c", func := "linnet/linnetlaw2.MerkleAsks", spec := "merkleAsks", apart := false, narrowed := true }
def MerkleAsksUptoSaid : Prop := merkleAsksUptoRow.holds Try.pinned (OpenSpec.upto merkleAsksSpec)

/-- 'linnetlaw2.MerkleLevels', WHERE WHAT IT READS IS OF BULK AT MOST 1048576: true; the input reads as it did. -/
def merkleLevelsUptoRow : OpenClaim := { program := "ytjoljmkedghcbaa", sum := "63e06ce296f519f45c75550cc8c52a5759c0e40bc8dbba4435968ce8685add7c", func := "linnet/linnetlaw2.MerkleLevels", spec := "merkleLevels", apart := false, narrowed := true }
def MerkleLevelsUptoSaid : Prop := merkleLevelsUptoRow.holds Try.pinned (OpenSpec.upto merkleLevelsSpec)

/-- 'linnetlaw2.MerkleTrees', WHERE WHAT IT READS IS OF BULK AT MOST 1048576: true; the input reads as it did. -/
def merkleTreesUptoRow : OpenClaim := { program := "ytjoljmkedghcbaa", sum := "63e06ce296f519f45c75550cc8c52a5759c0e40bc8dbba4435968ce8685add7c", func := "linnet/linnetlaw2.MerkleTrees", spec := "merkleTrees", apart := false, narrowed := true }
def MerkleTreesUptoSaid : Prop := merkleTreesUptoRow.holds Try.pinned (OpenSpec.upto merkleTreesSpec)

end Rows
end Go.Proofs.Ytjoljmkedghcbaa
