/-
  No cell of these rows narrows 'for every input' (looked for: loops, veiled, ifaces, maps, wideKeys, modest, calm, conditions, laid).
  DERIVED. THE GIVEN ROWS OF THIS SEAT. 3 by the template 'for every input the law returns true; each argument reads behind the call as it read before'; 0 by the template 'total and deterministic' (their statements: YtbgnffgefpbdpaaTotals.lean).
  GIVEN WITH THE SEED: the statements are not yours to turn. If you find one false, say at which input.
  Laid BY PROGRAM, IN A SANDBOX (cutbox-rows.mjs): the forced cells as the released guide's own fill.sh prints them over the translation 1617c87157956b47… (all of the seat's roots in one cut). By AI agents, Wed Nov 11 2026. No macro, syntax, notation, axiom, sorry.
-/
import Derived.Test.YtbgnffgefpbdpaaChecked
import GoSem.Claim
import GoSem.ClaimJoined
import GoSem.ClaimMapViews
import Derived.JoinedTies
import Derived.KernelRfl
namespace Go.Proofs.Ytbgnffgefpbdpaa
/- THE CELL 'sum', in the pinned program and in every row, IS THE sha256 OF THE DUMP (.gsa) THAT YtbgnffgefpbdpaaProg.lean LOADS. Nothing in Lean hashes anything: it is a label: what it is worth is what the hold of that sum in a sandbox is worth. -/
noncomputable def Try.pinned : Pinned := { name := "ytbgnffgefpbdpaa", sum := "1617c87157956b474265a875c03308d56c66bcf7efcd1e37b912cf768df9b755", checked := Try.checked }
namespace Rows
def none {H : Type} : Left H := { results := [], args := [] }

/-- 'linnetlaw1.DigestSums': WHATEVER THE INPUT: true; the input reads as it did. -/
def digestSumsSpec : ChangeSpec := { name := "digestSums", fn := fun _ => fun
  | [d] => { results := [.lit (.bool true)], args := [d] }
  | _ => none }
def digestSumsRow : OpenClaim := { program := "ytbgnffgefpbdpaa", sum := "1617c87157956b474265a875c03308d56c66bcf7efcd1e37b912cf768df9b755", func := "linnet/linnetlaw1.DigestSums", spec := "digestSums", apart := false }
def DigestSumsSaid : Prop := digestSumsRow.holds Try.pinned (OpenSpec.ofChange digestSumsSpec)

/-- ITS FALSE NEIGHBOUR: 'it returns false'. Refute it at one input. -/
def digestSumsWrong : ChangeSpec := { name := "digestSums", fn := fun _ => fun
  | [d] => { results := [.lit (.bool false)], args := [d] }
  | _ => none }
def DigestSumsWrongFalsely : Prop := digestSumsRow.holds Try.pinned (OpenSpec.ofChange digestSumsWrong)

/-- 'linnetlaw1.DigestGoes': WHATEVER THE INPUT: true; the input reads as it did. -/
def digestGoesSpec : ChangeSpec := { name := "digestGoes", fn := fun _ => fun
  | [d1, d2, d3] => { results := [.lit (.bool true)], args := [d1, d2, d3] }
  | _ => none }
def digestGoesRow : OpenClaim := { program := "ytbgnffgefpbdpaa", sum := "1617c87157956b474265a875c03308d56c66bcf7efcd1e37b912cf768df9b755", func := "linnet/linnetlaw1.DigestGoes", spec := "digestGoes", apart := false }
def DigestGoesSaid : Prop := digestGoesRow.holds Try.pinned (OpenSpec.ofChange digestGoesSpec)

/-- ITS FALSE NEIGHBOUR: 'it returns false'. Refute it at one input. -/
def digestGoesWrong : ChangeSpec := { name := "digestGoes", fn := fun _ => fun
  | [d1, d2, d3] => { results := [.lit (.bool false)], args := [d1, d2, d3] }
  | _ => none }
def DigestGoesWrongFalsely : Prop := digestGoesRow.holds Try.pinned (OpenSpec.ofChange digestGoesWrong)

/-- 'linnetlaw1.DigestEdges': WHATEVER THE INPUT: true; the input reads as it did. -/
def digestEdgesSpec : ChangeSpec := { name := "digestEdges", fn := fun _ => fun
  | [d1, d2, d3] => { results := [.lit (.bool true)], args := [d1, d2, d3] }
  | _ => none }
def digestEdgesRow : OpenClaim := { program := "ytbgnffgefpbdpaa", sum := "1617c87157956b474265a875c03308d56c66bcf7efcd1e37b912cf768df9b755", func := "linnet/linnetlaw1.DigestEdges", spec := "digestEdges", apart := false }
def DigestEdgesSaid : Prop := digestEdgesRow.holds Try.pinned (OpenSpec.ofChange digestEdgesSpec)

/-- ITS FALSE NEIGHBOUR: 'it returns false'. Refute it at one input. -/
def digestEdgesWrong : ChangeSpec := { name := "digestEdges", fn := fun _ => fun
  | [d1, d2, d3] => { results := [.lit (.bool false)], args := [d1, d2, d3] }
  | _ => none }
def DigestEdgesWrongFalsely : Prop := digestEdgesRow.holds Try.pinned (OpenSpec.ofChange digestEdgesWrong)

/- THE SECOND FORM. 'bulk': how many values and letters a reading holds, each counted each time it is reached (what is shared counts as often as it is met; a slice's spare places count too). A statement '..UptoSaid' is the law's where the arguments, and the package variables that the reading takes, are together of bulk at most 1048576: NARROWER than '..Said'. Prove '..Said' where nothing that the law and all that it calls make is longer than what came in: it says more and counts as full. Else prove '..UptoSaid'. A law counts once. -/
mutual
def uptoBulk {H : Type} : DataW H → Nat
  | .lit (.string bytes) => bytes.length + 1
  | .lit _ => 1
  | .nil => 1
  | .ptr d => uptoBulk d + 1
  | .slice elems spare => uptoBulkAll elems + uptoBulkAll spare + 1
  | .agg parts => uptoBulkAll parts + 1
  | .iface _ d => uptoBulk d + 1
  | .map entries => uptoBulkEntries entries + 1
  | .held _ => 1
def uptoBulkAll {H : Type} : List (DataW H) → Nat
  | [] => 0
  | d :: r => uptoBulk d + uptoBulkAll r
def uptoBulkEntries {H : Type} : List (Lit × DataW H) → Nat
  | [] => 0
  | x :: r => uptoBulkEntry x + uptoBulkEntries r
def uptoBulkEntry {H : Type} : Lit × DataW H → Nat
  | (.string bytes, d) => bytes.length + uptoBulk d + 1
  | (_, d) => uptoBulk d + 1
 end
def uptoSmall : (H : Type) → List (DataW H) → Bool := fun _ ds => decide (uptoBulkAll ds ≤ 1048576)
def OpenSpec.upto (s : _root_.Go.ChangeSpec) : _root_.Go.OpenSpec := { _root_.Go.OpenSpec.ofChange s with cond := some uptoSmall }

/-- 'linnetlaw1.DigestSums', WHERE WHAT IT READS IS OF BULK AT MOST 1048576: true; the input reads as it did. -/
def digestSumsUptoRow : OpenClaim := { program := "ytbgnffgefpbdpaa", sum := "1617c87157956b474265a875c03308d56c66bcf7efcd1e37b912cf768df9b755", func := "linnet/linnetlaw1.DigestSums", spec := "digestSums", apart := false, narrowed := true }
def DigestSumsUptoSaid : Prop := digestSumsUptoRow.holds Try.pinned (OpenSpec.upto digestSumsSpec)

/-- 'linnetlaw1.DigestGoes', WHERE WHAT IT READS IS OF BULK AT MOST 1048576: true; the input reads as it did. -/
def digestGoesUptoRow : OpenClaim := { program := "ytbgnffgefpbdpaa", sum := "1617c87157956b474265a875c03308d56c66bcf7efcd1e37b912cf768df9b755", func := "linnet/linnetlaw1.DigestGoes", spec := "digestGoes", apart := false, narrowed := true }
def DigestGoesUptoSaid : Prop := digestGoesUptoRow.holds Try.pinned (OpenSpec.upto digestGoesSpec)

/-- 'linnetlaw1.DigestEdges', WHERE WHAT IT READS IS OF BULK AT MOST 1048576: true; the input reads as it did. -/
def digestEdgesUptoRow : OpenClaim := { program := "ytbgnffgefpbdpaa", sum := "1617c87157956b474265a875c03308d56c66bcf7efcd1e37b912cf768df9b755", func := "linnet/linnetlaw1.DigestEdges", spec := "digestEdges", apart := false, narrowed := true }
def DigestEdgesUptoSaid : Prop := digestEdgesUptoRow.holds Try.pinned (OpenSpec.upto digestEdgesSpec)

end Rows
end Go.Proofs.Ytbgnffgefpbdpaa
