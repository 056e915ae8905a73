/-
  No cell of these rows narrows 'for every input' (looked for: loops, veiled, ifaces, maps, wideKeys, modest, calm, conditions, laid).
  DERIVED. THE GIVEN ROWS OF THIS SEAT. 3 by the template 'for every input the law returns true; each argument reads behind the call as it read before'; 0 by the template 'total and deterministic' (their statements: YthhpimelnaealaaTotals.lean).
  GIVEN WITH THE SEED: the statements are not yours to turn. If you find one false, say at which input.
  Laid BY PROGRAM, IN A SANDBOX (cutbox-rows.mjs): the forced cells as the released guide's own fill.sh prints them over the translation 5278e6f85e0eae50… (all of the seat's roots in one cut). By AI agents, Wed Nov 11 2026. No macro, syntax, notation, axiom, sorry.
-/
import Derived.Test.YthhpimelnaealaaChecked
import GoSem.Claim
import GoSem.ClaimJoined
import GoSem.ClaimMapViews
import Derived.JoinedTies
import Derived.KernelRfl
namespace Go.Proofs.Ythhpimelnaealaa
/- THE CELL 'sum', in the pinned program and in every row, IS THE sha256 OF THE DUMP (.gsa) THAT YthhpimelnaealaaProg.lean LOADS. Nothing in Lean hashes anything: it is a label: what it is worth is what the hold of that sum in a sandbox is worth. -/
noncomputable def Try.pinned : Pinned := { name := "ythhpimelnaealaa", sum := "5278e6f85e0eae50a20baf6036252247bd1c9b15b6269789b9a4457848e37462", checked := Try.checked }
namespace Rows
def none {H : Type} : Left H := { results := [], args := [] }

/-- 'linnetlaw8.ClassifyWords': WHATEVER THE INPUT: true; the input reads as it did. -/
def classifyWordsSpec : ChangeSpec := { name := "classifyWords", fn := fun _ => fun
  | [d1, d2] => { results := [.lit (.bool true)], args := [d1, d2] }
  | _ => none }
def classifyWordsRow : OpenClaim := { program := "ythhpimelnaealaa", sum := "5278e6f85e0eae50a20baf6036252247bd1c9b15b6269789b9a4457848e37462", func := "linnet/linnetlaw8.ClassifyWords", spec := "classifyWords", apart := false }
def ClassifyWordsSaid : Prop := classifyWordsRow.holds Try.pinned (OpenSpec.ofChange classifyWordsSpec)

/-- ITS FALSE NEIGHBOUR: 'it returns false'. Refute it at one input. -/
def classifyWordsWrong : ChangeSpec := { name := "classifyWords", fn := fun _ => fun
  | [d1, d2] => { results := [.lit (.bool false)], args := [d1, d2] }
  | _ => none }
def ClassifyWordsWrongFalsely : Prop := classifyWordsRow.holds Try.pinned (OpenSpec.ofChange classifyWordsWrong)

/-- 'linnetlaw8.ClassifyStamps': WHATEVER THE INPUT: true; the input reads as it did. -/
def classifyStampsSpec : ChangeSpec := { name := "classifyStamps", fn := fun _ => fun
  | [d1, d2, d3, d4, d5, d6] => { results := [.lit (.bool true)], args := [d1, d2, d3, d4, d5, d6] }
  | _ => none }
def classifyStampsRow : OpenClaim := { program := "ythhpimelnaealaa", sum := "5278e6f85e0eae50a20baf6036252247bd1c9b15b6269789b9a4457848e37462", func := "linnet/linnetlaw8.ClassifyStamps", spec := "classifyStamps", apart := false }
def ClassifyStampsSaid : Prop := classifyStampsRow.holds Try.pinned (OpenSpec.ofChange classifyStampsSpec)

/-- ITS FALSE NEIGHBOUR: 'it returns false'. Refute it at one input. -/
def classifyStampsWrong : ChangeSpec := { name := "classifyStamps", fn := fun _ => fun
  | [d1, d2, d3, d4, d5, d6] => { results := [.lit (.bool false)], args := [d1, d2, d3, d4, d5, d6] }
  | _ => none }
def ClassifyStampsWrongFalsely : Prop := classifyStampsRow.holds Try.pinned (OpenSpec.ofChange classifyStampsWrong)

/-- 'linnetlaw8.ClassifyDirs': WHATEVER THE INPUT: true; the input reads as it did. -/
def classifyDirsSpec : ChangeSpec := { name := "classifyDirs", fn := fun _ => fun
  | [d1, d2, d3, d4] => { results := [.lit (.bool true)], args := [d1, d2, d3, d4] }
  | _ => none }
def classifyDirsRow : OpenClaim := { program := "ythhpimelnaealaa", sum := "5278e6f85e0eae50a20baf6036252247bd1c9b15b6269789b9a4457848e37462", func := "linnet/linnetlaw8.ClassifyDirs", spec := "classifyDirs", apart := false }
def ClassifyDirsSaid : Prop := classifyDirsRow.holds Try.pinned (OpenSpec.ofChange classifyDirsSpec)

/-- ITS FALSE NEIGHBOUR: 'it returns false'. Refute it at one input. -/
def classifyDirsWrong : ChangeSpec := { name := "classifyDirs", fn := fun _ => fun
  | [d1, d2, d3, d4] => { results := [.lit (.bool false)], args := [d1, d2, d3, d4] }
  | _ => none }
def ClassifyDirsWrongFalsely : Prop := classifyDirsRow.holds Try.pinned (OpenSpec.ofChange classifyDirsWrong)

/- THE SECOND FORM. 'bulk': how many values and letters a reading holds, each counted each time it is reached (what is shared counts as often as it is met; a slice's spare places count too). A statement '..UptoSaid' is the law's where the arguments, and the package variables that the reading takes, are together of bulk at most 1048576: NARROWER than '..Said'. Prove '..Said' where nothing that the law and all that it calls make is longer than what came in: it says more and counts as full. Else prove '..UptoSaid'. A law counts once. -/
mutual
def uptoBulk {H : Type} : DataW H → Nat
  | .lit (.string bytes) => bytes.length + 1
  | .lit _ => 1
  | .nil => 1
  | .ptr d => uptoBulk d + 1
  | .slice elems spare => uptoBulkAll elems + uptoBulkAll spare + 1
  | .agg parts => uptoBulkAll parts + 1
  | .iface _ d => uptoBulk d + 1
  | .map entries => uptoBulkEntries entries + 1
  | .held _ => 1
def uptoBulkAll {H : Type} : List (DataW H) → Nat
  | [] => 0
  | d :: r => uptoBulk d + uptoBulkAll r
def uptoBulkEntries {H : Type} : List (Lit × DataW H) → Nat
  | [] => 0
  | x :: r => uptoBulkEntry x + uptoBulkEntries r
def uptoBulkEntry {H : Type} : Lit × DataW H → Nat
  | (.string bytes, d) => bytes.length + uptoBulk d + 1
  | (_, d) => uptoBulk d + 1
 end
def uptoSmall : (H : Type) → List (DataW H) → Bool := fun _ ds => decide (uptoBulkAll ds ≤ 1048576)
def OpenSpec.upto (s : _root_.Go.ChangeSpec) : _root_.Go.OpenSpec := { _root_.Go.OpenSpec.ofChange s with cond := some uptoSmall }

/-- 'linnetlaw8.ClassifyWords', WHERE WHAT IT READS IS OF BULK AT MOST 1048576: true; the input reads as it did. -/
def classifyWordsUptoRow : OpenClaim := { program := "ythhpimelnaealaa", sum := "5278e6f85e0eae50a20baf6036252247bd1c9b15b6269789b9a4457848e37462", func := "linnet/linnetlaw8.ClassifyWords", spec := "classifyWords", apart := false, narrowed := true }
def ClassifyWordsUptoSaid : Prop := classifyWordsUptoRow.holds Try.pinned (OpenSpec.upto classifyWordsSpec)

/-- 'linnetlaw8.ClassifyStamps', WHERE WHAT IT READS IS OF BULK AT MOST 1048576: true; the input reads as it did. -/
def classifyStampsUptoRow : OpenClaim := { program := "ythhpimelnaealaa", sum := "5278e6f85e0eae50a20baf6036252247bd1c9b15b6269789b9a4457848e37462", func := "linnet/linnetlaw8.ClassifyStamps", spec := "classifyStamps", apart := false, narrowed := true }
def ClassifyStampsUptoSaid : Prop := classifyStampsUptoRow.holds Try.pinned (OpenSpec.upto classifyStampsSpec)

/-- 'linnetlaw8.ClassifyDirs', WHERE WHAT IT READS IS OF BULK AT MOST 1048576: true; the input reads as it did. -/
def classifyDirsUptoRow : OpenClaim := { program := "ythhpimelnaealaa", sum := "5278e6f85e0eae50a20baf6036252247bd1c9b15b6269789b9a4457848e37462", func := "linnet/linnetlaw8.ClassifyDirs", spec := "classifyDirs", apart := false, narrowed := true }
def ClassifyDirsUptoSaid : Prop := classifyDirsUptoRow.holds Try.pinned (OpenSpec.upto classifyDirsSpec)

end Rows
end Go.Proofs.Ythhpimelnaealaa
