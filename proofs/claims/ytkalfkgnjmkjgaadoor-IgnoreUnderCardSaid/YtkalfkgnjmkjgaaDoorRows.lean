/-
  NARROWER THAN 'FOR EVERY INPUT', by the rows' own cells (each row's printed sentence says how): IgnoreMatches: laid · IgnoreLast: laid · IgnoreStars: laid · IgnoreRules: laid · IgnoreUnder: laid.
  DERIVED. THE GIVEN ROWS OF THIS SEAT. 5 by the template 'for every input the law returns true; each argument reads behind the call as it read before'; 0 by the template 'total and deterministic' (their statements: YtkalfkgnjmkjgaaDoorTotals.lean).
  GIVEN WITH THE SEED: the statements are not yours to turn. If you find one false, say at which input.
  Laid BY PROGRAM, IN A SANDBOX (cutbox-rows.mjs): the forced cells as the released guide's own fill.sh prints them over the translation 7eacc86c5c31ec6f… (all of the seat's roots in one cut). By AI agents, Wed Nov 11 2026. No macro, syntax, notation, axiom, sorry.
-/
import Derived.Test.YtkalfkgnjmkjgaaDoorChecked
import GoSem.PinnedTables
import GoSem.Claim
import GoSem.ClaimJoined
import GoSem.ClaimMapViews
import Derived.JoinedTies
import Derived.KernelRfl
namespace Go.Proofs.YtkalfkgnjmkjgaaDoor
/- THE CELL 'sum', in the pinned program and in every row, IS THE sha256 OF THE DUMP (.gsa) THAT YtkalfkgnjmkjgaaDoorProg.lean LOADS. Nothing in Lean hashes anything: it is a label: what it is worth is what the hold of that sum in a sandbox is worth. -/
noncomputable def Tryd.pinned : Pinned := { name := "ytkalfkgnjmkjgaadoor", sum := "7eacc86c5c31ec6f55d5566cec8f49a27dc292aa7213a46cc34b01e6746ecda5", checked := Tryd.checked }
namespace Rows
def none {H : Type} : Left H := { results := [], args := [] }

/- WHAT THE LISTED PACKAGE-LEVEL VARIABLES READ AS WHEN THE CALL BEGINS. Each datum BY PROGRAM (the guide's laid-datum.mjs) off the statement by which the dump's own 'gosem.cut.vars' lays the variable. In a bare row this is a premise. The card (YtkalfkgnjmkjgaaDoorCards.lean) ties it to the program's text. -/
def laid_unicode_utf8_acceptRanges {H : Type} : DataW H := .agg [.agg [.lit (.int .u8 128), .lit (.int .u8 191)], .agg [.lit (.int .u8 160), .lit (.int .u8 191)], .agg [.lit (.int .u8 128), .lit (.int .u8 159)], .agg [.lit (.int .u8 144), .lit (.int .u8 191)], .agg [.lit (.int .u8 128), .lit (.int .u8 143)], .agg [.lit (.int .u8 0), .lit (.int .u8 0)], .agg [.lit (.int .u8 0), .lit (.int .u8 0)], .agg [.lit (.int .u8 0), .lit (.int .u8 0)], .agg [.lit (.int .u8 0), .lit (.int .u8 0)], .agg [.lit (.int .u8 0), .lit (.int .u8 0)], .agg [.lit (.int .u8 0), .lit (.int .u8 0)], .agg [.lit (.int .u8 0), .lit (.int .u8 0)], .agg [.lit (.int .u8 0), .lit (.int .u8 0)], .agg [.lit (.int .u8 0), .lit (.int .u8 0)], .agg [.lit (.int .u8 0), .lit (.int .u8 0)], .agg [.lit (.int .u8 0), .lit (.int .u8 0)]]
/-- One of Go's own tables, pinned by name: the form's constant. -/
def laid_unicode_utf8_first : DataW Unit := Go.Pinned.utf8First

/-- 'linnetlaw12.IgnoreMatches': WHATEVER THE INPUT: true; the input reads as it did. -/
def ignoreMatchesSpec : ChangeSpec := { name := "ignoreMatches", fn := fun _ => fun
  | [d1, d2] => { results := [.lit (.bool true)], args := [d1, d2] }
  | _ => none }
def ignoreMatchesRow : OpenClaim := { program := "ytkalfkgnjmkjgaadoor", sum := "7eacc86c5c31ec6f55d5566cec8f49a27dc292aa7213a46cc34b01e6746ecda5", func := "linnet/linnetlaw12.IgnoreMatches", spec := "ignoreMatches", inPlace := ["internal/bytealg.IndexByteString", "internal/bytealg.IndexString", "internal/bytealg.CountString"], unfollowed := true, recurses := true, named := ["internal/bytealg.MaxLen", "unicode/utf8.first", "unicode/utf8.acceptRanges"], apart := false, laid := [("unicode/utf8.acceptRanges", laid_unicode_utf8_acceptRanges), ("unicode/utf8.first", laid_unicode_utf8_first)] }
def IgnoreMatchesSaid : Prop := ignoreMatchesRow.holds Tryd.pinned (OpenSpec.ofChange ignoreMatchesSpec)

/-- ITS FALSE NEIGHBOUR: 'it returns false'. Refute it at one input. -/
def ignoreMatchesWrong : ChangeSpec := { name := "ignoreMatches", fn := fun _ => fun
  | [d1, d2] => { results := [.lit (.bool false)], args := [d1, d2] }
  | _ => none }
def IgnoreMatchesWrongFalsely : Prop := ignoreMatchesRow.holds Tryd.pinned (OpenSpec.ofChange ignoreMatchesWrong)

/-- 'linnetlaw12.IgnoreLast': WHATEVER THE INPUT: true; the input reads as it did. -/
def ignoreLastSpec : ChangeSpec := { name := "ignoreLast", fn := fun _ => fun
  | [d1, d2, d3, d4] => { results := [.lit (.bool true)], args := [d1, d2, d3, d4] }
  | _ => none }
def ignoreLastRow : OpenClaim := { program := "ytkalfkgnjmkjgaadoor", sum := "7eacc86c5c31ec6f55d5566cec8f49a27dc292aa7213a46cc34b01e6746ecda5", func := "linnet/linnetlaw12.IgnoreLast", spec := "ignoreLast", inPlace := ["internal/bytealg.IndexByteString", "internal/bytealg.IndexString", "internal/bytealg.CountString"], unfollowed := true, recurses := true, named := ["internal/bytealg.MaxLen", "unicode/utf8.first", "unicode/utf8.acceptRanges"], apart := false, laid := [("unicode/utf8.acceptRanges", laid_unicode_utf8_acceptRanges), ("unicode/utf8.first", laid_unicode_utf8_first)] }
def IgnoreLastSaid : Prop := ignoreLastRow.holds Tryd.pinned (OpenSpec.ofChange ignoreLastSpec)

/-- ITS FALSE NEIGHBOUR: 'it returns false'. Refute it at one input. -/
def ignoreLastWrong : ChangeSpec := { name := "ignoreLast", fn := fun _ => fun
  | [d1, d2, d3, d4] => { results := [.lit (.bool false)], args := [d1, d2, d3, d4] }
  | _ => none }
def IgnoreLastWrongFalsely : Prop := ignoreLastRow.holds Tryd.pinned (OpenSpec.ofChange ignoreLastWrong)

/-- 'linnetlaw12.IgnoreStars': WHATEVER THE INPUT: true; the input reads as it did. -/
def ignoreStarsSpec : ChangeSpec := { name := "ignoreStars", fn := fun _ => fun
  | [d1, d2, d3] => { results := [.lit (.bool true)], args := [d1, d2, d3] }
  | _ => none }
def ignoreStarsRow : OpenClaim := { program := "ytkalfkgnjmkjgaadoor", sum := "7eacc86c5c31ec6f55d5566cec8f49a27dc292aa7213a46cc34b01e6746ecda5", func := "linnet/linnetlaw12.IgnoreStars", spec := "ignoreStars", inPlace := ["internal/bytealg.IndexByteString", "internal/bytealg.IndexString", "internal/bytealg.CountString"], unfollowed := true, recurses := true, named := ["internal/bytealg.MaxLen", "unicode/utf8.first", "unicode/utf8.acceptRanges"], apart := false, laid := [("unicode/utf8.acceptRanges", laid_unicode_utf8_acceptRanges), ("unicode/utf8.first", laid_unicode_utf8_first)] }
def IgnoreStarsSaid : Prop := ignoreStarsRow.holds Tryd.pinned (OpenSpec.ofChange ignoreStarsSpec)

/-- ITS FALSE NEIGHBOUR: 'it returns false'. Refute it at one input. -/
def ignoreStarsWrong : ChangeSpec := { name := "ignoreStars", fn := fun _ => fun
  | [d1, d2, d3] => { results := [.lit (.bool false)], args := [d1, d2, d3] }
  | _ => none }
def IgnoreStarsWrongFalsely : Prop := ignoreStarsRow.holds Tryd.pinned (OpenSpec.ofChange ignoreStarsWrong)

/-- 'linnetlaw12.IgnoreRules': WHATEVER THE INPUT: true; the input reads as it did. -/
def ignoreRulesSpec : ChangeSpec := { name := "ignoreRules", fn := fun _ => fun
  | [d1, d2, d3] => { results := [.lit (.bool true)], args := [d1, d2, d3] }
  | _ => none }
def ignoreRulesRow : OpenClaim := { program := "ytkalfkgnjmkjgaadoor", sum := "7eacc86c5c31ec6f55d5566cec8f49a27dc292aa7213a46cc34b01e6746ecda5", func := "linnet/linnetlaw12.IgnoreRules", spec := "ignoreRules", inPlace := ["internal/bytealg.IndexByteString", "internal/bytealg.IndexString", "internal/bytealg.CountString"], unfollowed := true, recurses := true, named := ["internal/bytealg.MaxLen", "unicode/utf8.first", "unicode/utf8.acceptRanges"], apart := false, laid := [("unicode/utf8.acceptRanges", laid_unicode_utf8_acceptRanges), ("unicode/utf8.first", laid_unicode_utf8_first)] }
def IgnoreRulesSaid : Prop := ignoreRulesRow.holds Tryd.pinned (OpenSpec.ofChange ignoreRulesSpec)

/-- ITS FALSE NEIGHBOUR: 'it returns false'. Refute it at one input. -/
def ignoreRulesWrong : ChangeSpec := { name := "ignoreRules", fn := fun _ => fun
  | [d1, d2, d3] => { results := [.lit (.bool false)], args := [d1, d2, d3] }
  | _ => none }
def IgnoreRulesWrongFalsely : Prop := ignoreRulesRow.holds Tryd.pinned (OpenSpec.ofChange ignoreRulesWrong)

/-- 'linnetlaw12.IgnoreUnder': WHATEVER THE INPUT: true; the input reads as it did. -/
def ignoreUnderSpec : ChangeSpec := { name := "ignoreUnder", fn := fun _ => fun
  | [d1, d2, d3, d4] => { results := [.lit (.bool true)], args := [d1, d2, d3, d4] }
  | _ => none }
def ignoreUnderRow : OpenClaim := { program := "ytkalfkgnjmkjgaadoor", sum := "7eacc86c5c31ec6f55d5566cec8f49a27dc292aa7213a46cc34b01e6746ecda5", func := "linnet/linnetlaw12.IgnoreUnder", spec := "ignoreUnder", inPlace := ["internal/bytealg.IndexByteString", "internal/bytealg.IndexString", "internal/bytealg.CountString"], unfollowed := true, recurses := true, named := ["internal/bytealg.MaxLen", "unicode/utf8.first", "unicode/utf8.acceptRanges"], apart := false, laid := [("unicode/utf8.acceptRanges", laid_unicode_utf8_acceptRanges), ("unicode/utf8.first", laid_unicode_utf8_first)] }
def IgnoreUnderSaid : Prop := ignoreUnderRow.holds Tryd.pinned (OpenSpec.ofChange ignoreUnderSpec)

/-- ITS FALSE NEIGHBOUR: 'it returns false'. Refute it at one input. -/
def ignoreUnderWrong : ChangeSpec := { name := "ignoreUnder", fn := fun _ => fun
  | [d1, d2, d3, d4] => { results := [.lit (.bool false)], args := [d1, d2, d3, d4] }
  | _ => none }
def IgnoreUnderWrongFalsely : Prop := ignoreUnderRow.holds Tryd.pinned (OpenSpec.ofChange ignoreUnderWrong)

/- THE SECOND FORM. 'bulk': how many values and letters a reading holds, each counted each time it is reached (what is shared counts as often as it is met; a slice's spare places count too). A statement '..UptoSaid' is the law's where the arguments, and the package variables that the reading takes, are together of bulk at most 1048576: NARROWER than '..Said'. Prove '..Said' where nothing that the law and all that it calls make is longer than what came in: it says more and counts as full. Else prove '..UptoSaid'. A law counts once. -/
mutual
def uptoBulk {H : Type} : DataW H → Nat
  | .lit (.string bytes) => bytes.length + 1
  | .lit _ => 1
  | .nil => 1
  | .ptr d => uptoBulk d + 1
  | .slice elems spare => uptoBulkAll elems + uptoBulkAll spare + 1
  | .agg parts => uptoBulkAll parts + 1
  | .iface _ d => uptoBulk d + 1
  | .map entries => uptoBulkEntries entries + 1
  | .held _ => 1
def uptoBulkAll {H : Type} : List (DataW H) → Nat
  | [] => 0
  | d :: r => uptoBulk d + uptoBulkAll r
def uptoBulkEntries {H : Type} : List (Lit × DataW H) → Nat
  | [] => 0
  | x :: r => uptoBulkEntry x + uptoBulkEntries r
def uptoBulkEntry {H : Type} : Lit × DataW H → Nat
  | (.string bytes, d) => bytes.length + uptoBulk d + 1
  | (_, d) => uptoBulk d + 1
 end
def uptoSmall : (H : Type) → List (DataW H) → Bool := fun _ ds => decide (uptoBulkAll ds ≤ 1048576)
def OpenSpec.upto (s : _root_.Go.ChangeSpec) : _root_.Go.OpenSpec := { _root_.Go.OpenSpec.ofChange s with cond := some uptoSmall }

/-- 'linnetlaw12.IgnoreMatches', WHERE WHAT IT READS IS OF BULK AT MOST 1048576: true; the input reads as it did. -/
def ignoreMatchesUptoRow : OpenClaim := { program := "ytkalfkgnjmkjgaadoor", sum := "7eacc86c5c31ec6f55d5566cec8f49a27dc292aa7213a46cc34b01e6746ecda5", func := "linnet/linnetlaw12.IgnoreMatches", spec := "ignoreMatches", inPlace := ["internal/bytealg.IndexByteString", "internal/bytealg.IndexString", "internal/bytealg.CountString"], unfollowed := true, recurses := true, named := ["internal/bytealg.MaxLen", "unicode/utf8.first", "unicode/utf8.acceptRanges"], apart := false, laid := [("unicode/utf8.acceptRanges", laid_unicode_utf8_acceptRanges), ("unicode/utf8.first", laid_unicode_utf8_first)], narrowed := true }
def IgnoreMatchesUptoSaid : Prop := ignoreMatchesUptoRow.holds Tryd.pinned (OpenSpec.upto ignoreMatchesSpec)

/-- 'linnetlaw12.IgnoreLast', WHERE WHAT IT READS IS OF BULK AT MOST 1048576: true; the input reads as it did. -/
def ignoreLastUptoRow : OpenClaim := { program := "ytkalfkgnjmkjgaadoor", sum := "7eacc86c5c31ec6f55d5566cec8f49a27dc292aa7213a46cc34b01e6746ecda5", func := "linnet/linnetlaw12.IgnoreLast", spec := "ignoreLast", inPlace := ["internal/bytealg.IndexByteString", "internal/bytealg.IndexString", "internal/bytealg.CountString"], unfollowed := true, recurses := true, named := ["internal/bytealg.MaxLen", "unicode/utf8.first", "unicode/utf8.acceptRanges"], apart := false, laid := [("unicode/utf8.acceptRanges", laid_unicode_utf8_acceptRanges), ("unicode/utf8.first", laid_unicode_utf8_first)], narrowed := true }
def IgnoreLastUptoSaid : Prop := ignoreLastUptoRow.holds Tryd.pinned (OpenSpec.upto ignoreLastSpec)

/-- 'linnetlaw12.IgnoreStars', WHERE WHAT IT READS IS OF BULK AT MOST 1048576: true; the input reads as it did. -/
def ignoreStarsUptoRow : OpenClaim := { program := "ytkalfkgnjmkjgaadoor", sum := "7eacc86c5c31ec6f55d5566cec8f49a27dc292aa7213a46cc34b01e6746ecda5", func := "linnet/linnetlaw12.IgnoreStars", spec := "ignoreStars", inPlace := ["internal/bytealg.IndexByteString", "internal/bytealg.IndexString", "internal/bytealg.CountString"], unfollowed := true, recurses := true, named := ["internal/bytealg.MaxLen", "unicode/utf8.first", "unicode/utf8.acceptRanges"], apart := false, laid := [("unicode/utf8.acceptRanges", laid_unicode_utf8_acceptRanges), ("unicode/utf8.first", laid_unicode_utf8_first)], narrowed := true }
def IgnoreStarsUptoSaid : Prop := ignoreStarsUptoRow.holds Tryd.pinned (OpenSpec.upto ignoreStarsSpec)

/-- 'linnetlaw12.IgnoreRules', WHERE WHAT IT READS IS OF BULK AT MOST 1048576: true; the input reads as it did. -/
def ignoreRulesUptoRow : OpenClaim := { program := "ytkalfkgnjmkjgaadoor", sum := "7eacc86c5c31ec6f55d5566cec8f49a27dc292aa7213a46cc34b01e6746ecda5", func := "linnet/linnetlaw12.IgnoreRules", spec := "ignoreRules", inPlace := ["internal/bytealg.IndexByteString", "internal/bytealg.IndexString", "internal/bytealg.CountString"], unfollowed := true, recurses := true, named := ["internal/bytealg.MaxLen", "unicode/utf8.first", "unicode/utf8.acceptRanges"], apart := false, laid := [("unicode/utf8.acceptRanges", laid_unicode_utf8_acceptRanges), ("unicode/utf8.first", laid_unicode_utf8_first)], narrowed := true }
def IgnoreRulesUptoSaid : Prop := ignoreRulesUptoRow.holds Tryd.pinned (OpenSpec.upto ignoreRulesSpec)

/-- 'linnetlaw12.IgnoreUnder', WHERE WHAT IT READS IS OF BULK AT MOST 1048576: true; the input reads as it did. -/
def ignoreUnderUptoRow : OpenClaim := { program := "ytkalfkgnjmkjgaadoor", sum := "7eacc86c5c31ec6f55d5566cec8f49a27dc292aa7213a46cc34b01e6746ecda5", func := "linnet/linnetlaw12.IgnoreUnder", spec := "ignoreUnder", inPlace := ["internal/bytealg.IndexByteString", "internal/bytealg.IndexString", "internal/bytealg.CountString"], unfollowed := true, recurses := true, named := ["internal/bytealg.MaxLen", "unicode/utf8.first", "unicode/utf8.acceptRanges"], apart := false, laid := [("unicode/utf8.acceptRanges", laid_unicode_utf8_acceptRanges), ("unicode/utf8.first", laid_unicode_utf8_first)], narrowed := true }
def IgnoreUnderUptoSaid : Prop := ignoreUnderUptoRow.holds Tryd.pinned (OpenSpec.upto ignoreUnderSpec)

end Rows
end Go.Proofs.YtkalfkgnjmkjgaaDoor
