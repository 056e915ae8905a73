/-
  DERIVED. GIVEN WITH THE SEED: THE CARDS: each row of YtkalfkgnjmkjgaaDoorRows.lean that lists a variable, with what it lists TIED to the program's text (the seventh form; the later family's looks); each row that meets fmt, with fmt's text TOLD by the authors' own Lean function (tested against real Go, not proved from fmt's source: count such statements apart). THE CARD IS WHAT COUNTS. Prove the row's statement (the work); the ties are given (YtkalfkgnjmkjgaaDoorTie.lean); close each card by the builder's one call (the guide's Derived/Test/ToyasCard.lean, 'card_holds'). Laid BY PROGRAM, IN A SANDBOX (cutbox-door.mjs). By AI agents, Wed Nov 11 2026. No macro, syntax, notation, axiom, sorry.
-/
import Derived.Test.YtkalfkgnjmkjgaaDoorRows
import GoSem.ClaimSeven
namespace Go.Proofs.YtkalfkgnjmkjgaaDoor
namespace Rows

/-- THE TIED CARD OF 'linnetlaw12.IgnoreMatches'. -/
def ignoreMatchesCard : Claim7 := { stood := { row := ignoreMatchesRow, standIns := [], harness := (true, "f33115cb60fdb5d19db7841aca622ab6f694c6499bad98572509e61fd363537f"), looks := false }, kinds := [], alts := [], laidByText := true, laidKinds := [.data, .pinned], laidTests := true, laidLooks := .later }
def IgnoreMatchesCardSaid : Prop := Claim7.holds Tryd.pinned (.plain (OpenSpec.ofChange ignoreMatchesSpec)) ignoreMatchesCard

/-- THE TIED CARD OF 'linnetlaw12.IgnoreLast'. -/
def ignoreLastCard : Claim7 := { stood := { row := ignoreLastRow, standIns := [], harness := (true, "f33115cb60fdb5d19db7841aca622ab6f694c6499bad98572509e61fd363537f"), looks := false }, kinds := [], alts := [], laidByText := true, laidKinds := [.data, .pinned], laidTests := true, laidLooks := .later }
def IgnoreLastCardSaid : Prop := Claim7.holds Tryd.pinned (.plain (OpenSpec.ofChange ignoreLastSpec)) ignoreLastCard

/-- THE TIED CARD OF 'linnetlaw12.IgnoreStars'. -/
def ignoreStarsCard : Claim7 := { stood := { row := ignoreStarsRow, standIns := [], harness := (true, "f33115cb60fdb5d19db7841aca622ab6f694c6499bad98572509e61fd363537f"), looks := false }, kinds := [], alts := [], laidByText := true, laidKinds := [.data, .pinned], laidTests := true, laidLooks := .later }
def IgnoreStarsCardSaid : Prop := Claim7.holds Tryd.pinned (.plain (OpenSpec.ofChange ignoreStarsSpec)) ignoreStarsCard

/-- THE TIED CARD OF 'linnetlaw12.IgnoreRules'. -/
def ignoreRulesCard : Claim7 := { stood := { row := ignoreRulesRow, standIns := [], harness := (true, "f33115cb60fdb5d19db7841aca622ab6f694c6499bad98572509e61fd363537f"), looks := false }, kinds := [], alts := [], laidByText := true, laidKinds := [.data, .pinned], laidTests := true, laidLooks := .later }
def IgnoreRulesCardSaid : Prop := Claim7.holds Tryd.pinned (.plain (OpenSpec.ofChange ignoreRulesSpec)) ignoreRulesCard

/-- THE TIED CARD OF 'linnetlaw12.IgnoreUnder'. -/
def ignoreUnderCard : Claim7 := { stood := { row := ignoreUnderRow, standIns := [], harness := (true, "f33115cb60fdb5d19db7841aca622ab6f694c6499bad98572509e61fd363537f"), looks := false }, kinds := [], alts := [], laidByText := true, laidKinds := [.data, .pinned], laidTests := true, laidLooks := .later }
def IgnoreUnderCardSaid : Prop := Claim7.holds Tryd.pinned (.plain (OpenSpec.ofChange ignoreUnderSpec)) ignoreUnderCard

/-- THE SECOND FORM's CARD OF 'linnetlaw12.IgnoreMatches'. -/
def ignoreMatchesUptoCard : Claim7 := { stood := { row := ignoreMatchesUptoRow, standIns := [], harness := (true, "f33115cb60fdb5d19db7841aca622ab6f694c6499bad98572509e61fd363537f"), looks := false }, kinds := [], alts := [], laidByText := true, laidKinds := [.data, .pinned], laidTests := true, laidLooks := .later }
def IgnoreMatchesUptoCardSaid : Prop := Claim7.holds Tryd.pinned (.plain (OpenSpec.upto ignoreMatchesSpec)) ignoreMatchesUptoCard

/-- THE SECOND FORM's CARD OF 'linnetlaw12.IgnoreLast'. -/
def ignoreLastUptoCard : Claim7 := { stood := { row := ignoreLastUptoRow, standIns := [], harness := (true, "f33115cb60fdb5d19db7841aca622ab6f694c6499bad98572509e61fd363537f"), looks := false }, kinds := [], alts := [], laidByText := true, laidKinds := [.data, .pinned], laidTests := true, laidLooks := .later }
def IgnoreLastUptoCardSaid : Prop := Claim7.holds Tryd.pinned (.plain (OpenSpec.upto ignoreLastSpec)) ignoreLastUptoCard

/-- THE SECOND FORM's CARD OF 'linnetlaw12.IgnoreStars'. -/
def ignoreStarsUptoCard : Claim7 := { stood := { row := ignoreStarsUptoRow, standIns := [], harness := (true, "f33115cb60fdb5d19db7841aca622ab6f694c6499bad98572509e61fd363537f"), looks := false }, kinds := [], alts := [], laidByText := true, laidKinds := [.data, .pinned], laidTests := true, laidLooks := .later }
def IgnoreStarsUptoCardSaid : Prop := Claim7.holds Tryd.pinned (.plain (OpenSpec.upto ignoreStarsSpec)) ignoreStarsUptoCard

/-- THE SECOND FORM's CARD OF 'linnetlaw12.IgnoreRules'. -/
def ignoreRulesUptoCard : Claim7 := { stood := { row := ignoreRulesUptoRow, standIns := [], harness := (true, "f33115cb60fdb5d19db7841aca622ab6f694c6499bad98572509e61fd363537f"), looks := false }, kinds := [], alts := [], laidByText := true, laidKinds := [.data, .pinned], laidTests := true, laidLooks := .later }
def IgnoreRulesUptoCardSaid : Prop := Claim7.holds Tryd.pinned (.plain (OpenSpec.upto ignoreRulesSpec)) ignoreRulesUptoCard

/-- THE SECOND FORM's CARD OF 'linnetlaw12.IgnoreUnder'. -/
def ignoreUnderUptoCard : Claim7 := { stood := { row := ignoreUnderUptoRow, standIns := [], harness := (true, "f33115cb60fdb5d19db7841aca622ab6f694c6499bad98572509e61fd363537f"), looks := false }, kinds := [], alts := [], laidByText := true, laidKinds := [.data, .pinned], laidTests := true, laidLooks := .later }
def IgnoreUnderUptoCardSaid : Prop := Claim7.holds Tryd.pinned (.plain (OpenSpec.upto ignoreUnderSpec)) ignoreUnderUptoCard
end Rows
end Go.Proofs.YtkalfkgnjmkjgaaDoor
