/-
  DERIVED. GIVEN WITH THE SEED: THE CARDS: each row of YtoigmepkhiknbaaDoorRows.lean that lists a variable, with what it lists TIED to the program's text (the seventh form; the later family's looks); each row that meets fmt, with fmt's text TOLD by the authors' own Lean function (tested against real Go, not proved from fmt's source: count such statements apart). THE CARD IS WHAT COUNTS. Prove the row's statement (the work); the ties are given (YtoigmepkhiknbaaDoorTie.lean); close each card by the builder's one call (the guide's Derived/Test/ToyasCard.lean, 'card_holds'). Laid BY PROGRAM, IN A SANDBOX (cutbox-door.mjs). By AI agents, Wed Nov 11 2026. No macro, syntax, notation, axiom, sorry.
-/
import Derived.Test.YtoigmepkhiknbaaDoorRows
import GoSem.ClaimSeven
namespace Go.Proofs.YtoigmepkhiknbaaDoor
namespace Rows

/-- THE TIED CARD OF 'linnetlaw13.SchedRounds'. -/
def schedRoundsCard : Claim7 := { stood := { row := schedRoundsRow, standIns := [], harness := (true, "ec9b0f37d483cc1d39fc3e34b4f509fdcd82cdf0206c8a932d16b66f164828ca"), looks := false }, kinds := [], alts := [], laidByText := true, laidKinds := [.data, .pinned], laidTests := true, laidLooks := .later }
def SchedRoundsCardSaid : Prop := Claim7.holds Tryd.pinned (.plain (OpenSpec.ofChange schedRoundsSpec)) schedRoundsCard

/-- THE TIED CARD OF 'linnetlaw13.SchedPlays'. -/
def schedPlaysCard : Claim7 := { stood := { row := schedPlaysRow, standIns := [], harness := (true, "ec9b0f37d483cc1d39fc3e34b4f509fdcd82cdf0206c8a932d16b66f164828ca"), looks := false }, kinds := [], alts := [], laidByText := true, laidKinds := [.data, .pinned], laidTests := true, laidLooks := .later }
def SchedPlaysCardSaid : Prop := Claim7.holds Tryd.pinned (.plain (OpenSpec.ofChange schedPlaysSpec)) schedPlaysCard

/-- THE TIED CARD OF 'linnetlaw13.SchedNothing'. -/
def schedNothingCard : Claim7 := { stood := { row := schedNothingRow, standIns := [], harness := (true, "ec9b0f37d483cc1d39fc3e34b4f509fdcd82cdf0206c8a932d16b66f164828ca"), looks := false }, kinds := [], alts := [], laidByText := true, laidKinds := [.data, .pinned], laidTests := true, laidLooks := .later }
def SchedNothingCardSaid : Prop := Claim7.holds Tryd.pinned (.plain (OpenSpec.ofChange schedNothingSpec)) schedNothingCard

/-- THE TIED CARD OF 'linnetlaw13.SchedOrder'. -/
def schedOrderCard : Claim7 := { stood := { row := schedOrderRow, standIns := [], harness := (true, "ec9b0f37d483cc1d39fc3e34b4f509fdcd82cdf0206c8a932d16b66f164828ca"), looks := false }, kinds := [], alts := [], laidByText := true, laidKinds := [.data, .pinned], laidTests := true, laidLooks := .later }
def SchedOrderCardSaid : Prop := Claim7.holds Tryd.pinned (.plain (OpenSpec.ofChange schedOrderSpec)) schedOrderCard

/-- THE SECOND FORM's CARD OF 'linnetlaw13.SchedRounds'. -/
def schedRoundsUptoCard : Claim7 := { stood := { row := schedRoundsUptoRow, standIns := [], harness := (true, "ec9b0f37d483cc1d39fc3e34b4f509fdcd82cdf0206c8a932d16b66f164828ca"), looks := false }, kinds := [], alts := [], laidByText := true, laidKinds := [.data, .pinned], laidTests := true, laidLooks := .later }
def SchedRoundsUptoCardSaid : Prop := Claim7.holds Tryd.pinned (.plain (OpenSpec.upto schedRoundsSpec)) schedRoundsUptoCard

/-- THE SECOND FORM's CARD OF 'linnetlaw13.SchedPlays'. -/
def schedPlaysUptoCard : Claim7 := { stood := { row := schedPlaysUptoRow, standIns := [], harness := (true, "ec9b0f37d483cc1d39fc3e34b4f509fdcd82cdf0206c8a932d16b66f164828ca"), looks := false }, kinds := [], alts := [], laidByText := true, laidKinds := [.data, .pinned], laidTests := true, laidLooks := .later }
def SchedPlaysUptoCardSaid : Prop := Claim7.holds Tryd.pinned (.plain (OpenSpec.upto schedPlaysSpec)) schedPlaysUptoCard

/-- THE SECOND FORM's CARD OF 'linnetlaw13.SchedNothing'. -/
def schedNothingUptoCard : Claim7 := { stood := { row := schedNothingUptoRow, standIns := [], harness := (true, "ec9b0f37d483cc1d39fc3e34b4f509fdcd82cdf0206c8a932d16b66f164828ca"), looks := false }, kinds := [], alts := [], laidByText := true, laidKinds := [.data, .pinned], laidTests := true, laidLooks := .later }
def SchedNothingUptoCardSaid : Prop := Claim7.holds Tryd.pinned (.plain (OpenSpec.upto schedNothingSpec)) schedNothingUptoCard

/-- THE SECOND FORM's CARD OF 'linnetlaw13.SchedOrder'. -/
def schedOrderUptoCard : Claim7 := { stood := { row := schedOrderUptoRow, standIns := [], harness := (true, "ec9b0f37d483cc1d39fc3e34b4f509fdcd82cdf0206c8a932d16b66f164828ca"), looks := false }, kinds := [], alts := [], laidByText := true, laidKinds := [.data, .pinned], laidTests := true, laidLooks := .later }
def SchedOrderUptoCardSaid : Prop := Claim7.holds Tryd.pinned (.plain (OpenSpec.upto schedOrderSpec)) schedOrderUptoCard
end Rows
end Go.Proofs.YtoigmepkhiknbaaDoor
