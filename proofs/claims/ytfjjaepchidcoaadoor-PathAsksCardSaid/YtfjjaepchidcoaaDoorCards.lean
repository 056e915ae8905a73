/-
  DERIVED. GIVEN WITH THE SEED: THE CARDS: each row of YtfjjaepchidcoaaDoorRows.lean that lists a variable, with what it lists TIED to the program's text (the seventh form; the later family's looks); each row that meets fmt, with fmt's text TOLD by the authors' own Lean function (tested against real Go, not proved from fmt's source: count such statements apart). THE CARD IS WHAT COUNTS. Prove the row's statement (the work); the ties are given (YtfjjaepchidcoaaDoorTie.lean); close each card by the builder's one call (the guide's Derived/Test/ToyasCard.lean, 'card_holds'). Laid BY PROGRAM, IN A SANDBOX (cutbox-door.mjs). By AI agents, Wed Nov 11 2026. No macro, syntax, notation, axiom, sorry.
-/
import Derived.Test.YtfjjaepchidcoaaDoorRows
import GoSem.ClaimSeven
namespace Go.Proofs.YtfjjaepchidcoaaDoor
namespace Rows

/-- THE TIED CARD OF 'linnetlaw4.PathAsks'. -/
def pathAsksCard : Claim7 := { stood := { row := pathAsksRow, standIns := [], harness := (true, "8820f2aca2fdc97ab2806ffd476f457f8f3cc3266adc5dbd27c99bf4823f671a"), looks := false }, kinds := [], alts := [], laidByText := true, laidKinds := [.data, .pinned], laidTests := true, laidLooks := .later }
def PathAsksCardSaid : Prop := Claim7.holds Tryd.pinned (.plain (OpenSpec.ofChange pathAsksSpec)) pathAsksCard

/-- THE TIED CARD OF 'linnetlaw4.PathOrders'. -/
def pathOrdersCard : Claim7 := { stood := { row := pathOrdersRow, standIns := [], harness := (true, "8820f2aca2fdc97ab2806ffd476f457f8f3cc3266adc5dbd27c99bf4823f671a"), looks := false }, kinds := [], alts := [], laidByText := true, laidKinds := [.data, .pinned], laidTests := true, laidLooks := .later }
def PathOrdersCardSaid : Prop := Claim7.holds Tryd.pinned (.plain (OpenSpec.ofChange pathOrdersSpec)) pathOrdersCard

/-- THE TIED CARD OF 'linnetlaw4.PathTrees'. -/
def pathTreesCard : Claim7 := { stood := { row := pathTreesRow, standIns := [], harness := (true, "8820f2aca2fdc97ab2806ffd476f457f8f3cc3266adc5dbd27c99bf4823f671a"), looks := false }, kinds := [], alts := [], laidByText := true, laidKinds := [.data, .pinned], laidTests := true, laidLooks := .later }
def PathTreesCardSaid : Prop := Claim7.holds Tryd.pinned (.plain (OpenSpec.ofChange pathTreesSpec)) pathTreesCard

/-- THE TIED CARD OF 'linnetlaw4.PathBack'. -/
def pathBackCard : Claim7 := { stood := { row := pathBackRow, standIns := [], harness := (true, "8820f2aca2fdc97ab2806ffd476f457f8f3cc3266adc5dbd27c99bf4823f671a"), looks := false }, kinds := [], alts := [], laidByText := true, laidKinds := [.data, .pinned], laidTests := true, laidLooks := .later }
def PathBackCardSaid : Prop := Claim7.holds Tryd.pinned (.plain (OpenSpec.ofChange pathBackSpec)) pathBackCard

/-- THE TIED CARD OF 'linnetlaw4.PathLimits'. -/
def pathLimitsCard : Claim7 := { stood := { row := pathLimitsRow, standIns := [], harness := (true, "8820f2aca2fdc97ab2806ffd476f457f8f3cc3266adc5dbd27c99bf4823f671a"), looks := false }, kinds := [], alts := [], laidByText := true, laidKinds := [.data, .pinned], laidTests := true, laidLooks := .later }
def PathLimitsCardSaid : Prop := Claim7.holds Tryd.pinned (.plain (OpenSpec.ofChange pathLimitsSpec)) pathLimitsCard

/-- THE SECOND FORM's CARD OF 'linnetlaw4.PathAsks'. -/
def pathAsksUptoCard : Claim7 := { stood := { row := pathAsksUptoRow, standIns := [], harness := (true, "8820f2aca2fdc97ab2806ffd476f457f8f3cc3266adc5dbd27c99bf4823f671a"), looks := false }, kinds := [], alts := [], laidByText := true, laidKinds := [.data, .pinned], laidTests := true, laidLooks := .later }
def PathAsksUptoCardSaid : Prop := Claim7.holds Tryd.pinned (.plain (OpenSpec.upto pathAsksSpec)) pathAsksUptoCard

/-- THE SECOND FORM's CARD OF 'linnetlaw4.PathOrders'. -/
def pathOrdersUptoCard : Claim7 := { stood := { row := pathOrdersUptoRow, standIns := [], harness := (true, "8820f2aca2fdc97ab2806ffd476f457f8f3cc3266adc5dbd27c99bf4823f671a"), looks := false }, kinds := [], alts := [], laidByText := true, laidKinds := [.data, .pinned], laidTests := true, laidLooks := .later }
def PathOrdersUptoCardSaid : Prop := Claim7.holds Tryd.pinned (.plain (OpenSpec.upto pathOrdersSpec)) pathOrdersUptoCard

/-- THE SECOND FORM's CARD OF 'linnetlaw4.PathTrees'. -/
def pathTreesUptoCard : Claim7 := { stood := { row := pathTreesUptoRow, standIns := [], harness := (true, "8820f2aca2fdc97ab2806ffd476f457f8f3cc3266adc5dbd27c99bf4823f671a"), looks := false }, kinds := [], alts := [], laidByText := true, laidKinds := [.data, .pinned], laidTests := true, laidLooks := .later }
def PathTreesUptoCardSaid : Prop := Claim7.holds Tryd.pinned (.plain (OpenSpec.upto pathTreesSpec)) pathTreesUptoCard

/-- THE SECOND FORM's CARD OF 'linnetlaw4.PathBack'. -/
def pathBackUptoCard : Claim7 := { stood := { row := pathBackUptoRow, standIns := [], harness := (true, "8820f2aca2fdc97ab2806ffd476f457f8f3cc3266adc5dbd27c99bf4823f671a"), looks := false }, kinds := [], alts := [], laidByText := true, laidKinds := [.data, .pinned], laidTests := true, laidLooks := .later }
def PathBackUptoCardSaid : Prop := Claim7.holds Tryd.pinned (.plain (OpenSpec.upto pathBackSpec)) pathBackUptoCard

/-- THE SECOND FORM's CARD OF 'linnetlaw4.PathLimits'. -/
def pathLimitsUptoCard : Claim7 := { stood := { row := pathLimitsUptoRow, standIns := [], harness := (true, "8820f2aca2fdc97ab2806ffd476f457f8f3cc3266adc5dbd27c99bf4823f671a"), looks := false }, kinds := [], alts := [], laidByText := true, laidKinds := [.data, .pinned], laidTests := true, laidLooks := .later }
def PathLimitsUptoCardSaid : Prop := Claim7.holds Tryd.pinned (.plain (OpenSpec.upto pathLimitsSpec)) pathLimitsUptoCard
end Rows
end Go.Proofs.YtfjjaepchidcoaaDoor
