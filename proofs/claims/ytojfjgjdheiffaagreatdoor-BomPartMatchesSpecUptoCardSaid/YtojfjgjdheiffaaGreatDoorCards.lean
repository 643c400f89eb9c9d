/-
  DERIVED. GIVEN WITH THE SEED: THE CARDS: each row of YtojfjgjdheiffaaGreatDoorRows.lean that lists a variable, with what it lists TIED to the program's text (the seventh form; the later family's looks); each row that meets fmt, with fmt's text TOLD by the authors' own Lean function (tested against real Go, not proved from fmt's source: count such statements apart). THE CARD IS WHAT COUNTS. Prove the row's statement (the work); the ties are given (YtojfjgjdheiffaaGreatDoorTie.lean); close each card by the builder's one call (the guide's Derived/Test/ToyasCard.lean, 'card_holds'). Laid BY PROGRAM, IN A SANDBOX (cutbox-door.mjs). By AI agents, Wed Nov 11 2026. No macro, syntax, notation, axiom, sorry.
-/
import Derived.Test.YtojfjgjdheiffaaGreatDoorRows
import GoSem.ClaimSeven
namespace Go.Proofs.YtojfjgjdheiffaaGreatDoor
namespace Rows

/-- THE TIED CARD OF 'provenderlaw4.BomGatesMatchSpec'. -/
def bomGatesMatchSpecCard : Claim7 := { stood := { row := bomGatesMatchSpecRow, standIns := [], harness := (true, "391c0bdd617fb8033717c8ec64d112760f28bb5ac3bda4e7daf8828759e126a0"), looks := true }, kinds := [], alts := [], laidByText := true, laidKinds := [.data, .pinned, .pinned], laidTests := true, laidLooks := .later }
def BomGatesMatchSpecCardSaid : Prop := Claim7.holds Tryz.pinned (.plain (OpenSpec.ofChange bomGatesMatchSpecSpec)) bomGatesMatchSpecCard

/-- THE TIED CARD OF 'provenderlaw4.BomNeedsMatchSpec'. -/
def bomNeedsMatchSpecCard : Claim7 := { stood := { row := bomNeedsMatchSpecRow, standIns := [], harness := (true, "391c0bdd617fb8033717c8ec64d112760f28bb5ac3bda4e7daf8828759e126a0"), looks := true }, kinds := [], alts := [], laidByText := true, laidKinds := [.data, .pinned, .pinned], laidTests := true, laidLooks := .later }
def BomNeedsMatchSpecCardSaid : Prop := Claim7.holds Tryz.pinned (.plain (OpenSpec.ofChange bomNeedsMatchSpecSpec)) bomNeedsMatchSpecCard

/-- THE TIED CARD OF 'provenderlaw4.BomPathsMatchSpec'. -/
def bomPathsMatchSpecCard : Claim7 := { stood := { row := bomPathsMatchSpecRow, standIns := [], harness := (true, "391c0bdd617fb8033717c8ec64d112760f28bb5ac3bda4e7daf8828759e126a0"), looks := true }, kinds := [], alts := [], laidByText := true, laidKinds := [.data, .pinned, .pinned], laidTests := true, laidLooks := .later }
def BomPathsMatchSpecCardSaid : Prop := Claim7.holds Tryz.pinned (.plain (OpenSpec.ofChange bomPathsMatchSpecSpec)) bomPathsMatchSpecCard

/-- THE TIED CARD OF 'provenderlaw4.BomPathsArePaths'. -/
def bomPathsArePathsCard : Claim7 := { stood := { row := bomPathsArePathsRow, standIns := [], harness := (true, "391c0bdd617fb8033717c8ec64d112760f28bb5ac3bda4e7daf8828759e126a0"), looks := true }, kinds := [], alts := [], laidByText := true, laidKinds := [.data, .pinned, .pinned], laidTests := true, laidLooks := .later }
def BomPathsArePathsCardSaid : Prop := Claim7.holds Tryz.pinned (.plain (OpenSpec.ofChange bomPathsArePathsSpec)) bomPathsArePathsCard

/-- THE TIED CARD OF 'provenderlaw4.BomGatesAreKept'. -/
def bomGatesAreKeptCard : Claim7 := { stood := { row := bomGatesAreKeptRow, standIns := [], harness := (true, "391c0bdd617fb8033717c8ec64d112760f28bb5ac3bda4e7daf8828759e126a0"), looks := true }, kinds := [], alts := [], laidByText := true, laidKinds := [.data, .pinned, .pinned], laidTests := true, laidLooks := .later }
def BomGatesAreKeptCardSaid : Prop := Claim7.holds Tryz.pinned (.plain (OpenSpec.ofChange bomGatesAreKeptSpec)) bomGatesAreKeptCard

/-- THE TIED CARD OF 'provenderlaw4.BomPartMatchesSpec'. -/
def bomPartMatchesSpecCard : Claim7 := { stood := { row := bomPartMatchesSpecRow, standIns := [], harness := (true, "391c0bdd617fb8033717c8ec64d112760f28bb5ac3bda4e7daf8828759e126a0"), looks := true }, kinds := [], alts := [], laidByText := true, laidKinds := [.data, .pinned, .pinned], laidTests := true, laidLooks := .later }
def BomPartMatchesSpecCardSaid : Prop := Claim7.holds Tryz.pinned (.plain (OpenSpec.ofChange bomPartMatchesSpecSpec)) bomPartMatchesSpecCard

/-- THE TIED CARD OF 'provenderlaw4.BomApplyMatchesSpec'. -/
def bomApplyMatchesSpecCard : Claim7 := { stood := { row := bomApplyMatchesSpecRow, standIns := [], harness := (true, "391c0bdd617fb8033717c8ec64d112760f28bb5ac3bda4e7daf8828759e126a0"), looks := true }, kinds := [], alts := [], laidByText := true, laidKinds := [.data, .pinned, .pinned], laidTests := true, laidLooks := .later }
def BomApplyMatchesSpecCardSaid : Prop := Claim7.holds Tryz.pinned (.plain (OpenSpec.ofChange bomApplyMatchesSpecSpec)) bomApplyMatchesSpecCard

/-- THE TIED CARD OF 'provenderlaw4.BomDiffApplies'. -/
def bomDiffAppliesCard : Claim7 := { stood := { row := bomDiffAppliesRow, standIns := [], harness := (true, "391c0bdd617fb8033717c8ec64d112760f28bb5ac3bda4e7daf8828759e126a0"), looks := true }, kinds := [], alts := [], laidByText := true, laidKinds := [.data, .pinned, .pinned], laidTests := true, laidLooks := .later }
def BomDiffAppliesCardSaid : Prop := Claim7.holds Tryz.pinned (.plain (OpenSpec.ofChange bomDiffAppliesSpec)) bomDiffAppliesCard

/-- THE TIED CARD OF 'provenderlaw4.BomReachMatchesSpec'. -/
def bomReachMatchesSpecCard : Claim7 := { stood := { row := bomReachMatchesSpecRow, standIns := [], harness := (true, "391c0bdd617fb8033717c8ec64d112760f28bb5ac3bda4e7daf8828759e126a0"), looks := true }, kinds := [], alts := [], laidByText := true, laidKinds := [.data, .pinned, .pinned], laidTests := true, laidLooks := .later }
def BomReachMatchesSpecCardSaid : Prop := Claim7.holds Tryz.pinned (.plain (OpenSpec.ofChange bomReachMatchesSpecSpec)) bomReachMatchesSpecCard

/-- THE TIED CARD OF 'provenderlaw4.BomCheckMatchesSpec'. -/
def bomCheckMatchesSpecCard : Claim7 := { stood := { row := bomCheckMatchesSpecRow, standIns := [], harness := (true, "391c0bdd617fb8033717c8ec64d112760f28bb5ac3bda4e7daf8828759e126a0"), looks := true }, kinds := [], alts := [], laidByText := true, laidKinds := [.data, .pinned, .pinned], laidTests := true, laidLooks := .later }
def BomCheckMatchesSpecCardSaid : Prop := Claim7.holds Tryz.pinned (.plain (OpenSpec.ofChange bomCheckMatchesSpecSpec)) bomCheckMatchesSpecCard

/-- THE TIED CARD OF 'provenderlaw4.BomTidyIsRight'. -/
def bomTidyIsRightCard : Claim7 := { stood := { row := bomTidyIsRightRow, standIns := [], harness := (true, "391c0bdd617fb8033717c8ec64d112760f28bb5ac3bda4e7daf8828759e126a0"), looks := true }, kinds := [], alts := [], laidByText := true, laidKinds := [.data, .pinned, .pinned], laidTests := true, laidLooks := .later }
def BomTidyIsRightCardSaid : Prop := Claim7.holds Tryz.pinned (.plain (OpenSpec.ofChange bomTidyIsRightSpec)) bomTidyIsRightCard

/-- THE SECOND FORM's CARD OF 'provenderlaw4.BomGatesMatchSpec'. -/
def bomGatesMatchSpecUptoCard : Claim7 := { stood := { row := bomGatesMatchSpecUptoRow, standIns := [], harness := (true, "391c0bdd617fb8033717c8ec64d112760f28bb5ac3bda4e7daf8828759e126a0"), looks := true }, kinds := [], alts := [], laidByText := true, laidKinds := [.data, .pinned, .pinned], laidTests := true, laidLooks := .later }
def BomGatesMatchSpecUptoCardSaid : Prop := Claim7.holds Tryz.pinned (.plain (OpenSpec.upto bomGatesMatchSpecSpec)) bomGatesMatchSpecUptoCard

/-- THE SECOND FORM's CARD OF 'provenderlaw4.BomNeedsMatchSpec'. -/
def bomNeedsMatchSpecUptoCard : Claim7 := { stood := { row := bomNeedsMatchSpecUptoRow, standIns := [], harness := (true, "391c0bdd617fb8033717c8ec64d112760f28bb5ac3bda4e7daf8828759e126a0"), looks := true }, kinds := [], alts := [], laidByText := true, laidKinds := [.data, .pinned, .pinned], laidTests := true, laidLooks := .later }
def BomNeedsMatchSpecUptoCardSaid : Prop := Claim7.holds Tryz.pinned (.plain (OpenSpec.upto bomNeedsMatchSpecSpec)) bomNeedsMatchSpecUptoCard

/-- THE SECOND FORM's CARD OF 'provenderlaw4.BomPathsMatchSpec'. -/
def bomPathsMatchSpecUptoCard : Claim7 := { stood := { row := bomPathsMatchSpecUptoRow, standIns := [], harness := (true, "391c0bdd617fb8033717c8ec64d112760f28bb5ac3bda4e7daf8828759e126a0"), looks := true }, kinds := [], alts := [], laidByText := true, laidKinds := [.data, .pinned, .pinned], laidTests := true, laidLooks := .later }
def BomPathsMatchSpecUptoCardSaid : Prop := Claim7.holds Tryz.pinned (.plain (OpenSpec.upto bomPathsMatchSpecSpec)) bomPathsMatchSpecUptoCard

/-- THE SECOND FORM's CARD OF 'provenderlaw4.BomPathsArePaths'. -/
def bomPathsArePathsUptoCard : Claim7 := { stood := { row := bomPathsArePathsUptoRow, standIns := [], harness := (true, "391c0bdd617fb8033717c8ec64d112760f28bb5ac3bda4e7daf8828759e126a0"), looks := true }, kinds := [], alts := [], laidByText := true, laidKinds := [.data, .pinned, .pinned], laidTests := true, laidLooks := .later }
def BomPathsArePathsUptoCardSaid : Prop := Claim7.holds Tryz.pinned (.plain (OpenSpec.upto bomPathsArePathsSpec)) bomPathsArePathsUptoCard

/-- THE SECOND FORM's CARD OF 'provenderlaw4.BomGatesAreKept'. -/
def bomGatesAreKeptUptoCard : Claim7 := { stood := { row := bomGatesAreKeptUptoRow, standIns := [], harness := (true, "391c0bdd617fb8033717c8ec64d112760f28bb5ac3bda4e7daf8828759e126a0"), looks := true }, kinds := [], alts := [], laidByText := true, laidKinds := [.data, .pinned, .pinned], laidTests := true, laidLooks := .later }
def BomGatesAreKeptUptoCardSaid : Prop := Claim7.holds Tryz.pinned (.plain (OpenSpec.upto bomGatesAreKeptSpec)) bomGatesAreKeptUptoCard

/-- THE SECOND FORM's CARD OF 'provenderlaw4.BomPartMatchesSpec'. -/
def bomPartMatchesSpecUptoCard : Claim7 := { stood := { row := bomPartMatchesSpecUptoRow, standIns := [], harness := (true, "391c0bdd617fb8033717c8ec64d112760f28bb5ac3bda4e7daf8828759e126a0"), looks := true }, kinds := [], alts := [], laidByText := true, laidKinds := [.data, .pinned, .pinned], laidTests := true, laidLooks := .later }
def BomPartMatchesSpecUptoCardSaid : Prop := Claim7.holds Tryz.pinned (.plain (OpenSpec.upto bomPartMatchesSpecSpec)) bomPartMatchesSpecUptoCard

/-- THE SECOND FORM's CARD OF 'provenderlaw4.BomApplyMatchesSpec'. -/
def bomApplyMatchesSpecUptoCard : Claim7 := { stood := { row := bomApplyMatchesSpecUptoRow, standIns := [], harness := (true, "391c0bdd617fb8033717c8ec64d112760f28bb5ac3bda4e7daf8828759e126a0"), looks := true }, kinds := [], alts := [], laidByText := true, laidKinds := [.data, .pinned, .pinned], laidTests := true, laidLooks := .later }
def BomApplyMatchesSpecUptoCardSaid : Prop := Claim7.holds Tryz.pinned (.plain (OpenSpec.upto bomApplyMatchesSpecSpec)) bomApplyMatchesSpecUptoCard

/-- THE SECOND FORM's CARD OF 'provenderlaw4.BomDiffApplies'. -/
def bomDiffAppliesUptoCard : Claim7 := { stood := { row := bomDiffAppliesUptoRow, standIns := [], harness := (true, "391c0bdd617fb8033717c8ec64d112760f28bb5ac3bda4e7daf8828759e126a0"), looks := true }, kinds := [], alts := [], laidByText := true, laidKinds := [.data, .pinned, .pinned], laidTests := true, laidLooks := .later }
def BomDiffAppliesUptoCardSaid : Prop := Claim7.holds Tryz.pinned (.plain (OpenSpec.upto bomDiffAppliesSpec)) bomDiffAppliesUptoCard

/-- THE SECOND FORM's CARD OF 'provenderlaw4.BomReachMatchesSpec'. -/
def bomReachMatchesSpecUptoCard : Claim7 := { stood := { row := bomReachMatchesSpecUptoRow, standIns := [], harness := (true, "391c0bdd617fb8033717c8ec64d112760f28bb5ac3bda4e7daf8828759e126a0"), looks := true }, kinds := [], alts := [], laidByText := true, laidKinds := [.data, .pinned, .pinned], laidTests := true, laidLooks := .later }
def BomReachMatchesSpecUptoCardSaid : Prop := Claim7.holds Tryz.pinned (.plain (OpenSpec.upto bomReachMatchesSpecSpec)) bomReachMatchesSpecUptoCard

/-- THE SECOND FORM's CARD OF 'provenderlaw4.BomCheckMatchesSpec'. -/
def bomCheckMatchesSpecUptoCard : Claim7 := { stood := { row := bomCheckMatchesSpecUptoRow, standIns := [], harness := (true, "391c0bdd617fb8033717c8ec64d112760f28bb5ac3bda4e7daf8828759e126a0"), looks := true }, kinds := [], alts := [], laidByText := true, laidKinds := [.data, .pinned, .pinned], laidTests := true, laidLooks := .later }
def BomCheckMatchesSpecUptoCardSaid : Prop := Claim7.holds Tryz.pinned (.plain (OpenSpec.upto bomCheckMatchesSpecSpec)) bomCheckMatchesSpecUptoCard

/-- THE SECOND FORM's CARD OF 'provenderlaw4.BomTidyIsRight'. -/
def bomTidyIsRightUptoCard : Claim7 := { stood := { row := bomTidyIsRightUptoRow, standIns := [], harness := (true, "391c0bdd617fb8033717c8ec64d112760f28bb5ac3bda4e7daf8828759e126a0"), looks := true }, kinds := [], alts := [], laidByText := true, laidKinds := [.data, .pinned, .pinned], laidTests := true, laidLooks := .later }
def BomTidyIsRightUptoCardSaid : Prop := Claim7.holds Tryz.pinned (.plain (OpenSpec.upto bomTidyIsRightSpec)) bomTidyIsRightUptoCard
end Rows
end Go.Proofs.YtojfjgjdheiffaaGreatDoor
