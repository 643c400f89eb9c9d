/-
  DERIVED. GIVEN WITH THE SEED: THE CARDS: each row of YteimbekcnkogoaaDoorRows.lean that lists a variable, with what it lists TIED to the program's text (the seventh form; the later family's looks); each row that meets fmt, with fmt's text TOLD by the authors' own Lean function (tested against real Go, not proved from fmt's source: count such statements apart). THE CARD IS WHAT COUNTS. Prove the row's statement (the work); the ties are given (YteimbekcnkogoaaDoorTie.lean); close each card by the builder's one call (the guide's Derived/Test/ToyasCard.lean, 'card_holds'). Laid BY PROGRAM, IN A SANDBOX (cutbox-door.mjs). By AI agents, Wed Nov 11 2026. No macro, syntax, notation, axiom, sorry.
-/
import Derived.Test.YteimbekcnkogoaaDoorRows
import GoSem.ClaimSeven
namespace Go.Proofs.YteimbekcnkogoaaDoor
namespace Rows

/-- THE TIED CARD OF 'provenderlaw3.LicenceReadMatchesSpec'. -/
def licenceReadMatchesSpecCard : Claim7 := { stood := { row := licenceReadMatchesSpecRow, standIns := [], harness := (true, "16e84493f2b2c2a34389a8014582b7273105f786357283bf117b57aa38c7e248"), looks := true }, kinds := [], alts := [], laidByText := true, laidKinds := [.data, .pinned, .pinned], laidTests := true, laidLooks := .later }
def LicenceReadMatchesSpecCardSaid : Prop := Claim7.holds Tryd.pinned (.plain (OpenSpec.ofChange licenceReadMatchesSpecSpec)) licenceReadMatchesSpecCard

/-- THE TIED CARD OF 'provenderlaw3.LicenceTextsComeBack'. -/
def licenceTextsComeBackCard : Claim7 := { stood := { row := licenceTextsComeBackRow, standIns := [], harness := (true, "16e84493f2b2c2a34389a8014582b7273105f786357283bf117b57aa38c7e248"), looks := true }, kinds := [], alts := [], laidByText := true, laidKinds := [.data, .pinned, .pinned], laidTests := true, laidLooks := .later }
def LicenceTextsComeBackCardSaid : Prop := Claim7.holds Tryd.pinned (.plain (OpenSpec.ofChange licenceTextsComeBackSpec)) licenceTextsComeBackCard

/-- THE TIED CARD OF 'provenderlaw3.LicenceTogetherMatchesSpec'. -/
def licenceTogetherMatchesSpecCard : Claim7 := { stood := { row := licenceTogetherMatchesSpecRow, standIns := [], harness := (true, "16e84493f2b2c2a34389a8014582b7273105f786357283bf117b57aa38c7e248"), looks := true }, kinds := [], alts := [], laidByText := true, laidKinds := [.data, .pinned, .pinned], laidTests := true, laidLooks := .later }
def LicenceTogetherMatchesSpecCardSaid : Prop := Claim7.holds Tryd.pinned (.plain (OpenSpec.ofChange licenceTogetherMatchesSpecSpec)) licenceTogetherMatchesSpecCard

/-- THE TIED CARD OF 'provenderlaw3.LicenceKnownMatchesSpec'. -/
def licenceKnownMatchesSpecCard : Claim7 := { stood := { row := licenceKnownMatchesSpecRow, standIns := [], harness := (true, "16e84493f2b2c2a34389a8014582b7273105f786357283bf117b57aa38c7e248"), looks := true }, kinds := [], alts := [], laidByText := true, laidKinds := [.data, .pinned, .pinned], laidTests := true, laidLooks := .later }
def LicenceKnownMatchesSpecCardSaid : Prop := Claim7.holds Tryd.pinned (.plain (OpenSpec.ofChange licenceKnownMatchesSpecSpec)) licenceKnownMatchesSpecCard

/-- THE SECOND FORM's CARD OF 'provenderlaw3.LicenceReadMatchesSpec'. -/
def licenceReadMatchesSpecUptoCard : Claim7 := { stood := { row := licenceReadMatchesSpecUptoRow, standIns := [], harness := (true, "16e84493f2b2c2a34389a8014582b7273105f786357283bf117b57aa38c7e248"), looks := true }, kinds := [], alts := [], laidByText := true, laidKinds := [.data, .pinned, .pinned], laidTests := true, laidLooks := .later }
def LicenceReadMatchesSpecUptoCardSaid : Prop := Claim7.holds Tryd.pinned (.plain (OpenSpec.upto licenceReadMatchesSpecSpec)) licenceReadMatchesSpecUptoCard

/-- THE SECOND FORM's CARD OF 'provenderlaw3.LicenceTextsComeBack'. -/
def licenceTextsComeBackUptoCard : Claim7 := { stood := { row := licenceTextsComeBackUptoRow, standIns := [], harness := (true, "16e84493f2b2c2a34389a8014582b7273105f786357283bf117b57aa38c7e248"), looks := true }, kinds := [], alts := [], laidByText := true, laidKinds := [.data, .pinned, .pinned], laidTests := true, laidLooks := .later }
def LicenceTextsComeBackUptoCardSaid : Prop := Claim7.holds Tryd.pinned (.plain (OpenSpec.upto licenceTextsComeBackSpec)) licenceTextsComeBackUptoCard

/-- THE SECOND FORM's CARD OF 'provenderlaw3.LicenceTogetherMatchesSpec'. -/
def licenceTogetherMatchesSpecUptoCard : Claim7 := { stood := { row := licenceTogetherMatchesSpecUptoRow, standIns := [], harness := (true, "16e84493f2b2c2a34389a8014582b7273105f786357283bf117b57aa38c7e248"), looks := true }, kinds := [], alts := [], laidByText := true, laidKinds := [.data, .pinned, .pinned], laidTests := true, laidLooks := .later }
def LicenceTogetherMatchesSpecUptoCardSaid : Prop := Claim7.holds Tryd.pinned (.plain (OpenSpec.upto licenceTogetherMatchesSpecSpec)) licenceTogetherMatchesSpecUptoCard

/-- THE SECOND FORM's CARD OF 'provenderlaw3.LicenceKnownMatchesSpec'. -/
def licenceKnownMatchesSpecUptoCard : Claim7 := { stood := { row := licenceKnownMatchesSpecUptoRow, standIns := [], harness := (true, "16e84493f2b2c2a34389a8014582b7273105f786357283bf117b57aa38c7e248"), looks := true }, kinds := [], alts := [], laidByText := true, laidKinds := [.data, .pinned, .pinned], laidTests := true, laidLooks := .later }
def LicenceKnownMatchesSpecUptoCardSaid : Prop := Claim7.holds Tryd.pinned (.plain (OpenSpec.upto licenceKnownMatchesSpecSpec)) licenceKnownMatchesSpecUptoCard
end Rows
end Go.Proofs.YteimbekcnkogoaaDoor
