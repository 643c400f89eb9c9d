/-
  DERIVED. GIVEN WITH THE SEED: THE CARDS: each row of YteimbekcnkogoaaGreatDoorRows.lean that lists a variable, with what it lists TIED to the program's text (the seventh form; the later family's looks); each row that meets fmt, with fmt's text TOLD by the authors' own Lean function (tested against real Go, not proved from fmt's source: count such statements apart). THE CARD IS WHAT COUNTS. Prove the row's statement (the work); the ties are given (YteimbekcnkogoaaGreatDoorTie.lean); close each card by the builder's one call (the guide's Derived/Test/ToyasCard.lean, 'card_holds'). Laid BY PROGRAM, IN A SANDBOX (cutbox-door.mjs). By AI agents, Wed Nov 11 2026. No macro, syntax, notation, axiom, sorry.
-/
import Derived.Test.YteimbekcnkogoaaGreatDoorRows
import GoSem.ClaimSeven
namespace Go.Proofs.YteimbekcnkogoaaGreatDoor
namespace Rows

/-- THE TIED CARD OF 'provenderlaw3.LicenceExpressionsMatchSpec'. -/
def licenceExpressionsMatchSpecCard : Claim7 := { stood := { row := licenceExpressionsMatchSpecRow, standIns := [], harness := (true, "21f9b4b475267d8637c66d2ea2866d566cebb29e4bb0c587a3a9dbeecc97461c"), looks := true }, kinds := [], alts := [], laidByText := true, laidKinds := [.data, .pinned, .pinned], laidTests := true, laidLooks := .later }
def LicenceExpressionsMatchSpecCardSaid : Prop := Claim7.holds Tryz.pinned (.plain (OpenSpec.ofChange licenceExpressionsMatchSpecSpec)) licenceExpressionsMatchSpecCard

/-- THE TIED CARD OF 'provenderlaw3.LicenceObligationsMatchSpec'. -/
def licenceObligationsMatchSpecCard : Claim7 := { stood := { row := licenceObligationsMatchSpecRow, standIns := [], harness := (true, "21f9b4b475267d8637c66d2ea2866d566cebb29e4bb0c587a3a9dbeecc97461c"), looks := true }, kinds := [], alts := [], laidByText := true, laidKinds := [.data, .pinned, .pinned], laidTests := true, laidLooks := .later }
def LicenceObligationsMatchSpecCardSaid : Prop := Claim7.holds Tryz.pinned (.plain (OpenSpec.ofChange licenceObligationsMatchSpecSpec)) licenceObligationsMatchSpecCard

/-- THE TIED CARD OF 'provenderlaw3.LicenceWeakerMatchesSpec'. -/
def licenceWeakerMatchesSpecCard : Claim7 := { stood := { row := licenceWeakerMatchesSpecRow, standIns := [], harness := (true, "21f9b4b475267d8637c66d2ea2866d566cebb29e4bb0c587a3a9dbeecc97461c"), looks := true }, kinds := [], alts := [], laidByText := true, laidKinds := [.data, .pinned, .pinned], laidTests := true, laidLooks := .later }
def LicenceWeakerMatchesSpecCardSaid : Prop := Claim7.holds Tryz.pinned (.plain (OpenSpec.ofChange licenceWeakerMatchesSpecSpec)) licenceWeakerMatchesSpecCard

/-- THE TIED CARD OF 'provenderlaw3.LicenceBothAndEither'. -/
def licenceBothAndEitherCard : Claim7 := { stood := { row := licenceBothAndEitherRow, standIns := [], harness := (true, "21f9b4b475267d8637c66d2ea2866d566cebb29e4bb0c587a3a9dbeecc97461c"), looks := true }, kinds := [], alts := [], laidByText := true, laidKinds := [.data, .pinned, .pinned], laidTests := true, laidLooks := .later }
def LicenceBothAndEitherCardSaid : Prop := Claim7.holds Tryz.pinned (.plain (OpenSpec.ofChange licenceBothAndEitherSpec)) licenceBothAndEitherCard

/-- THE TIED CARD OF 'provenderlaw3.LicenceWeakerIsKept'. -/
def licenceWeakerIsKeptCard : Claim7 := { stood := { row := licenceWeakerIsKeptRow, standIns := [], harness := (true, "21f9b4b475267d8637c66d2ea2866d566cebb29e4bb0c587a3a9dbeecc97461c"), looks := true }, kinds := [], alts := [], laidByText := true, laidKinds := [.data, .pinned, .pinned], laidTests := true, laidLooks := .later }
def LicenceWeakerIsKeptCardSaid : Prop := Claim7.holds Tryz.pinned (.plain (OpenSpec.ofChange licenceWeakerIsKeptSpec)) licenceWeakerIsKeptCard

/-- THE TIED CARD OF 'provenderlaw3.LicenceWaysMatchSpec'. -/
def licenceWaysMatchSpecCard : Claim7 := { stood := { row := licenceWaysMatchSpecRow, standIns := [], harness := (true, "21f9b4b475267d8637c66d2ea2866d566cebb29e4bb0c587a3a9dbeecc97461c"), looks := true }, kinds := [], alts := [], laidByText := true, laidKinds := [.data, .pinned, .pinned], laidTests := true, laidLooks := .later }
def LicenceWaysMatchSpecCardSaid : Prop := Claim7.holds Tryz.pinned (.plain (OpenSpec.ofChange licenceWaysMatchSpecSpec)) licenceWaysMatchSpecCard

/-- THE TIED CARD OF 'provenderlaw3.LicenceWaysAreLeast'. -/
def licenceWaysAreLeastCard : Claim7 := { stood := { row := licenceWaysAreLeastRow, standIns := [], harness := (true, "21f9b4b475267d8637c66d2ea2866d566cebb29e4bb0c587a3a9dbeecc97461c"), looks := true }, kinds := [], alts := [], laidByText := true, laidKinds := [.data, .pinned, .pinned], laidTests := true, laidLooks := .later }
def LicenceWaysAreLeastCardSaid : Prop := Claim7.holds Tryz.pinned (.plain (OpenSpec.ofChange licenceWaysAreLeastSpec)) licenceWaysAreLeastCard

/-- THE TIED CARD OF 'provenderlaw3.LicenceChooseMatchesSpec'. -/
def licenceChooseMatchesSpecCard : Claim7 := { stood := { row := licenceChooseMatchesSpecRow, standIns := [], harness := (true, "21f9b4b475267d8637c66d2ea2866d566cebb29e4bb0c587a3a9dbeecc97461c"), looks := true }, kinds := [], alts := [], laidByText := true, laidKinds := [.data, .pinned, .pinned], laidTests := true, laidLooks := .later }
def LicenceChooseMatchesSpecCardSaid : Prop := Claim7.holds Tryz.pinned (.plain (OpenSpec.ofChange licenceChooseMatchesSpecSpec)) licenceChooseMatchesSpecCard

/-- THE TIED CARD OF 'provenderlaw3.LicenceSimpleStandsForTheSame'. -/
def licenceSimpleStandsForTheSameCard : Claim7 := { stood := { row := licenceSimpleStandsForTheSameRow, standIns := [], harness := (true, "21f9b4b475267d8637c66d2ea2866d566cebb29e4bb0c587a3a9dbeecc97461c"), looks := true }, kinds := [], alts := [], laidByText := true, laidKinds := [.data, .pinned, .pinned], laidTests := true, laidLooks := .later }
def LicenceSimpleStandsForTheSameCardSaid : Prop := Claim7.holds Tryz.pinned (.plain (OpenSpec.ofChange licenceSimpleStandsForTheSameSpec)) licenceSimpleStandsForTheSameCard

/-- THE SECOND FORM's CARD OF 'provenderlaw3.LicenceExpressionsMatchSpec'. -/
def licenceExpressionsMatchSpecUptoCard : Claim7 := { stood := { row := licenceExpressionsMatchSpecUptoRow, standIns := [], harness := (true, "21f9b4b475267d8637c66d2ea2866d566cebb29e4bb0c587a3a9dbeecc97461c"), looks := true }, kinds := [], alts := [], laidByText := true, laidKinds := [.data, .pinned, .pinned], laidTests := true, laidLooks := .later }
def LicenceExpressionsMatchSpecUptoCardSaid : Prop := Claim7.holds Tryz.pinned (.plain (OpenSpec.upto licenceExpressionsMatchSpecSpec)) licenceExpressionsMatchSpecUptoCard

/-- THE SECOND FORM's CARD OF 'provenderlaw3.LicenceObligationsMatchSpec'. -/
def licenceObligationsMatchSpecUptoCard : Claim7 := { stood := { row := licenceObligationsMatchSpecUptoRow, standIns := [], harness := (true, "21f9b4b475267d8637c66d2ea2866d566cebb29e4bb0c587a3a9dbeecc97461c"), looks := true }, kinds := [], alts := [], laidByText := true, laidKinds := [.data, .pinned, .pinned], laidTests := true, laidLooks := .later }
def LicenceObligationsMatchSpecUptoCardSaid : Prop := Claim7.holds Tryz.pinned (.plain (OpenSpec.upto licenceObligationsMatchSpecSpec)) licenceObligationsMatchSpecUptoCard

/-- THE SECOND FORM's CARD OF 'provenderlaw3.LicenceWeakerMatchesSpec'. -/
def licenceWeakerMatchesSpecUptoCard : Claim7 := { stood := { row := licenceWeakerMatchesSpecUptoRow, standIns := [], harness := (true, "21f9b4b475267d8637c66d2ea2866d566cebb29e4bb0c587a3a9dbeecc97461c"), looks := true }, kinds := [], alts := [], laidByText := true, laidKinds := [.data, .pinned, .pinned], laidTests := true, laidLooks := .later }
def LicenceWeakerMatchesSpecUptoCardSaid : Prop := Claim7.holds Tryz.pinned (.plain (OpenSpec.upto licenceWeakerMatchesSpecSpec)) licenceWeakerMatchesSpecUptoCard

/-- THE SECOND FORM's CARD OF 'provenderlaw3.LicenceBothAndEither'. -/
def licenceBothAndEitherUptoCard : Claim7 := { stood := { row := licenceBothAndEitherUptoRow, standIns := [], harness := (true, "21f9b4b475267d8637c66d2ea2866d566cebb29e4bb0c587a3a9dbeecc97461c"), looks := true }, kinds := [], alts := [], laidByText := true, laidKinds := [.data, .pinned, .pinned], laidTests := true, laidLooks := .later }
def LicenceBothAndEitherUptoCardSaid : Prop := Claim7.holds Tryz.pinned (.plain (OpenSpec.upto licenceBothAndEitherSpec)) licenceBothAndEitherUptoCard

/-- THE SECOND FORM's CARD OF 'provenderlaw3.LicenceWeakerIsKept'. -/
def licenceWeakerIsKeptUptoCard : Claim7 := { stood := { row := licenceWeakerIsKeptUptoRow, standIns := [], harness := (true, "21f9b4b475267d8637c66d2ea2866d566cebb29e4bb0c587a3a9dbeecc97461c"), looks := true }, kinds := [], alts := [], laidByText := true, laidKinds := [.data, .pinned, .pinned], laidTests := true, laidLooks := .later }
def LicenceWeakerIsKeptUptoCardSaid : Prop := Claim7.holds Tryz.pinned (.plain (OpenSpec.upto licenceWeakerIsKeptSpec)) licenceWeakerIsKeptUptoCard

/-- THE SECOND FORM's CARD OF 'provenderlaw3.LicenceWaysMatchSpec'. -/
def licenceWaysMatchSpecUptoCard : Claim7 := { stood := { row := licenceWaysMatchSpecUptoRow, standIns := [], harness := (true, "21f9b4b475267d8637c66d2ea2866d566cebb29e4bb0c587a3a9dbeecc97461c"), looks := true }, kinds := [], alts := [], laidByText := true, laidKinds := [.data, .pinned, .pinned], laidTests := true, laidLooks := .later }
def LicenceWaysMatchSpecUptoCardSaid : Prop := Claim7.holds Tryz.pinned (.plain (OpenSpec.upto licenceWaysMatchSpecSpec)) licenceWaysMatchSpecUptoCard

/-- THE SECOND FORM's CARD OF 'provenderlaw3.LicenceWaysAreLeast'. -/
def licenceWaysAreLeastUptoCard : Claim7 := { stood := { row := licenceWaysAreLeastUptoRow, standIns := [], harness := (true, "21f9b4b475267d8637c66d2ea2866d566cebb29e4bb0c587a3a9dbeecc97461c"), looks := true }, kinds := [], alts := [], laidByText := true, laidKinds := [.data, .pinned, .pinned], laidTests := true, laidLooks := .later }
def LicenceWaysAreLeastUptoCardSaid : Prop := Claim7.holds Tryz.pinned (.plain (OpenSpec.upto licenceWaysAreLeastSpec)) licenceWaysAreLeastUptoCard

/-- THE SECOND FORM's CARD OF 'provenderlaw3.LicenceChooseMatchesSpec'. -/
def licenceChooseMatchesSpecUptoCard : Claim7 := { stood := { row := licenceChooseMatchesSpecUptoRow, standIns := [], harness := (true, "21f9b4b475267d8637c66d2ea2866d566cebb29e4bb0c587a3a9dbeecc97461c"), looks := true }, kinds := [], alts := [], laidByText := true, laidKinds := [.data, .pinned, .pinned], laidTests := true, laidLooks := .later }
def LicenceChooseMatchesSpecUptoCardSaid : Prop := Claim7.holds Tryz.pinned (.plain (OpenSpec.upto licenceChooseMatchesSpecSpec)) licenceChooseMatchesSpecUptoCard

/-- THE SECOND FORM's CARD OF 'provenderlaw3.LicenceSimpleStandsForTheSame'. -/
def licenceSimpleStandsForTheSameUptoCard : Claim7 := { stood := { row := licenceSimpleStandsForTheSameUptoRow, standIns := [], harness := (true, "21f9b4b475267d8637c66d2ea2866d566cebb29e4bb0c587a3a9dbeecc97461c"), looks := true }, kinds := [], alts := [], laidByText := true, laidKinds := [.data, .pinned, .pinned], laidTests := true, laidLooks := .later }
def LicenceSimpleStandsForTheSameUptoCardSaid : Prop := Claim7.holds Tryz.pinned (.plain (OpenSpec.upto licenceSimpleStandsForTheSameSpec)) licenceSimpleStandsForTheSameUptoCard
end Rows
end Go.Proofs.YteimbekcnkogoaaGreatDoor
