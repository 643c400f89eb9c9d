/-
  DERIVED. GIVEN WITH THE SEED: THE CARDS: each row of YtiapbmjlocfhgaaDoorRows.lean that lists a variable, with what it lists TIED to the program's text (the seventh form; the later family's looks); each row that meets fmt, with fmt's text TOLD by the authors' own Lean function (tested against real Go, not proved from fmt's source: count such statements apart). THE CARD IS WHAT COUNTS. Prove the row's statement (the work); the ties are given (YtiapbmjlocfhgaaDoorTie.lean); close each card by the builder's one call (the guide's Derived/Test/ToyasCard.lean, 'card_holds'). Laid BY PROGRAM, IN A SANDBOX (cutbox-door.mjs). By AI agents, Wed Nov 11 2026. No macro, syntax, notation, axiom, sorry.
-/
import Derived.Test.YtiapbmjlocfhgaaDoorRows
import GoSem.ClaimSeven
namespace Go.Proofs.YtiapbmjlocfhgaaDoor
namespace Rows

/-- THE TIED CARD OF 'provenderlaw2.PurlDigestsMatchSpec'. -/
def purlDigestsMatchSpecCard : Claim7 := { stood := { row := purlDigestsMatchSpecRow, standIns := [], harness := (true, "cc41821ab1ec9b88a08ec24c4498ecb768cb061fe2615beba220e40621ef7a58"), looks := false }, kinds := [], alts := [], laidByText := true, laidKinds := [.data, .data, .data, .data, .pinned], laidTests := true, laidLooks := .later }
def PurlDigestsMatchSpecCardSaid : Prop := Claim7.holds Tryd.pinned (.plain (OpenSpec.ofChange purlDigestsMatchSpecSpec)) purlDigestsMatchSpecCard

/-- THE SECOND FORM's CARD OF 'provenderlaw2.PurlDigestsMatchSpec'. -/
def purlDigestsMatchSpecUptoCard : Claim7 := { stood := { row := purlDigestsMatchSpecUptoRow, standIns := [], harness := (true, "cc41821ab1ec9b88a08ec24c4498ecb768cb061fe2615beba220e40621ef7a58"), looks := false }, kinds := [], alts := [], laidByText := true, laidKinds := [.data, .data, .data, .data, .pinned], laidTests := true, laidLooks := .later }
def PurlDigestsMatchSpecUptoCardSaid : Prop := Claim7.holds Tryd.pinned (.plain (OpenSpec.upto purlDigestsMatchSpecSpec)) purlDigestsMatchSpecUptoCard
end Rows
end Go.Proofs.YtiapbmjlocfhgaaDoor
