/-
  DERIVED. GIVEN WITH THE SEED: THE CARDS: each row of YtdmdigejjdianaaGreatDoorRows.lean that lists a variable, with what it lists TIED to the program's text (the seventh form; the later family's looks); each row that meets fmt, with fmt's text TOLD by the authors' own Lean function (tested against real Go, not proved from fmt's source: count such statements apart). THE CARD IS WHAT COUNTS. Prove the row's statement (the work); the ties are given (YtdmdigejjdianaaGreatDoorTie.lean); close each card by the builder's one call (the guide's Derived/Test/ToyasCard.lean, 'card_holds'). Laid BY PROGRAM, IN A SANDBOX (cutbox-door.mjs). By AI agents, Wed Nov 11 2026. No macro, syntax, notation, axiom, sorry.
-/
import Derived.Test.YtdmdigejjdianaaGreatDoorRows
import GoSem.ClaimSeven
namespace Go.Proofs.YtdmdigejjdianaaGreatDoor
namespace Rows

/-- THE TIED CARD OF 'provenderlaw2.PurlCanonicalIsOne'. -/
def purlCanonicalIsOneCard : Claim7 := { stood := { row := purlCanonicalIsOneRow, standIns := [], harness := (true, "a14eaca0553d275e5e044e70ddda97eae2d44ac058409a48f37be4359de54f50"), looks := true }, kinds := [], alts := [], laidByText := true, laidKinds := [.data, .data, .data, .data, .sentinel, .sentinel, .pinned, .pinned], laidTests := true, laidLooks := .later }
def PurlCanonicalIsOneCardSaid : Prop := Claim7.holds Tryz.pinned (.plain (OpenSpec.ofChange purlCanonicalIsOneSpec)) purlCanonicalIsOneCard

/-- THE SECOND FORM's CARD OF 'provenderlaw2.PurlCanonicalIsOne'. -/
def purlCanonicalIsOneUptoCard : Claim7 := { stood := { row := purlCanonicalIsOneUptoRow, standIns := [], harness := (true, "a14eaca0553d275e5e044e70ddda97eae2d44ac058409a48f37be4359de54f50"), looks := true }, kinds := [], alts := [], laidByText := true, laidKinds := [.data, .data, .data, .data, .sentinel, .sentinel, .pinned, .pinned], laidTests := true, laidLooks := .later }
def PurlCanonicalIsOneUptoCardSaid : Prop := Claim7.holds Tryz.pinned (.plain (OpenSpec.upto purlCanonicalIsOneSpec)) purlCanonicalIsOneUptoCard
end Rows
end Go.Proofs.YtdmdigejjdianaaGreatDoor
