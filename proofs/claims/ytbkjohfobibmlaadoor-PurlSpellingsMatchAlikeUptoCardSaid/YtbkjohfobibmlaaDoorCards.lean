/-
  DERIVED. GIVEN WITH THE SEED: THE CARDS: each row of YtbkjohfobibmlaaDoorRows.lean that lists a variable, with what it lists TIED to the program's text (the seventh form; the later family's looks); each row that meets fmt, with fmt's text TOLD by the authors' own Lean function (tested against real Go, not proved from fmt's source: count such statements apart). THE CARD IS WHAT COUNTS. Prove the row's statement (the work); the ties are given (YtbkjohfobibmlaaDoorTie.lean); close each card by the builder's one call (the guide's Derived/Test/ToyasCard.lean, 'card_holds'). Laid BY PROGRAM, IN A SANDBOX (cutbox-door.mjs). By AI agents, Wed Nov 11 2026. No macro, syntax, notation, axiom, sorry.
-/
import Derived.Test.YtbkjohfobibmlaaDoorRows
import GoSem.ClaimSeven
namespace Go.Proofs.YtbkjohfobibmlaaDoor
namespace Rows

/-- THE TIED CARD OF 'provenderlaw2.PurlSpellingsMatchAlike'. -/
def purlSpellingsMatchAlikeCard : Claim7 := { stood := { row := purlSpellingsMatchAlikeRow, standIns := [], harness := (true, "442989bc1a2c40297ff6732b0678ccdd5e7ed5a4feafa3ed4c610fc9c2469fdb"), looks := false }, kinds := [], alts := [], laidByText := true, laidKinds := [.data, .pinned], laidTests := true, laidLooks := .later }
def PurlSpellingsMatchAlikeCardSaid : Prop := Claim7.holds Tryd.pinned (.plain (OpenSpec.ofChange purlSpellingsMatchAlikeSpec)) purlSpellingsMatchAlikeCard

/-- THE SECOND FORM's CARD OF 'provenderlaw2.PurlSpellingsMatchAlike'. -/
def purlSpellingsMatchAlikeUptoCard : Claim7 := { stood := { row := purlSpellingsMatchAlikeUptoRow, standIns := [], harness := (true, "442989bc1a2c40297ff6732b0678ccdd5e7ed5a4feafa3ed4c610fc9c2469fdb"), looks := false }, kinds := [], alts := [], laidByText := true, laidKinds := [.data, .pinned], laidTests := true, laidLooks := .later }
def PurlSpellingsMatchAlikeUptoCardSaid : Prop := Claim7.holds Tryd.pinned (.plain (OpenSpec.upto purlSpellingsMatchAlikeSpec)) purlSpellingsMatchAlikeUptoCard
end Rows
end Go.Proofs.YtbkjohfobibmlaaDoor
