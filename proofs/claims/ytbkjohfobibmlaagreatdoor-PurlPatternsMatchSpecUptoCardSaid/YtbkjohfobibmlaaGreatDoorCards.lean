/-
  DERIVED. GIVEN WITH THE SEED: THE CARDS: each row of YtbkjohfobibmlaaGreatDoorRows.lean that lists a variable, with what it lists TIED to the program's text (the seventh form; the later family's looks); each row that meets fmt, with fmt's text TOLD by the authors' own Lean function (tested against real Go, not proved from fmt's source: count such statements apart). THE CARD IS WHAT COUNTS. Prove the row's statement (the work); the ties are given (YtbkjohfobibmlaaGreatDoorTie.lean); close each card by the builder's one call (the guide's Derived/Test/ToyasCard.lean, 'card_holds'). Laid BY PROGRAM, IN A SANDBOX (cutbox-door.mjs). By AI agents, Wed Nov 11 2026. No macro, syntax, notation, axiom, sorry.
-/
import Derived.Test.YtbkjohfobibmlaaGreatDoorRows
import GoSem.ClaimSeven
namespace Go.Proofs.YtbkjohfobibmlaaGreatDoor
namespace Rows

/-- THE TIED CARD OF 'provenderlaw2.PurlPatternsMatchSpec'. -/
def purlPatternsMatchSpecCard : Claim7 := { stood := { row := purlPatternsMatchSpecRow, standIns := [], harness := (true, "b61d2844d230167f28e49e0e61ab14104db959dc876b2f6f65bd8aefff07c350"), looks := false }, kinds := [], alts := [], laidByText := true, laidKinds := [.data, .pinned], laidTests := true, laidLooks := .later }
def PurlPatternsMatchSpecCardSaid : Prop := Claim7.holds Tryz.pinned (.plain (OpenSpec.ofChange purlPatternsMatchSpecSpec)) purlPatternsMatchSpecCard

/-- THE TIED CARD OF 'provenderlaw2.PurlWithinMatchesSpec'. -/
def purlWithinMatchesSpecCard : Claim7 := { stood := { row := purlWithinMatchesSpecRow, standIns := [], harness := (true, "b61d2844d230167f28e49e0e61ab14104db959dc876b2f6f65bd8aefff07c350"), looks := false }, kinds := [], alts := [], laidByText := true, laidKinds := [.data, .data, .data, .data, .pinned], laidTests := true, laidLooks := .later }
def PurlWithinMatchesSpecCardSaid : Prop := Claim7.holds Tryz.pinned (.plain (OpenSpec.ofChange purlWithinMatchesSpecSpec)) purlWithinMatchesSpecCard

/-- THE TIED CARD OF 'provenderlaw2.PurlWithinIsRight'. -/
def purlWithinIsRightCard : Claim7 := { stood := { row := purlWithinIsRightRow, standIns := [], harness := (true, "b61d2844d230167f28e49e0e61ab14104db959dc876b2f6f65bd8aefff07c350"), looks := false }, kinds := [], alts := [], laidByText := true, laidKinds := [.data, .data, .data, .data, .pinned], laidTests := true, laidLooks := .later }
def PurlWithinIsRightCardSaid : Prop := Claim7.holds Tryz.pinned (.plain (OpenSpec.ofChange purlWithinIsRightSpec)) purlWithinIsRightCard

/-- THE TIED CARD OF 'provenderlaw2.PurlMeetIsRight'. -/
def purlMeetIsRightCard : Claim7 := { stood := { row := purlMeetIsRightRow, standIns := [], harness := (true, "b61d2844d230167f28e49e0e61ab14104db959dc876b2f6f65bd8aefff07c350"), looks := false }, kinds := [], alts := [], laidByText := true, laidKinds := [.data, .data, .data, .data, .pinned], laidTests := true, laidLooks := .later }
def PurlMeetIsRightCardSaid : Prop := Claim7.holds Tryz.pinned (.plain (OpenSpec.ofChange purlMeetIsRightSpec)) purlMeetIsRightCard

/-- THE SECOND FORM's CARD OF 'provenderlaw2.PurlPatternsMatchSpec'. -/
def purlPatternsMatchSpecUptoCard : Claim7 := { stood := { row := purlPatternsMatchSpecUptoRow, standIns := [], harness := (true, "b61d2844d230167f28e49e0e61ab14104db959dc876b2f6f65bd8aefff07c350"), looks := false }, kinds := [], alts := [], laidByText := true, laidKinds := [.data, .pinned], laidTests := true, laidLooks := .later }
def PurlPatternsMatchSpecUptoCardSaid : Prop := Claim7.holds Tryz.pinned (.plain (OpenSpec.upto purlPatternsMatchSpecSpec)) purlPatternsMatchSpecUptoCard

/-- THE SECOND FORM's CARD OF 'provenderlaw2.PurlWithinMatchesSpec'. -/
def purlWithinMatchesSpecUptoCard : Claim7 := { stood := { row := purlWithinMatchesSpecUptoRow, standIns := [], harness := (true, "b61d2844d230167f28e49e0e61ab14104db959dc876b2f6f65bd8aefff07c350"), looks := false }, kinds := [], alts := [], laidByText := true, laidKinds := [.data, .data, .data, .data, .pinned], laidTests := true, laidLooks := .later }
def PurlWithinMatchesSpecUptoCardSaid : Prop := Claim7.holds Tryz.pinned (.plain (OpenSpec.upto purlWithinMatchesSpecSpec)) purlWithinMatchesSpecUptoCard

/-- THE SECOND FORM's CARD OF 'provenderlaw2.PurlWithinIsRight'. -/
def purlWithinIsRightUptoCard : Claim7 := { stood := { row := purlWithinIsRightUptoRow, standIns := [], harness := (true, "b61d2844d230167f28e49e0e61ab14104db959dc876b2f6f65bd8aefff07c350"), looks := false }, kinds := [], alts := [], laidByText := true, laidKinds := [.data, .data, .data, .data, .pinned], laidTests := true, laidLooks := .later }
def PurlWithinIsRightUptoCardSaid : Prop := Claim7.holds Tryz.pinned (.plain (OpenSpec.upto purlWithinIsRightSpec)) purlWithinIsRightUptoCard

/-- THE SECOND FORM's CARD OF 'provenderlaw2.PurlMeetIsRight'. -/
def purlMeetIsRightUptoCard : Claim7 := { stood := { row := purlMeetIsRightUptoRow, standIns := [], harness := (true, "b61d2844d230167f28e49e0e61ab14104db959dc876b2f6f65bd8aefff07c350"), looks := false }, kinds := [], alts := [], laidByText := true, laidKinds := [.data, .data, .data, .data, .pinned], laidTests := true, laidLooks := .later }
def PurlMeetIsRightUptoCardSaid : Prop := Claim7.holds Tryz.pinned (.plain (OpenSpec.upto purlMeetIsRightSpec)) purlMeetIsRightUptoCard
end Rows
end Go.Proofs.YtbkjohfobibmlaaGreatDoor
